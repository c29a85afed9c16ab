/- supr.Last. -/
import Derived.Test.YtmdmhjcdaejlkaaSuprP
import Derived.Test.YtmdmhjcdaejlkaaCutS
import Derived.Test.YtmdmhjcdaejlkaaEqB
set_option linter.unusedVariables false
set_option linter.unusedSimpArgs false
namespace Go.Proofs.Ytmdmhjcdaejlkaa
open Go.RowKit

/-- the device after the first i reads from a place on -/
def readsD (D : Dk) (at_ : Int) : Nat → Dk
  | 0 => D
  | i + 1 => (readsD D at_ i).read (at_ + (i : Int))
theorem readsD_at (D : Dk) (at_ q : Int) (i : Nat) : (readsD D at_ i).at_ (readsD D at_ i).now q = D.at_ D.now q := by
  induction i with
  | zero => rfl
  | succ i ih => exact ih
theorem Free.reads {D : Dk} (h : Free D) (at_ : Int) (i : Nat) : Free (readsD D at_ i) := by
  induction i with
  | zero => exact h
  | succ i ih => exact ih.read _
/-- the epoch that holds, behind the first i places -/
def accE (key : List UInt8) (D : Dk) (at_ : Int) : Nat → Option Nat
  | 0 => none
  | i + 1 => maxO (accE key D at_ i) (epAt key D at_ i)
theorem accE_two (key : List UInt8) (D : Dk) (at_ : Int) : accE key D at_ 2 = epLast key D at_ := rfl
theorem maxO_none (x : Option Nat) : maxO x none = x := by cases x <;> rfl
theorem epN_no {b : List UInt8} {i : Nat} (h : ¬ (b = textL (nOf b) ∧ nOf b % 2 = i)) : epN b i = none := by unfold epN; exact if_neg h
theorem epN_yes {b : List UInt8} {i : Nat} (h : b = textL (nOf b) ∧ nOf b % 2 = i) : epN b i = some (nOf b) := by unfold epN; exact if_pos h
theorem nOf_lt (b : List UInt8) : nOf b < 18446744073709551616 := leN_lt64 _ (by rw [List.length_take]; omega)
theorem opP_some {key b x : List UInt8} (h : openL key b = some x) : opP key b = x := by unfold opP; rw [h]; rfl
theorem opP_none {key b : List UInt8} (h : openL key b = none) : opP key b = [] := by unfold opP; rw [h]; rfl
theorem epAt_none {key : List UInt8} {D : Dk} {at_ : Int} {i : Nat} (h : openL key (D.at_ D.now (at_ + (i : Int))) = none) : epAt key D at_ i = none := by unfold epAt; rw [h]; rfl
theorem epAt_some {key : List UInt8} {D : Dk} {at_ : Int} {i : Nat} {x : List UInt8} (h : openL key (D.at_ D.now (at_ + (i : Int))) = some x) : epAt key D at_ i = epN x i := by unfold epAt; rw [h]; rfl
variable {W : World} {g b base n : Nat} {key : List UInt8} {boot seq : Nat} {D : Dk}
set_option maxHeartbeats 8000000 in
set_option maxRecDepth 100000 in
theorem c_lastE (hP : PenAt W g b key boot seq) (hI : In W base b D n) (hn : n ≤ 700000) (hfr : Free D) (at_ : Nat) (x : Int) (hx : x = (at_ : Int)) (hat : at_ ≤ 1000) :
    Calls Try.prog 34 #[.pointer (some ⟨g, 0, none⟩), .int .i64 x] W fun r w' => r = .returned (.tuple #[.int .u64 (((epLast key D (at_ : Int)).getD 0 : Nat) : Int), .bool (epLast key D (at_ : Int)).isSome]) ∧ In w' base b (readsD D (at_ : Int) 2) (n + 2) ∧ PenAt w' g b key boot seq ∧ DR dTy base W w' := by
  subst hx
  have HP0 := Lib.hid hP
  have HI0 := Lib.hid hI
  have HFR := Lib.hid hfr
  rw [← accE_two]
  clear hP hI hfr
  go_enter Try.func34, Try.ntmps34
  go_wp2_with fail
  go_loopw [6, 7, 12] (fun s6 s7 s12 wr => ∃ i : Nat, i ≤ 2 ∧ s12 = .int .i64 (i : Int) ∧ s6 = .int .u64 (((accE key D (at_ : Int) i).getD 0 : Nat) : Int) ∧ s7 = .bool (accE key D (at_ : Int) i).isSome ∧ In wr base b (readsD D (at_ : Int) i) (n + i) ∧ PenAt wr g b key boot seq ∧ DR dTy base W wr) (fun _ _ s12 _ => (2 - intOf s12).toNat)
  case atStart => exact ⟨0, by omega, rfl, rfl, rfl, HI0.out, HP0.out, DR.refl _ _ _⟩
  case round =>
    obtain ⟨i, hi, rfl, rfl, rfl, hIr, hPr, hDr⟩ := hrel
    clear HP0 HI0
    by_cases hend : i < 2
    · have hi2 : (i : Int) < 2 := by omega
      obtain ⟨q, hq⟩ : ∃ q : Int, (at_ : Int) + (i : Int) = q := ⟨_, rfl⟩
      have hwq : IntKind.i64.wrap q = q := IntWalk.i64_in _ (by omega)
      have hrd := p_read hPr hIr (by omega) (HFR.out.reads _ i).goes q (wf_i64 (by omega) (by omega))
      rw [readsD_at] at hrd
      have hns : ∀ x, openL key (D.at_ D.now ((at_ : Int) + (i : Int))) = some x → epAt key D (at_ : Int) i = epN x i := fun x h => epAt_some h
      have hnn := @epAt_none key D (at_ : Int) i
      rw [hq] at hns hnn
      have hsn : accE key D (at_ : Int) (i + 1) = maxO (accE key D (at_ : Int) i) (epAt key D (at_ : Int) i) := rfl
      have hrs : readsD D (at_ : Int) (i + 1) = (readsD D (at_ : Int) i).read q := by rw [← hq]; rfl
      have HNS := Lib.hid hns
      have HNN := Lib.hid hnn
      have HSN := Lib.hid hsn
      have HRS := Lib.hid hrs
      have HRD := Lib.hid hrd
      have HQ := Lib.hid hq
      clear hns hnn hsn hrs hrd
      generalize D.at_ D.now q = bs at *
      obtain ⟨xs, hxs⟩ : ∃ xs, opP key bs = xs := ⟨_, rfl⟩
      have HXS := Lib.hid hxs
      rw [hxs] at HRD
      clear hxs
      obtain ⟨ok, hok⟩ : ∃ ok, (openL key bs).isSome = ok := ⟨_, rfl⟩
      have HOK := Lib.hid hok
      rw [hok] at HRD
      clear hok
      obtain ⟨nx, hnx⟩ : ∃ nx, xs.length = nx := ⟨_, rfl⟩
      have HNX := Lib.hid hnx
      obtain ⟨m, hm⟩ : ∃ m, min nx 5 = m := ⟨_, rfl⟩
      have hmi : (if (5 : Int) < (nx : Int) then (5 : Int) else (nx : Int)) = (m : Int) := by split <;> omega
      have hmn : m ≤ nx := by omega
      have hnf : nOf xs = leN ((xs.drop m).take 8) := by unfold nOf; rw [hnx, hm]
      clear hnx hm
      go_upto_region 7 with (go_at_call 20; (with_reducible refine HRD.out.mono ?_); rintro e w1 ⟨v1, rfl, ho1, hI1, hd1⟩)
      obtain ⟨A1, d1, rfl, ld1, ld2, hr1⟩ := ho1.form
      rw [HNX.out] at hr1 ld1 ⊢
      have hP1 := hPr.dr hd1
      have hD1 := hDr.trans hd1
      have hle1 := hI1.le
      obtain ⟨A2, e2, r2⟩ := cut_from hr1 ld1 (m : Int) m rfl hmn
      have hg := c_leGet A2 (nx - m) (d1 - m) (xs.drop m) w1 r2 (by omega)
      rw [← hnf] at hg
      have HG := Lib.hid hg
      have hkl := nOf_lt xs
      have HKL := Lib.hid hkl
      have HE1 := Lib.hid (@epN_yes xs i)
      have HE2 := Lib.hid (@epN_no xs i)
      clear hg HRD ho1 hPr hIr hDr hd1 hnf r2 hkl
      rw [← HRS.out] at hI1
      generalize nOf xs = k at *
      have HTX := Lib.hid (c_text k w1)
      have htl := textL_length k
      have HTL := Lib.hid htl
      clear htl
      cases ok with
      | false =>
        have ho : openL key bs = none := by have := HOK.out; cases h : openL key bs with
          | none => rfl
          | some x => rw [h] at this; cases this
        have hac : accE key D (at_ : Int) (i + 1) = accE key D (at_ : Int) i := by rw [HSN.out, HNN.out ho, maxO_none]
        go_wp2_with (go_at_call 71; (with_reducible refine HG.out.mono ?_); rintro e w' ⟨rfl, rfl⟩)
        go_roundw
        case rel => exact ⟨i + 1, by omega, by go_num, by rw [hac], by rw [hac], hI1, hP1, hD1⟩
        case measure => simp [intOf]; omega
      | true =>
        have ho : openL key bs = some xs := by
          have h1 := HOK.out
          have h2 := HXS.out
          cases h : openL key bs with
          | none => rw [h] at h1; cases h1
          | some x => rw [opP_some h] at h2; rw [h2]
        have hep := HNS.out xs ho
        have hkt : IntKind.u64.wrap (i : Int) = (i : Int) := IntWalk.u64_in _ ⟨by omega, by omega⟩
        obtain ⟨r2, hr2⟩ : ∃ r2 : Nat, k % 2 = r2 := ⟨_, rfl⟩
        have hr3 : (k : Int) % 2 = (r2 : Int) := by omega
        have hr4 : (k : Int).tmod 2 = (r2 : Int) := by rw [Int.tmod_eq_emod_of_nonneg (by omega)]; exact hr3
        by_cases hc : xs = textL k ∧ r2 = i
        · have hac : accE key D (at_ : Int) (i + 1) = some (max ((accE key D (at_ : Int) i).getD 0) k) := by
            rw [HSN.out, hep, HE1.out (by rw [hr2]; exact hc)]
            cases accE key D (at_ : Int) i with
            | none => simp [maxO]
            | some y => rfl
          obtain ⟨rfl, rfl⟩ := hc
          obtain ⟨ac, hacc⟩ : ∃ ac, (accE key D (at_ : Int) r2).getD 0 = ac := ⟨_, rfl⟩
          rw [hacc] at hac ⊢
          have hmx : (if ac < k then (k : Int) else (ac : Int)) = ((max ac k : Nat) : Int) := by split <;> omega
          have HEQ := Lib.hid (fun w2 B m d c h1 h2 => c_bytesEq w2 A1 B nx m c d (textL k) (textL k) h1 h2 true (by simp))
          generalize accE key D (at_ : Int) r2 = acc at *
          go_wp2_with (first | (go_at_call 71; (with_reducible refine HG.out.mono ?_); rintro e w' ⟨rfl, rfl⟩) | (go_at_call 70; (with_reducible refine HTX.out.mono ?_); rintro e w2 ⟨v2, rfl, ho2, hb2⟩; obtain ⟨A3, c3, rfl, -, -, hr3⟩ := ho2.form; rw [HTL.out] at hr3 ⊢; have hr12 := hr1.below hb2 (Nat.le_refl _)) | (go_at_call 72; (with_reducible refine (HEQ.out _ _ _ _ _ hr12 hr3).mono ?_); rintro e w' ⟨rfl, rfl⟩))
          go_roundw
          case rel => exact ⟨r2 + 1, by omega, by go_num, by rw [hac]; show Value.int IntKind.u64 _ = Value.int IntKind.u64 ((max ac k : Nat) : Int); first | rfl | (congr 1; split <;> omega), by rw [hac]; rfl, hI1.below hb2, hP1.below hb2 hP1.lt, hD1.trans (DR.of_below hb2 hle1)⟩
          case measure => simp [intOf]; omega
        · have hac : accE key D (at_ : Int) (i + 1) = accE key D (at_ : Int) i := by rw [HSN.out, hep, HE2.out (by rw [hr2]; exact hc), maxO_none]
          obtain ⟨ac, hacc⟩ : ∃ ac, (accE key D (at_ : Int) i).getD 0 = ac := ⟨_, rfl⟩
          rw [hacc]
          generalize accE key D (at_ : Int) i = acc at *
          by_cases he : xs = textL k
          · have hri : ¬ r2 = i := fun h => hc ⟨he, h⟩
            have HEQ := Lib.hid (fun w2 B m d c h1 h2 => c_bytesEq w2 A1 B nx m c d xs (textL k) h1 h2 true (by rw [he]; simp))
            clear he hc
            go_wp2_with (first | (go_at_call 71; (with_reducible refine HG.out.mono ?_); rintro e w' ⟨rfl, rfl⟩) | (go_at_call 70; (with_reducible refine HTX.out.mono ?_); rintro e w2 ⟨v2, rfl, ho2, hb2⟩; obtain ⟨A3, c3, rfl, -, -, hr3⟩ := ho2.form; rw [HTL.out] at hr3 ⊢; have hr12 := hr1.below hb2 (Nat.le_refl _)) | (go_at_call 72; (with_reducible refine (HEQ.out _ _ _ _ _ hr12 hr3).mono ?_); rintro e w' ⟨rfl, rfl⟩))
            go_roundw
            case rel => exact ⟨i + 1, by omega, by go_num, by rw [hac, hacc], by rw [hac], hI1.below hb2, hP1.below hb2 hP1.lt, hD1.trans (DR.of_below hb2 hle1)⟩
            case measure => simp [intOf]; omega
          · have HEQ := Lib.hid (fun w2 B m d c h1 h2 => c_bytesEq w2 A1 B nx m c d xs (textL k) h1 h2 false (by simp [he]))
            clear he hc
            go_wp2_with (first | (go_at_call 71; (with_reducible refine HG.out.mono ?_); rintro e w' ⟨rfl, rfl⟩) | (go_at_call 70; (with_reducible refine HTX.out.mono ?_); rintro e w2 ⟨v2, rfl, ho2, hb2⟩; obtain ⟨A3, c3, rfl, -, -, hr3⟩ := ho2.form; rw [HTL.out] at hr3 ⊢; have hr12 := hr1.below hb2 (Nat.le_refl _)) | (go_at_call 72; (with_reducible refine (HEQ.out _ _ _ _ _ hr12 hr3).mono ?_); rintro e w' ⟨rfl, rfl⟩))
            go_roundw
            case rel => exact ⟨i + 1, by omega, by go_num, by rw [hac, hacc], by rw [hac], hI1.below hb2, hP1.below hb2 hP1.lt, hD1.trans (DR.of_below hb2 hle1)⟩
            case measure => simp [intOf]; omega
    · obtain rfl : i = 2 := by omega
      simp only [show ((2 : Nat) : Int) = 2 from rfl]
      go_wp2_with fail
      go_ret2
      exact ⟨rfl, hIr, hPr, hDr⟩
end Go.Proofs.Ytmdmhjcdaejlkaa
