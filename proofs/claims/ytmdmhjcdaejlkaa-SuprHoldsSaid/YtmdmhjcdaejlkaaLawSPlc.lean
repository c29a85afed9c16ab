/- The walk of SuprPlaces. -/
import Derived.Test.YtmdmhjcdaejlkaaBlank10
import Derived.Test.YtmdmhjcdaejlkaaRow
import Derived.Lib.Zigzag
set_option linter.unusedVariables false
set_option linter.unusedSimpArgs false
namespace Go.Proofs.Ytmdmhjcdaejlkaa
open Go.RowKit

theorem epN_par {e i : Nat} (he : e < 18446744073709551616) (h : e % 2 ≠ i) : epN (textL e) i = none := epN_no fun hc => by rw [nOf_text he] at hc; exact h hc.2
theorem epN_len {b : List UInt8} {i : Nat} (h : b.length ≠ 13) : epN b i = none := epN_no fun hc => h (by rw [hc.1, textL_length])
theorem epN_first {t : List UInt8} {i : Nat} {x : UInt8} (h : x ≠ 101) : epN (x :: t) i = none := epN_no fun hc => by
  have h1 : (x :: t)[0]? = (textL (nOf (x :: t)))[0]? := by rw [← hc.1]
  have h2 : ∀ k, (textL k)[0]? = some 101 := fun k => rfl
  rw [h2] at h1
  exact h (by simpa using h1)
theorem sp_data {key X : List UInt8} {a : Nat} (hb : openL key (List.replicate 40 0) = none) (ha : a ≤ 1) (hX : X.length ≤ 18) :
    epLast key ((dkNew 4 40).write (a : Int) (sealL key 1 0 X 40)) ((0 : Nat) : Int) = epN X a := by
  have hl : (sealL key 1 0 X 40).length = 40 := sealL_length (by omega)
  have hop : openL key (sealL key 1 0 X 40) = some X := openL_sealL (by omega) (by decide)
  have hh : (dkNew 4 40).has (a : Int) = true := by
    rcases (show a = 0 ∨ a = 1 by omega) with rfl | rfl <;> decide
  have hat := seal_at (D := dkNew 4 40) (q := (a : Int)) (s := 40) hh rfl hl
  have e0 := fun i => epAt_fresh (key := key) (bl := 4) (s := 40) (by decide) hb ((0 : Nat) : Int) i
  simp only [show ((40 : Nat) : Int) = 40 from rfl] at e0
  have e1 : epAt key ((dkNew 4 40).write (a : Int) (sealL key 1 0 X 40)) ((0 : Nat) : Int) a = epN X a := by
    unfold epAt
    rw [show ((0 : Nat) : Int) + (a : Int) = (a : Int) by omega, hat, hop]
    rfl
  have e2 : ∀ i, i ≠ a → epAt key ((dkNew 4 40).write (a : Int) (sealL key 1 0 X 40)) ((0 : Nat) : Int) i = none := fun i hi => by
    rw [← e0 i]
    unfold epAt
    rw [write_at_ne (by omega)]
  unfold epLast
  rcases (show a = 0 ∨ a = 1 by omega) with rfl | rfl
  · rw [e1, e2 1 (by decide)]; exact maxO_none _
  · rw [e1, e2 0 (by decide)]; rfl
/-- bytes behind bytes, where there is no room -/
theorem run_catG (W : World) {g n cap m c : Nat} {A : Option Addr} {xs ys : List UInt8} (h1 : RdB W (some ⟨g, 0, none⟩) n xs) (h2 : RdB W A m ys) (hn : 0 < n) (hm : 0 < m) (hc : cap < n + m) (hs : n + m ≤ 1000000) :
    ∃ v W', (Builtin.append_ #[24, 24] 24 #[.slice (some ⟨g, 0, none⟩) n cap, .slice A m c]).run Try.prog W = .ok v W' ∧ OwnB W' W.heap.size 5 v (xs ++ ys) ∧ Below W.heap.size W W' := by
  obtain ⟨i, hi, hz, hss, hby⟩ := info_parts8
  obtain ⟨ad0, e0, hc0⟩ := h1.2 hn
  cases e0
  obtain ⟨ad2, e2, hc2⟩ := h2.2 hm
  subst e2
  have l1 := h1.len
  have l2 := h2.len
  obtain ⟨v, w3, hrun, ho3, hg3⟩ := run_append_arg_grows (P := Try.prog) (w := W) 24 24 5 i (.int .u8 0) 1 1 Try.underlying24 hi hz hss hby rfl (by decide) ⟨g, 0, none⟩ n cap (bv xs) (by rw [bv_length]; omega) hc0 ad2 m c (bv ys) (by rw [bv_length]; omega) hc2 hc (by unfold maxLen; omega) (by omega)
  refine ⟨v, w3, hrun, ?_, ⟨hg3.os, hg3.tape, hg3.output, hg3.size, fun k hk => hg3.block k hk (by simp)⟩⟩
  unfold OwnB
  rw [bv_append, List.length_append, l1, l2]
  exact ho3
/-- the first of the call's own bytes, turned -/
theorem own_first {W : World} {B : Nat} {v : Value} {xs : List UInt8} (h : OwnB W B 5 v xs) (hx : 0 < xs.length) : ∃ g c cur, v = .slice (some ⟨g, 0, none⟩) xs.length c ∧ B ≤ g ∧ Row W g cur 5 ∧ 0 < cur.size ∧
    ∀ W1 y, Upd g (cur.setIfInBounds 0 (.int .u8 (y : UInt8).toNat)) 5 W W1 → RdB W1 (some ⟨g, 0, none⟩) xs.length (y :: xs.drop 1) := by
  obtain ⟨A, c', e1, -, -, hr⟩ := h.form
  rcases h.2 with ⟨h0, e⟩ | ⟨g, cap, cur, hv, hB, hrow, h5, h6, h7, h8⟩
  · subst e1
    simp only [Value.slice.injEq] at h0
    omega
  · subst e1
    simp only [Value.slice.injEq] at hv
    obtain ⟨rfl, -, rfl⟩ := hv
    obtain ⟨ad, ea, hcc⟩ := hr.2 hx
    cases ea
    have hsz : 0 < cur.size := by omega
    refine ⟨g, c', cur, rfl, hB, hrow, hsz, fun W1 y hu => ⟨?_, fun _ => ⟨_, rfl, fun j u hj => ?_⟩⟩⟩
    · rw [bv_length, List.length_cons, List.length_drop]; omega
    · rw [ad_none]
      rw [Nat.zero_add]
      refine Row.cell (show Row W1 g _ 5 from hu.row) j ?_
      cases j with
      | zero =>
        rw [bv_get] at hj
        rw [Array.getElem?_setIfInBounds_self_of_lt hsz]
        simpa using hj
      | succ j =>
        rw [Array.getElem?_setIfInBounds_ne (by omega)]
        have h1 := hcc (j + 1) u (by rw [bv_get] at hj ⊢; rw [List.getElem?_cons_succ, List.getElem?_drop] at hj; rw [Nat.add_comm]; exact hj)
        rw [ad_none, Nat.zero_add] at h1
        have h2 : W.cell? ⟨g, j + 1, none⟩ = cur[j + 1]? := cell_of_row _ _ _ _ _ _ hrow
        rw [← h2]; exact h1
set_option maxHeartbeats 8000000 in
set_option maxRecDepth 100000 in
theorem w_splc0 (key : List UInt8) (hk : key.length = 32) (e : Nat) (he : e < 18446744073709551616) (wh : Int) (w : World) :
    Calls Try.prog 6 #[.agg (bv key).toArray, .int .u64 (e : Int), .int .i64 wh] w fun e w' => e = .returned (.bool true) ∧ Below w.heap.size w w' := by
  have HK := Lib.hid hk
  have HE := Lib.hid he
  have r0 := Row.new w (bv key).toArray 22
  have hB0 := below_alloc (Below.refl w.heap.size w) (.cells (bv key).toArray 22)
  have hlB : w.heap.size < (w.alloc (.cells (bv key).toArray 22)).heap.size := by simp
  have hm3 := m3 wh
  obtain ⟨m, hm⟩ : ∃ m : Int, wh % 4 = m := ⟨_, rfl⟩
  have hm0 : 0 ≤ m := by omega
  have hm4 : m < 4 := by omega
  rw [hm] at hm3
  obtain ⟨a1, ha1⟩ : ∃ a1 : Nat, e % 2 = a1 := ⟨_, rfl⟩
  have hand := Go.Lib.u64_and1 (e : Int) (by omega) (by omega)
  rw [show (e : Int) % 2 = (a1 : Int) by omega] at hand
  have ha11 : a1 ≤ 1 := by omega
  have hw1 : IntKind.i64.wrap (a1 : Int) = (a1 : Int) := IntWalk.i64_in _ (by omega)
  have HA1 := Lib.hid ha1
  clear hk he ha1 hm
  go_enter Try.func6, Try.ntmps6
  go_upto_region 1 with fail
  generalize w.alloc (.cells (bv key).toArray 22) = w0 at *
  generalize hBs : w0.heap.size = bs at *
  have HNW := Lib.hid (i_new 4 40 w0 (by decide) (by decide))
  rw [hBs] at HNW
  clear hBs
  go_upto_region 2 with (go_at_call 17; (with_reducible refine HNW.out.mono ?_); rintro e w1 ⟨b, rfl, hI, hb1⟩)
  have r1 := r0.below hb1 (by omega)
  have hB1 := hB0.trans (hb1.mono (Nat.le_of_lt hlB))
  have hn1 := p_new b key HK.out 1 (by decide) w1
  simp only [show ((1 : Nat) : Int) = 1 from rfl] at hn1
  have HN1 := Lib.hid hn1
  clear hn1
  go_upto_region 5 with (first | (apply wpl_loadS (ty := 22); rfl; rfl; rfl; kernel_rfl; exact r1; (simp only [List.size_toArray, bv_length, HK.out]; kernel_rfl); simp only [Act.put, List.setIfInBounds_toArray, List.set_cons_zero, List.set_cons_succ]) | (go_at_call 18; (with_reducible refine HN1.out.mono ?_); rintro e w2 ⟨g, rfl, hP, hg, hb2⟩))
  have hgb : bs ≤ g := Nat.le_trans hI.le hg
  have hI2 := hI.below hb2
  have r2 := r1.below hb2 r1.lt
  have hB2 := below_two hB1 hb2
  clear HNW HN1 hI hb1 hB0 r0 r1 hB1 hb2 hg
  obtain ⟨bo, hbo⟩ : ∃ bo, (openL key (List.replicate 40 0)).isSome = bo := ⟨_, rfl⟩
  have HBK := Lib.hid (c_blank10 key HK.out 40 (by decide) 40 rfl bo hbo w2)
  have HBO := Lib.hid hbo
  clear hbo
  cases bo with
  | true =>
    go_upto_region 6 with (first | (first | (apply wpl_loadS (ty := 22); rfl; rfl; rfl; kernel_rfl; exact r2; (simp only [List.size_toArray, bv_length, HK.out]; kernel_rfl); simp only [Act.put, List.setIfInBounds_toArray, List.set_cons_zero, List.set_cons_succ])) | (go_at_call 30; (with_reducible refine HBK.out.mono ?_); rintro e w3 ⟨rfl, hb3⟩))
    have q3 := r2.below hb3 r2.lt
    have hP3 := hP.below hb3 hP.lt
    have hI3 := hI2.below hb3
    have hB3 := below_two hB2 hb3
    clear HBK r2 hP hI2 hB2 hb3
    clear HBO
    go_wp2_with (go_at_call 31; (with_reducible refine (c_awake10 _).mono ?_); rintro e w4 ⟨rfl, hb4⟩)
    go_ret
    exact ⟨rfl, below_two hB3 hb4⟩
  | false =>
    have hbn : openL key (List.replicate 40 0) = none := by
      have hbo := HBO.out
      cases h : openL key (List.replicate 40 0) with
      | none => rfl
      | some x => rw [h] at hbo; cases hbo
    have HBN := Lib.hid hbn
    clear HBO hbn
    go_upto_region 7 with (first | (first | (apply wpl_loadS (ty := 22); rfl; rfl; rfl; kernel_rfl; exact r2; (simp only [List.size_toArray, bv_length, HK.out]; kernel_rfl); simp only [Act.put, List.setIfInBounds_toArray, List.set_cons_zero, List.set_cons_succ])) | (go_at_call 30; (with_reducible refine HBK.out.mono ?_); rintro e w3 ⟨rfl, hb3⟩))
    have q3 := r2.below hb3 r2.lt
    have hP3 := hP.below hb3 hP.lt
    have hI3 := hI2.below hb3
    have hB3 := below_two hB2 hb3
    clear HBK r2 hP hI2 hB2 hb3
    have HBt := Lib.hid hB3
    have hl1 : RdB (w3.alloc (.cells #[.int .u8 101, .int .u8 112, .int .u8 111, .int .u8 99, .int .u8 104] 5 (5, 6))) (some ⟨w3.heap.size, 0, none⟩) 5 [101, 112, 111, 99, 104] := rd_lit w3 [.int .u8 101, .int .u8 112, .int .u8 111, .int .u8 99, .int .u8 104] 5 (5, 6) 5 rfl
    have hb4 := below_alloc (Below.refl w3.heap.size w3) (.cells #[.int .u8 101, .int .u8 112, .int .u8 111, .int .u8 99, .int .u8 104] 5 (5, 6))
    have hcv := Go.Lib.run_convert_bytes_const (P := Try.prog) w3 24 5 #[.int .u8 101, .int .u8 112, .int .u8 111, .int .u8 99, .int .u8 104] 5 5 Try.underlying24 Try.underlying5
    have HPT := Lib.hid (fun W => c_rPut8 e W)
    have hlt := textL_length e
    have HLT := Lib.hid hlt
    clear hlt
    go_wp2_with fail
    refine (HPT.out _).mono ?_
    rintro r w5 ⟨A5, c5, rfl, lc5, -, hr5, hb5⟩
    obtain ⟨v6, w6, hrun, ho6, hb6⟩ := run_catG w5 (cap := 5) (c := c5) (hl1.below hb5 (by simp)) hr5 (by decide) (by decide) (by decide) (by decide)
    have hbt : Below w3.heap.size w3 w6 := below_two (below_two hb4 hb5) hb6
    have hsz : w3.heap.size ≤ w5.heap.size := (below_two hb4 hb5).size
    have ho : OwnB w6 w3.heap.size 5 v6 (textL e) := ho6.mono hsz
    clear hl1 hb4 hcv HPT hr5 hb5 ho6 hb6 hsz
    go_upto_region 10 with (at_builtin; refine wpl_appRun' rfl rfl rfl rfl hrun ?_)
    obtain ⟨A6, c6, rfl, lc6, lm6, hr6⟩ := ho.form
    have hfr : Free (dkNew 4 40) := ⟨rfl, rfl⟩
    have hsz : (dkNew 4 40).size = 40 := rfl
    clear hrun
    rcases (show m = 0 ∨ m = 1 ∨ m = 2 ∨ m = 3 by omega) with rfl | rfl | rfl | rfl
    case' inl =>
      rw [HLT.out] at hr6 ⊢
      have hbx := hbt
      have hep : epLast key ((dkNew 4 40).write (a1 : Int) (sealL key 1 0 (textL e) 40)) ((0 : Nat) : Int) = some e := by rw [sp_data HBN.out ha11 (by rw [HLT.out]; decide)]; exact epN_text HE.out HA1.out
      have hrx := hr6
      generalize hX : textL e = X at *
      have hxl : X.length = 13 := HLT.out
      clear hX HLT ho hr6 hbt lc6 lm6
      go_upto_region 18 with fail
      have hpl := ha11
      clear hand hw1 HA1 ha11
      generalize a1 = pa at *
    case' inr.inl =>
      rw [HLT.out] at hr6 ⊢
      obtain ⟨a2, ha2⟩ : ∃ a2 : Nat, 1 - a1 = a2 := ⟨_, rfl⟩
      have ha2i : (1 : Int) - (a1 : Int) = (a2 : Int) := by omega
      have ha21 : a2 ≤ 1 := by omega
      have hw2 : IntKind.i64.wrap (a2 : Int) = (a2 : Int) := IntWalk.i64_in _ (by omega)
      have hbx := hbt
      have hep : epLast key ((dkNew 4 40).write (a2 : Int) (sealL key 1 0 (textL e) 40)) ((0 : Nat) : Int) = none := by rw [sp_data HBN.out ha21 (by rw [HLT.out]; decide)]; exact epN_par HE.out (by rw [HA1.out]; omega)
      have hrx := hr6
      generalize hX : textL e = X at *
      have hxl : X.length = 13 := HLT.out
      clear hX HLT ho hr6 hbt lc6 lm6 ha2
      go_upto_region 18 with fail
      have hpl := ha21
      clear hand hw1 HA1 ha11 ha2i ha21 hw2
      generalize a2 = pa at *
    case' inr.inr.inl =>
      rw [HLT.out] at hr6 lc6 ⊢
      obtain ⟨A7, e7, hrx⟩ := cut_to hr6 lc6 12 12 rfl (by decide)
      have hbx := hbt
      have hxl : ((textL e).take 12).length = 12 := by rw [List.length_take, HLT.out]; rfl
      have hep : epLast key ((dkNew 4 40).write (a1 : Int) (sealL key 1 0 ((textL e).take 12) 40)) ((0 : Nat) : Int) = none := by rw [sp_data HBN.out ha11 (by rw [hxl]; decide)]; exact epN_len (by rw [hxl]; decide)
      generalize (textL e).take 12 = X at *
      clear HLT ho hr6 hbt lm6
      go_upto_region 18 with fail
      have hpl := ha11
      clear hand hw1 HA1 ha11 e7 lc6
      generalize a1 = pa at *
    case' inr.inr.inr =>
      rw [HLT.out] at hr6 lc6 ⊢
      obtain ⟨gt, ct, cur, et, hgt, hrow, hcs, hup⟩ := own_first ho (by rw [HLT.out]; decide)
      simp only [Value.slice.injEq] at et
      obtain ⟨rfl, -, rfl⟩ := et
      have HUP := Lib.hid (fun W1 => hup W1 69)
      have hxl : ((69 : UInt8) :: (textL e).drop 1).length = 13 := by rw [List.length_cons, List.length_drop, HLT.out]
      have hep : epLast key ((dkNew 4 40).write (a1 : Int) (sealL key 1 0 ((69 : UInt8) :: (textL e).drop 1) 40)) ((0 : Nat) : Int) = none := by rw [sp_data HBN.out ha11 (by rw [hxl]; decide)]; exact epN_first (by decide)
      rw [HLT.out] at HUP
      generalize (69 : UInt8) :: (textL e).drop 1 = X at *
      clear HLT ho hr6 hup
      go_upto_region 18 with (apply wpl_storeY'; rfl; rfl; rfl; rfl; kernel_rfl; rfl; rfl; exact hrow; exact hcs; intro W7 hu7)
      have hrx := HUP.out W7 hu7
      have hbx := hbt.trans (hu7.below hgt)
      have hpl := ha11
      clear hand hw1 HA1 ha11 lc6 hrow hcs HUP hbt
      generalize a1 = pa at *
    all_goals
      have hwr := fun c => p_write (hP3.below hbx hP3.lt) (hI3.below hbx) (by decide) hgb hfr.goes (pa : Int) (wf_i64 (by omega) (by omega)) _ _ c X hrx (Nat.zero_le _) (by decide) true (by rw [hsz, fitsB_iff]; omega)
      rw [show (dkNew 4 40).size.toNat = 40 from rfl] at hwr
      simp only [if_true] at hwr
      have hfr1 : Free ((dkNew 4 40).write (pa : Int) (sealL key 1 0 X 40)) := hfr.write _ _
      have hB5 := below_two hB3 hbx
      have HWR := Lib.hid hwr
      clear hwr hrx hP3 hI3 hbx hfr hsz hB3 HBt
      generalize (dkNew 4 40).write (pa : Int) (sealL key 1 0 X 40) = D1 at *
      go_upto_region 19 with (go_at_call 19; (with_reducible refine (HWR.out _).mono ?_); rintro r w8 ⟨rfl, hI8, hP8, hp8⟩)
      have hla := c_lastE hP8 hI8 (by decide) hfr1 0 0 rfl (by decide)
      rw [hep] at hla
      simp only [Option.getD, Option.isSome, show ((0 : Nat) : Int) = 0 from rfl] at hla
      have HLA := Lib.hid hla
      have hB8 := hB5.trans (hp8.1.mono (Nat.le_of_lt hlB))
      clear hla hep hB5 hp8 HWR hI8 hP8
      go_wp2_with (first | (go_at_call 34; (with_reducible refine HLA.out.mono ?_); rintro r w9 ⟨rfl, hI9, hP9, hd9⟩; have hB9 := hB8.trans (hd9.below.mono (Nat.le_of_lt hlB))) | (go_at_call 31; (with_reducible refine (c_awake10 _).mono ?_); rintro r w10 ⟨rfl, hb10⟩))
      go_ret
      exact ⟨rfl, below_two hB9 hb10⟩
theorem w_SuprPlaces (y0 : List UInt8) (a1 a2 : Int) (w : World) (w0 : y0.length = 32) (w1 : (Lit.int .u64 a1).wf = true) (w2 : (Lit.int .i64 a2).wf = true) :
    Calls Try.prog 6 #[.agg (bv y0).toArray, .int .u64 a1, .int .i64 a2] w fun e w' => e = .returned (.bool true) ∧ Below w.heap.size w w' := by
  have h1 : 0 ≤ a1 ∧ a1 ≤ 18446744073709551615 := by simpa [Lit.wf, IntKind.min, IntKind.max, IntKind.signed, IntKind.bits] using w1
  obtain ⟨a, rfl⟩ : ∃ k : Nat, a1 = (k : Int) := ⟨a1.toNat, by omega⟩
  exact w_splc0 y0 w0 a (by omega) a2 w
end Go.Proofs.Ytmdmhjcdaejlkaa
