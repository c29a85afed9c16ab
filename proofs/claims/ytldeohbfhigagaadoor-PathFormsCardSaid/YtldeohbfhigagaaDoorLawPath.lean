/- The walk of PathTells. -/
import Derived.Test.YtldeohbfhigagaaDoorPathF
import Derived.Test.YtldeohbfhigagaaDoorMask
set_option linter.unusedVariables false
set_option linter.unusedSimpArgs false
namespace Go.Proofs.YtldeohbfhigagaaDoor
open Go.RowKit

structure P13 (n a b lv : Int) : Prop where
  hn : I64 n
  ha : I64 a
  hb : I64 b
  hl : I64 lv
theorem wrap_in (x : Int) : I64 (IntKind.i64.wrap x) := by rw [IntKind.wrap_i64]; unfold I64; omega
theorem wrap64_in (x : Int) : I64 (wrap64 x) := by simp only [wrap64]; unfold I64; omega
theorem and_i64_in (a b : Int) : I64 (bits .and .i64 a b) := wrap_in _
set_option maxHeartbeats 2000000 in
set_option maxRecDepth 100000 in
theorem w_tells0 (leaves a b level : Int) (w : World) (h : P13 leaves a b level) (hT : TabW w) :
    Calls Tryd.prog 5 #[.int .i64 leaves, .int .i64 a, .int .i64 b, .int .i64 level] w fun e w' => e = .returned (.bool true) ∧ Below w.heap.size w w' := by
  have H := Lib.hid h
  clear h
  go_enter Tryd.func5, Tryd.ntmps5
  go_wp2
  go_loopw [0, 1, 2, 3, 9] (fun s0 s1 s2 s3 s9 wr => ∃ (n a b lv : Int) (i : Nat), i ≤ 2 ∧ s0 = .int .i64 n ∧ s1 = .int .i64 a ∧ s2 = .int .i64 b ∧ s3 = .int .i64 lv ∧ s9 = .int .i64 (i : Int) ∧ P13 n a b lv ∧ Below w.heap.size w wr ∧ TabW wr) (fun _ _ _ _ i _ => 3 - (intOf i).toNat)
  case atStart => exact ⟨_, _, _, _, 0, by omega, rfl, rfl, rfl, rfl, rfl, H.out, Below.refl _ _, hT⟩
  case round =>
    obtain ⟨n, a, b, lv, i, hi, rfl, rfl, rfl, rfl, rfl, hP, hB, hTr⟩ := hrel
    by_cases hlt : i < 2
    · have k1 := c_at n a lv wr hP.hn hTr
      have HP := Lib.hid hP
      clear hP
      have hs := hB.size
      go_wp2_with fail
      refine k1.mono ?_
      rintro e w' ⟨rfl, q1, rfl⟩
      clear k1
      have hT2 : TabW (wr.drewN q1) := hTr.below (below_drewN (Below.refl _ _) _) (Nat.le_refl _)
      have hB2 : Below w.heap.size w (wr.drewN q1) := below_drewN hB _
      have hs2 : w.heap.size ≤ (wr.drewN q1).heap.size := hs
      generalize (wr.drewN q1) = w2 at *
      clear hTr hB hs
      go_wp2_with fail
      refine (c_rAt n a lv _ HP.out.hn HP.out.hl).mono ?_
      rintro e w' ⟨rfl, rfl⟩
      generalize atF n a lv = r
      obtain ⟨r1, r2⟩ := r
      go_wp2_with fail
      refine (c_dep n _ HP.out.hn hT2).mono ?_
      rintro e w' ⟨rfl, rfl⟩
      go_wp2_with fail
      refine (c_rDep n _ HP.out.hn).mono ?_
      rintro e w' ⟨rfl, rfl⟩
      go_wp2_with fail
      refine (c_buc n _ HP.out.hn).mono ?_
      rintro e w' ⟨rfl, rfl⟩
      go_wp2_with fail
      refine (c_rBuc n _ HP.out.hn).mono ?_
      rintro e w' ⟨rfl, rfl⟩
      go_wp2_with fail
      refine (c_on n a _ HP.out.hn hT2).mono ?_
      rintro e w3 ⟨v, rfl, ho, hb3⟩
      have hB3 := hB2.trans (hb3.mono hs2)
      have hT3 := hT2.below hb3 (Nat.le_refl _)
      go_wp2_with fail
      refine (c_rOn n a _ HP.out.hn).mono ?_
      rintro e w4 ⟨v', rfl, ho', hb4⟩
      have hs3 := hb3.size
      have hs4 := hb4.size
      have hB4 := hB3.trans (hb4.mono (by omega))
      have hT4 := hT3.below hb4 (Nat.le_refl _)
      have hl17 := onF_len n a
      obtain ⟨A, ca, rfl, -, -, hr1⟩ := (ho.below hb4).form
      obtain ⟨A', ca', rfl, -, -, hr2⟩ := ho'.form
      go_wp2_with fail
      refine (c_sameInts _ _ _ _ _ _ _ _ _ hr1 hr2 (by omega) (by omega)).mono ?_
      rintro e w5 ⟨rfl, q5, rfl⟩
      rw [decide_eq_true (rfl : onF n a = onF n a)]
      have hB5 := below_drewN hB4 q5
      have hT5 : TabW (w4.drewN q5) := hT4.below (below_drewN (Below.refl _ _) q5) (Nat.le_refl _)
      generalize w4.drewN q5 = w5 at *
      clear ho ho' hr1 hr2 hb3 hb4 hB4 hT4 hB3 hT3 hT2 hB2 hs3 hs4 hs2 hl17
      go_wp2_with fail
      refine (c_meet n a b _ HP.out.hn hT5).mono ?_
      rintro e w6 ⟨rfl, rfl⟩
      go_wp2_with fail
      refine (c_rMeet n a b _ HP.out.hn).mono ?_
      rintro e w7 ⟨rfl, hb7⟩
      have hB7 := hB5.trans (hb7.mono hB5.size)
      have hT7 := hT5.below hb7 (Nat.le_refl _)
      clear hB5 hT5 hb7
      have hm := m255 n
      have hm2 := m31 lv
      have hlv0 : 0 ≤ lv % 32 ∧ lv % 32 < 32 := by omega
      obtain ⟨hlv0, hlv1⟩ := hlv0
      obtain ⟨k, hk⟩ : ∃ k : Nat, n % 256 % 17 = (k : Int) := ⟨(n % 256 % 17).toNat, by omega⟩
      have hk0 : 0 ≤ (k : Int) ∧ (k : Int) ≤ 16 := by omega
      obtain ⟨hk0, hk1⟩ := hk0
      have hn0 : 0 ≤ n % 256 ∧ n % 256 < 256 := by omega
      obtain ⟨hn0, hn1⟩ := hn0
      go_wp2
      exact ⟨⟨_, _, _, _, i + 1, by omega, rfl, rfl, rfl, rfl, by go_num, ⟨by first | exact wrap64_in _ | exact and_i64_in _ _ | exact wrap_in _ | (unfold I64; omega), by first | exact wrap64_in _ | exact and_i64_in _ _ | exact wrap_in _ | (unfold I64; omega), by first | exact wrap64_in _ | exact and_i64_in _ _ | exact wrap_in _ | (unfold I64; omega), by first | exact wrap64_in _ | exact and_i64_in _ _ | exact wrap_in _ | (unfold I64; omega)⟩, hB7, hT7⟩, by simp [intOf]; omega⟩
    · obtain rfl : i = 2 := by omega
      have hL2 := c_rLv 2 wr ⟨by decide, by decide⟩
      rw [show lvB 2 = true by decide +kernel] at hL2
      go_wp2_with fail
      refine hL2.mono ?_
      rintro e w' ⟨rfl, rfl⟩
      go_wp2_with fail
      refine (c_awake13 _ hTr).mono ?_
      rintro e w' ⟨rfl, hb⟩
      go_wp2
      go_ret
      exact ⟨rfl, hB.trans (hb.mono hB.size)⟩
theorem i64_wf {a : Int} (h : (Lit.int .i64 a).wf = true) : I64 a := by
  simp [Lit.wf, IntKind.min, IntKind.max, IntKind.signed, IntKind.bits] at h
  exact ⟨h.1, h.2⟩
theorem w_PathTells (leaves a b level : Int) (w : World) (w0 : (Lit.int .i64 leaves).wf = true) (w1 : (Lit.int .i64 a).wf = true) (w2 : (Lit.int .i64 b).wf = true) (w3 : (Lit.int .i64 level).wf = true) (hT : TabW w) :
    Calls Tryd.prog 5 #[.int .i64 leaves, .int .i64 a, .int .i64 b, .int .i64 level] w fun e w' => e = .returned (.bool true) ∧ Below w.heap.size w w' :=
  w_tells0 leaves a b level w ⟨i64_wf w0, i64_wf w1, i64_wf w2, i64_wf w3⟩ hT
end Go.Proofs.YtldeohbfhigagaaDoor
