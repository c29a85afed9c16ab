/- The walk of FlotParts. -/
import Derived.Test.YtldeohbfhigagaaLawTells
import Derived.Test.YtldeohbfhigagaaTbl
import Derived.Test.YtldeohbfhigagaaMask
set_option linter.unusedVariables false
set_option linter.unusedSimpArgs false
namespace Go.Proofs.Ytldeohbfhigagaa
open Go.RowKit Flo

theorem run_tbl {P : Program} (t : TypeId) (f : Nat) (w : World) :
    (binOp .quo t (.float .f64 (floatOfInt .f64 ((f : Int) % 1000 + 1))) (.float .f64 4652007308841189376)).run P w = .ok (.float .f64 (tblF (f % 1000))) w := by
  refine run_float_arith w .quo t .f64 _ _ _ ?_
  have := tbl_some (i := f % 1000) (Nat.mod_lt _ (by decide))
  rw [show ((f : Int) % 1000 + 1) = (((f % 1000 : Nat) : Int) + 1) by omega]
  exact this
/-- what Part says where it answers -/
theorem PartIs.tells {n k : Int} {f : Nat} (h : PartIs n f k true) : ∃ m j : Nat, n = (m : Int) ∧ k = (j : Int) ∧ m ≤ 1000000 ∧ f ≤ 4607182418800017408 ∧ j ≤ big ∧ enB m f j = true ∧ (j = 0 ∨ enB m f (j - 1) = false) := by
  obtain ⟨h⟩ := h
  unfold PartIs0 at h
  split at h
  · rename_i hc
    obtain ⟨_, h0, h1, h2, h3⟩ := h
    have hp := hc.1
    unfold partOk at hp
    rw [decide_eq_true_iff] at hp
    refine ⟨n.toNat, k.toNat, by omega, by omega, by omega, hp.2.2.2, by omega, h2, ?_⟩
    rcases h3 with h3 | h3
    · left; omega
    · right; exact h3
  · exact absurd h.2 (by simp)
set_option maxHeartbeats 4000000 in
theorem w_parts0 (n : Int) (f : Nat) (w : World) (hn : -9223372036854775808 ≤ n ∧ n ≤ 9223372036854775807) (hf : W64 f) :
    Calls Try.prog 9 #[.int .i64 n, .int .u64 (f : Int)] w fun e w' => e = .returned (.bool true) ∧ Below w.heap.size w w' := by
  have mf := numB_lt f hf
  have hdv := run_tbl (P := Try.prog) 22 f
  have htw : W64 (tblF (f % 1000)) := tbl_w (Nat.mod_lt _ (by decide))
  go_enter Try.func9, Try.ntmps9
  go_wp2_with (first | (go_at_call 30; refine (c_number _ _ (by assumption)).mono ?_; rintro e w' ⟨rfl, rfl⟩))
  go_loopw [0, 5, 6] (fun s0 s5 s6 wr => ∃ (i : Nat) (n' : Int) (x : Nat), i ≤ 2 ∧ s6 = .int .i64 (i : Int) ∧ s0 = .int .i64 n' ∧ s5 = .float .f64 x ∧ (-9223372036854775808 ≤ n' ∧ n' ≤ 9223372036854775807) ∧ W64 x ∧ Below w.heap.size w wr) (fun _ _ i _ => 2 - (intOf i).toNat)
  case atStart => exact ⟨0, n, numB f, by omega, rfl, rfl, rfl, hn, mf, Below.refl _ _⟩
  case round =>
    obtain ⟨i, n', x, hi, rfl, rfl, rfl, hn', hx, hB⟩ := hrel
    clear mf hn
    by_cases hlt : i < 2
    · obtain ⟨m, hmk, hm0, hm1⟩ : ∃ m : Int, bits BinOp.and IntKind.i64 n' 65535 = m ∧ 0 ≤ m ∧ m ≤ 65535 := ⟨_, m65535 n', by omega, by omega⟩
      go_wp2_with (go_at_call 25; refine (c_part n' x _ hx hn').mono ?_; rintro e w1 ⟨k, ok, rfl, hp, hb⟩)
      refine (c_rPart n' x _ hx hn').mono ?_
      rintro e w2 ⟨k2, ok2, rfl, hp2, hb2⟩
      obtain ⟨rfl, rfl⟩ := hp2.same hp
      have hB2 := below_two hB (below_two hb hb2)
      cases ok2
      · clear hp hp2 hb hb2
        go_wp2_with fail
        go_roundw
        case rel => exact ⟨i + 1, m, tblF (f % 1000), by omega, by go_num, rfl, rfl, ⟨by omega, by omega⟩, htw, hB2⟩
        case measure => simp [intOf]; omega
      · obtain ⟨a, j, rfl, rfl, ha, hxm, hj, hen, hlo⟩ := hp.tells
        clear hp hp2 hb hb2
        obtain ⟨r, hr1, _, hr3⟩ := run_parts (P := Try.prog) 22 a j x hj hxm
        rw [hen] at hr3
        have hj2 : j ≤ 1099511627776 := hj
        rcases hlo with rfl | hlo
        · rw [show ((0 : Nat) : Int) = 0 from rfl] at hr1
          go_wp2_with fail
          go_roundw
          case rel => exact ⟨i + 1, m, tblF (f % 1000), by omega, by go_num, rfl, rfl, ⟨by omega, by omega⟩, htw, hB2⟩
          case measure => simp [intOf]; omega
        · rcases Nat.eq_zero_or_pos j with h0 | h0
          · subst h0
            rw [hen] at hlo
            cases hlo
          · obtain ⟨l, rfl⟩ : ∃ l, j = l + 1 := ⟨j - 1, by omega⟩
            rw [show l + 1 - 1 = l by omega] at hlo
            obtain ⟨q, hq1, hq2, _⟩ := run_parts (P := Try.prog) 22 a l x (by unfold big; omega) hxm
            rw [hlo] at hq2
            rw [show ((l + 1 : Nat) : Int) = (l : Int) + 1 by omega] at hr1
            clear hen hlo hj h0
            go_wp2_with fail
            go_roundw
            case rel => exact ⟨i + 1, m, tblF (f % 1000), by omega, by go_num, rfl, rfl, ⟨by omega, by omega⟩, htw, hB2⟩
            case measure => simp [intOf]; omega
    · go_wp2_with (first | (go_at_call 23; refine (c_awake5 _).mono ?_; rintro e w1 ⟨rfl, hb⟩))
      go_ret
      refine ⟨rfl, ?_⟩
      exact below_two hB (by assumption)
theorem w_FlotParts (a0 a1 : Int) (w : World) (w0 : (Lit.int .i64 a0).wf = true) (w1 : (Lit.int .u64 a1).wf = true) :
    Calls Try.prog 9 #[.int .i64 a0, .int .u64 a1] w fun e w' => e = .returned (.bool true) ∧ Below w.heap.size w w' := by
  obtain ⟨f, rfl, hf⟩ := of_wf_u64 w1
  exact w_parts0 a0 f w (of_wf_i64 w0) hf
end Go.Proofs.Ytldeohbfhigagaa
