/- dumbwaiterlaw6.Since: the last events. -/
import Derived.Test.YtlbpmboknmbcgaaAwk8
set_option linter.unusedVariables false
set_option linter.unusedSimpArgs false
namespace Go.Proofs.Ytlbpmboknmbcgaa
open Go.RowKit

theorem undE : Try.prog.underlying 28 = some (.slice (Try.prog.elem 28)) := by
  rw [show Try.prog.elem 28 = 32 by unfold Program.elem; rw [Try.underlying28]]; exact Try.underlying28
theorem sizeE (W : World) : (sizeOf (Try.prog.elem 28)).run Try.prog W = .ok 15 W := by
  rw [show Try.prog.elem 28 = 32 by unfold Program.elem; rw [Try.underlying28]]
  exact Try.sizeOf32 W
theorem run_cutE (W : World) (g n c k : Nat) (hk : k < n) (hc : n ≤ c) : (Instr.slice 28 (.slice (some ⟨g, 0, none⟩) n c) (some (.int .i64 (k : Int))) none none).run Try.prog W = .ok (.slice (some ⟨g, k * 15, none⟩) (n - k) (c - k)) W := by
  have := run_slice_l (P := Try.prog) W 28 (some ⟨g, 0, none⟩) n c undE .i64 (k : Int) (by omega) (by omega)
  rw [this, sizeE]
  have h1 : ¬ c = k := by omega
  simp only [Result.andThen_ok, sliced, Int.toNat_natCast, h1, if_false, Option.map_some, ad_none, Nat.zero_add]
variable {W : World} {base b n : Nat} {D : Dk}
set_option maxHeartbeats 2000000 in
set_option maxRecDepth 100000 in
theorem c_since (h : In W base b D n) (hn : n ≤ 800000) (k m : Nat) (hk : D.trace.length = k + m) (hm : 0 < m) :
    Calls Try.prog 52 #[.pointer (some ⟨b, 0, none⟩), .int .i64 (k : Int)] W fun e w' => (∃ g cap, e = .returned (.slice (some ⟨g, k * 15, none⟩) m cap) ∧ m ≤ cap ∧ g < w'.heap.size ∧
      ∀ j x, D.trace[k + j]? = some x → ∃ A c, x.head.length = 12 ∧ BytesAt w' W.heap.size (.slice A x.body.length c) x.body ∧ ∀ i v, (evC x.kind x.at_ x.head (.slice A x.body.length c))[i]? = some v → w'.cell? ⟨g, (k + j) * 15 + i, none⟩ = some v) ∧ In w' base b D n ∧ Below W.heap.size W w' := by
  have HT := Lib.hid (i_trace h (by omega))
  have HK := Lib.hid hk
  have hkl := h.bd.ln
  clear hk
  have hm0 : (0 : Int) < (m : Int) := by omega
  have hlt : ¬ ((k : Int) + (m : Int) < (k : Int)) := by omega
  have hN : ∃ N : Nat, k + m = N := ⟨_, rfl⟩
  obtain ⟨N, hN⟩ := hN
  have hNi : ¬ (N : Int) < (k : Int) := by omega
  have hNk : (k : Int) < (N : Int) := by omega
  go_enter Try.func52, Try.ntmps52
  go_upto_region 2 with (go_at_call 23; (with_reducible refine HT.out.mono ?_); rintro e w1 ⟨vt, rfl, ht, hI, hb⟩)
  have htr := ht
  obtain ⟨ts9, -, -, ht2⟩ := htr
  rcases ht2.2 with ⟨_, h0⟩ | ⟨g, cap, cur, hv, -, hh, hnc, -, -, -⟩
  · rw [HK.out] at h0; omega
  · subst hv
    rw [HK.out, hN] at hnc ⊢
    have e1 : ∀ W, (Instr.slice 28 (.slice (some ⟨g, 0, none⟩) N cap) (some (.int .i64 (k : Int))) none none).run Try.prog W = .ok (.slice (some ⟨g, k * 15, none⟩) (N - k) (cap - k)) W := fun W => run_cutE W g N cap k (by omega) hnc
    have hgl : g < w1.heap.size := (Array.getElem?_eq_some_iff.1 hh).1
    have hmN : m = N - k := by omega
    have hmc : N - k ≤ cap - k := by omega
    have H := Lib.hid (show ∀ j x, D.trace[k + j]? = some x → ∃ A c, x.head.length = 12 ∧ BytesAt w1 W.heap.size (.slice A x.body.length c) x.body ∧ ∀ i v, (evC x.kind x.at_ x.head (.slice A x.body.length c))[i]? = some v → w1.cell? ⟨g, (k + j) * 15 + i, none⟩ = some v by
      intro j x hx
      obtain ⟨g', cap', A, n', c', e2, q1, q2, q3⟩ := ht.elem hx
      simp only [Value.slice.injEq, Option.some.injEq, Addr.mk.injEq] at e2
      obtain ⟨⟨rfl, -, -⟩, -, -⟩ := e2
      have q2' := q2
      obtain ⟨A2, c2, e3, -⟩ := q2
      simp only [Value.slice.injEq] at e3
      obtain ⟨rfl, rfl, rfl⟩ := e3
      refine ⟨_, _, q1, q2', fun i v hv => ?_⟩
      have h3 := q3 i v hv
      rwa [ad_none] at h3)
    clear ht ht2 hh HT h hN
    go_wp2_with fail
    go_ret
    refine ⟨⟨g, cap - k, ?_, ?_, hgl, H.out⟩, hI, hb⟩
    · rw [hmN]; rfl
    · rw [hmN]; exact hmc
end Go.Proofs.Ytlbpmboknmbcgaa
