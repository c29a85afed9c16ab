/- dumbwaiterlaw6.Since: the last events. -/
import Derived.Test.YtmdmhjcdaejlkaaDiskFr
set_option linter.unusedVariables false
set_option linter.unusedSimpArgs false
namespace Go.Proofs.Ytmdmhjcdaejlkaa
open Go.RowKit

theorem undE : Try.prog.underlying 41 = some (.slice (Try.prog.elem 41)) := by
  rw [show Try.prog.elem 41 = 45 by unfold Program.elem; rw [Try.underlying41]]; exact Try.underlying41
theorem sizeE (W : World) : (sizeOf (Try.prog.elem 41)).run Try.prog W = .ok 15 W := by
  rw [show Try.prog.elem 41 = 45 by unfold Program.elem; rw [Try.underlying41]]
  exact Try.sizeOf45 W
theorem run_cutE (W : World) (g n c k : Nat) (hk : k < n) (hc : n ≤ c) : (Instr.slice 41 (.slice (some ⟨g, 0, none⟩) n c) (some (.int .i64 (k : Int))) none none).run Try.prog W = .ok (.slice (some ⟨g, k * 15, none⟩) (n - k) (c - k)) W := by
  have := run_slice_l (P := Try.prog) W 41 (some ⟨g, 0, none⟩) n c undE .i64 (k : Int) (by omega) (by omega)
  rw [this, sizeE]
  have h1 : ¬ c = k := by omega
  simp only [Result.andThen_ok, sliced, Int.toNat_natCast, h1, if_false, Option.map_some, ad_none, Nat.zero_add]
variable {W : World} {base b n : Nat} {D : Dk}
set_option maxHeartbeats 2000000 in
set_option maxRecDepth 100000 in
theorem c_since (h : In W base b D n) (hn : n ≤ 800000) (k m : Nat) (hk : D.trace.length = k + m) (hm : 0 < m) :
    Calls Try.prog 48 #[.pointer (some ⟨b, 0, none⟩), .int .i64 (k : Int)] W fun e w' => (∃ g cap, e = .returned (.slice (some ⟨g, k * 15, none⟩) m cap) ∧ m ≤ cap ∧ g < w'.heap.size ∧
      ∀ j x, D.trace[k + j]? = some x → ∃ A c, x.head.length = 12 ∧ BytesAt w' W.heap.size (.slice A x.body.length c) x.body ∧ ∀ i v, (evC x.kind x.at_ x.head (.slice A x.body.length c))[i]? = some v → w'.cell? ⟨g, (k + j) * 15 + i, none⟩ = some v) ∧ In w' base b D n ∧ Below W.heap.size W w' := by
  have HT := Lib.hid (i_trace h (by omega))
  have HK := Lib.hid hk
  have hkl := h.bd.ln
  clear hk
  have hm0 : (0 : Int) < (m : Int) := by omega
  have hlt : ¬ ((k : Int) + (m : Int) < (k : Int)) := by omega
  have hN : ∃ N : Nat, k + m = N := ⟨_, rfl⟩
  obtain ⟨N, hN⟩ := hN
  have hNi : ¬ (N : Int) < (k : Int) := by omega
  have hNk : (k : Int) < (N : Int) := by omega
  go_enter Try.func48, Try.ntmps48
  go_upto_region 2 with (go_at_call 26; (with_reducible refine HT.out.mono ?_); rintro e w1 ⟨vt, rfl, ht, hI, hb⟩)
  have htr := ht
  obtain ⟨ts9, -, -, ht2⟩ := htr
  rcases ht2.2 with ⟨_, h0⟩ | ⟨g, cap, cur, hv, -, hh, hnc, -, -, -⟩
  · rw [HK.out] at h0; omega
  · subst hv
    rw [HK.out, hN] at hnc ⊢
    have e1 : ∀ W, (Instr.slice 41 (.slice (some ⟨g, 0, none⟩) N cap) (some (.int .i64 (k : Int))) none none).run Try.prog W = .ok (.slice (some ⟨g, k * 15, none⟩) (N - k) (cap - k)) W := fun W => run_cutE W g N cap k (by omega) hnc
    have hgl : g < w1.heap.size := (Array.getElem?_eq_some_iff.1 hh).1
    have hmN : m = N - k := by omega
    have hmc : N - k ≤ cap - k := by omega
    have H := Lib.hid (show ∀ j x, D.trace[k + j]? = some x → ∃ A c, x.head.length = 12 ∧ BytesAt w1 W.heap.size (.slice A x.body.length c) x.body ∧ ∀ i v, (evC x.kind x.at_ x.head (.slice A x.body.length c))[i]? = some v → w1.cell? ⟨g, (k + j) * 15 + i, none⟩ = some v by
      intro j x hx
      obtain ⟨g', cap', A, n', c', e2, q1, q2, q3⟩ := ht.elem hx
      simp only [Value.slice.injEq, Option.some.injEq, Addr.mk.injEq] at e2
      obtain ⟨⟨rfl, -, -⟩, -, -⟩ := e2
      have q2' := q2
      obtain ⟨A2, c2, e3, -⟩ := q2
      simp only [Value.slice.injEq] at e3
      obtain ⟨rfl, rfl, rfl⟩ := e3
      refine ⟨_, _, q1, q2', fun i v hv => ?_⟩
      have h3 := q3 i v hv
      rwa [ad_none] at h3)
    clear ht ht2 hh HT h hN
    go_wp2_with fail
    go_ret
    refine ⟨⟨g, cap - k, ?_, ?_, hgl, H.out⟩, hI, hb⟩
    · rw [hmN]; rfl
    · rw [hmN]; exact hmc
set_option maxHeartbeats 2000000 in
set_option maxRecDepth 100000 in
theorem c_since0 (h : In W base b D n) (hn : n ≤ 800000) (k : Nat) (hk : D.trace.length = k) :
    Calls Try.prog 48 #[.pointer (some ⟨b, 0, none⟩), .int .i64 (k : Int)] W fun e w' => (∃ A cap, e = .returned (.slice A 0 cap)) ∧ In w' base b D n ∧ Below W.heap.size W w' := by
  have HT := Lib.hid (i_trace h (by omega))
  have HK := Lib.hid hk
  have hkl := h.bd.ln
  clear hk
  go_enter Try.func48, Try.ntmps48
  go_upto_region 2 with (go_at_call 26; (with_reducible refine HT.out.mono ?_); rintro e w1 ⟨vt, rfl, ht, hI, hb⟩)
  obtain ⟨ts9, -, -, ht2⟩ := ht
  obtain ⟨A9, c9, rfl, h1, -⟩ := own_form ht2
  rw [HK.out] at h1 ⊢
  obtain ⟨A8, e1⟩ : ∃ A8, ∀ W, (Instr.slice 41 (.slice A9 k c9) (some (.int .i64 (k : Int))) none none).run Try.prog W = .ok (.slice A8 0 (c9 - k)) W := ⟨if c9 = k then A9 else A9.map (·.add (k * 15)), fun W => by
    have := run_slice_l (P := Try.prog) W 41 A9 k c9 undE .i64 (k : Int) (by omega) (by omega)
    rw [this, sizeE]
    simp [sliced]⟩
  clear ht2 HT h
  go_wp2_with fail
  go_ret
  exact ⟨⟨_, _, rfl⟩, hI, hb⟩
/-- the last steps: their kinds and places -/
theorem c_sinceG (h : In W base b D n) (hn : n ≤ 800000) (k m : Nat) (hk : D.trace.length = k + m) :
    Calls Try.prog 48 #[.pointer (some ⟨b, 0, none⟩), .int .i64 (k : Int)] W fun e w' => (∃ A cap, e = .returned (.slice A m cap) ∧ ∀ j x, D.trace[k + j]? = some x → ∃ g, A = some ⟨g, k * 15, none⟩ ∧ w'.cell? ⟨g, (k + j) * 15, none⟩ = some (.int .i64 x.kind) ∧ w'.cell? ⟨g, (k + j) * 15 + 1, none⟩ = some (.int .i64 x.at_)) ∧ In w' base b D n ∧ Below W.heap.size W w' := by
  rcases Nat.eq_zero_or_pos m with h0 | h0
  · subst h0
    refine (c_since0 h hn k hk).mono ?_
    rintro e w' ⟨⟨A, cap, rfl⟩, hI, hb⟩
    refine ⟨⟨A, cap, rfl, fun j x hx => ?_⟩, hI, hb⟩
    rw [List.getElem?_eq_none (by omega)] at hx
    cases hx
  · refine (c_since h hn k m hk h0).mono ?_
    rintro e w' ⟨⟨g, cap, rfl, -, -, hs⟩, hI, hb⟩
    refine ⟨⟨_, cap, rfl, fun j x hx => ?_⟩, hI, hb⟩
    obtain ⟨A, c, -, -, hc⟩ := hs j x hx
    exact ⟨g, rfl, hc 0 _ rfl, hc 1 _ rfl⟩
end Go.Proofs.Ytmdmhjcdaejlkaa
