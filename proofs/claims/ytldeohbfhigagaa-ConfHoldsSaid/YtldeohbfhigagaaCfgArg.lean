/- A Config by value as a parameter: opened and shut. -/
import Derived.Test.YtldeohbfhigagaaConf7
import Derived.Lib.SmallJoins
import Derived.ChangeSame
import Derived.ChangeArms
import Derived.Laws.Cover2
import Derived.Below
set_option linter.unusedVariables false
set_option linter.unusedSimpArgs false
namespace Go.Proofs.Ytldeohbfhigagaa
open Go.Joins Go.ChangeShapes Go.WideShapes Go.RowKit Go.Deep
section
variable {H : Type} {enc : TypeId × Value → H} {P : Program} {w : World} {base : Nat} {spare : Nat → Bool} {held : Bool}
theorem trod_float {t : TypeId} {fuel : Nat} {cs : List Value} {x : DataW H × List MemPlace} {k : FloatKind} (ht : P.underlying t = some (.float k)) (h : DataW.trod enc P w base spare held fuel t cs = some x) : ∃ n, cs = [.float k n] ∧ x = (.lit (.float k n), []) ∧ (Lit.float k n).wf = true := by
  cases fuel with
  | zero => simp [DataW.trod] at h
  | succ n =>
    unfold DataW.trod at h
    rw [ht] at h
    split at h <;> simp_all
theorem open_agg10 {r : Reach} {b0 : Nat} {t : TypeId} {f0 f1 f2 f3 f4 f5 f6 f7 f8 f9 : Field} {v : Value} {d : DataW H} {p : List MemPlace} (hs : P.underlying t = some (.struct #[f0, f1, f2, f3, f4, f5, f6, f7, f8, f9])) (hone : oneCellFields P #[f0, f1, f2, f3, f4, f5, f6, f7, f8, f9] = true) (hC : P.cellsOf t = 10)
    (hv : Value.okWide P w r b0 t v) (h : DataW.Trod enc P w base spare held t v d p) :
    ∃ (v0 v1 v2 v3 v4 v5 v6 v7 v8 v9 : Value) (y0 y1 y2 y3 y4 y5 y6 y7 y8 y9 : DataW H × List MemPlace) (n : Nat), v = .agg #[v0, v1, v2, v3, v4, v5, v6, v7, v8, v9] ∧ (d, p) = (.agg ([y0, y1, y2, y3, y4, y5, y6, y7, y8, y9].map (·.1)), [y0, y1, y2, y3, y4, y5, y6, y7, y8, y9].flatMap (·.2)) ∧
      DataW.trod enc P w base spare held n f0.type [v0] = some y0 ∧ DataW.trod enc P w base spare held n f1.type [v1] = some y1 ∧ DataW.trod enc P w base spare held n f2.type [v2] = some y2 ∧ DataW.trod enc P w base spare held n f3.type [v3] = some y3 ∧ DataW.trod enc P w base spare held n f4.type [v4] = some y4 ∧ DataW.trod enc P w base spare held n f5.type [v5] = some y5 ∧ DataW.trod enc P w base spare held n f6.type [v6] = some y6 ∧ DataW.trod enc P w base spare held n f7.type [v7] = some y7 ∧ DataW.trod enc P w base spare held n f8.type [v8] = some y8 ∧ DataW.trod enc P w base spare held n f9.type [v9] = some y9 := by
  obtain ⟨cs, rfl, hsz⟩ := okWide_struct hs hv
  obtain ⟨l⟩ := cs
  match l, hsz.trans hC with
  | [c0, c1, c2, c3, c4, c5, c6, c7, c8, c9], _ =>
    obtain ⟨fuel, hf⟩ := h
    obtain ⟨xs, n, _, hx, _, hlen, hg⟩ := DataW.trod_struct hs hf
    obtain ⟨o0, k0⟩ := hone_of hone 0 f0 rfl
    obtain ⟨o1, k1⟩ := hone_of hone 1 f1 rfl
    obtain ⟨o2, k2⟩ := hone_of hone 2 f2 rfl
    obtain ⟨o3, k3⟩ := hone_of hone 3 f3 rfl
    obtain ⟨o4, k4⟩ := hone_of hone 4 f4 rfl
    obtain ⟨o5, k5⟩ := hone_of hone 5 f5 rfl
    obtain ⟨o6, k6⟩ := hone_of hone 6 f6 rfl
    obtain ⟨o7, k7⟩ := hone_of hone 7 f7 rfl
    obtain ⟨o8, k8⟩ := hone_of hone 8 f8 rfl
    obtain ⟨o9, k9⟩ := hone_of hone 9 f9 rfl
    match xs, hlen with
    | [y0, y1, y2, y3, y4, y5, y6, y7, y8, y9], _ =>
      exact ⟨c0, c1, c2, c3, c4, c5, c6, c7, c8, c9, y0, y1, y2, y3, y4, y5, y6, y7, y8, y9, n, rfl, hx, by simpa [Value.cells, o0, k0] using hg 0 f0 rfl, by simpa [Value.cells, o1, k1] using hg 1 f1 rfl, by simpa [Value.cells, o2, k2] using hg 2 f2 rfl, by simpa [Value.cells, o3, k3] using hg 3 f3 rfl, by simpa [Value.cells, o4, k4] using hg 4 f4 rfl, by simpa [Value.cells, o5, k5] using hg 5 f5 rfl, by simpa [Value.cells, o6, k6] using hg 6 f6 rfl, by simpa [Value.cells, o7, k7] using hg 7 f7 rfl, by simpa [Value.cells, o8, k8] using hg 8 f8 rfl, by simpa [Value.cells, o9, k9] using hg 9 f9 rfl⟩
theorem shut_agg10 {t : TypeId} {f0 f1 f2 f3 f4 f5 f6 f7 f8 f9 : Field} {v0 v1 v2 v3 v4 v5 v6 v7 v8 v9 : Value} {y0 y1 y2 y3 y4 y5 y6 y7 y8 y9 : DataW H × List MemPlace} (hs : P.underlying t = some (.struct #[f0, f1, f2, f3, f4, f5, f6, f7, f8, f9])) (hone : oneCellFields P #[f0, f1, f2, f3, f4, f5, f6, f7, f8, f9] = true) (hC : P.cellsOf t = 10) (n : Nat)
    (t0 : DataW.trod enc P w base spare held n f0.type [v0] = some y0) (t1 : DataW.trod enc P w base spare held n f1.type [v1] = some y1) (t2 : DataW.trod enc P w base spare held n f2.type [v2] = some y2) (t3 : DataW.trod enc P w base spare held n f3.type [v3] = some y3) (t4 : DataW.trod enc P w base spare held n f4.type [v4] = some y4) (t5 : DataW.trod enc P w base spare held n f5.type [v5] = some y5) (t6 : DataW.trod enc P w base spare held n f6.type [v6] = some y6) (t7 : DataW.trod enc P w base spare held n f7.type [v7] = some y7) (t8 : DataW.trod enc P w base spare held n f8.type [v8] = some y8) (t9 : DataW.trod enc P w base spare held n f9.type [v9] = some y9) :
    DataW.Trod enc P w base spare held t (.agg #[v0, v1, v2, v3, v4, v5, v6, v7, v8, v9]) (.agg ([y0, y1, y2, y3, y4, y5, y6, y7, y8, y9].map (·.1))) ([y0, y1, y2, y3, y4, y5, y6, y7, y8, y9].flatMap (·.2)) := by
  obtain ⟨o0, k0⟩ := hone_of hone 0 f0 rfl
  obtain ⟨o1, k1⟩ := hone_of hone 1 f1 rfl
  obtain ⟨o2, k2⟩ := hone_of hone 2 f2 rfl
  obtain ⟨o3, k3⟩ := hone_of hone 3 f3 rfl
  obtain ⟨o4, k4⟩ := hone_of hone 4 f4 rfl
  obtain ⟨o5, k5⟩ := hone_of hone 5 f5 rfl
  obtain ⟨o6, k6⟩ := hone_of hone 6 f6 rfl
  obtain ⟨o7, k7⟩ := hone_of hone 7 f7 rfl
  obtain ⟨o8, k8⟩ := hone_of hone 8 f8 rfl
  obtain ⟨o9, k9⟩ := hone_of hone 9 f9 rfl
  refine ⟨n + 1, trod_struct_mk (xs := [y0, y1, y2, y3, y4, y5, y6, y7, y8, y9]) hs (by simp [Value.cells, hC]) ?_⟩
  simp [Value.cells, o0, o1, o2, o3, o4, o5, o6, o7, o8, o9, k0, k1, k2, k3, k4, k5, k6, k7, k8, k9, t0, t1, t2, t3, t4, t5, t6, t7, t8, t9]
/-- a Config by value -/
theorem open_cfg {r : Reach} {b0 : Nat} {v : Value} {d : DataW H} {p : List MemPlace} (hv : Value.okWide Try.prog w r b0 50 v) (h : DataW.Trod enc Try.prog w base spare held 50 v d p) :
    ∃ a : Cfg, v = a.val ∧ p = [] ∧ a.fl < 18446744073709551616 ∧ (∀ y ∈ [a.k, a.v, a.c, a.f, a.m, a.l, a.n, a.x, a.z], (Lit.int .i64 y).wf = true) ∧ ∀ (w' : World) (b : Nat) (sp : Nat → Bool) (hd : Bool), DataW.Trod enc Try.prog w' b sp hd 50 v d [] := by
  obtain ⟨v0, v1, v2, v3, v4, v5, v6, v7, v8, v9, y0, y1, y2, y3, y4, y5, y6, y7, y8, y9, n, rfl, hx, h0, h1, h2, h3, h4, h5, h6, h7, h8, h9⟩ := open_agg10 Try.underlying50 (by kernel_rfl) (by kernel_rfl) hv h
  obtain ⟨x0, e0, rfl, g0⟩ := DataW.trod_int Try.underlying3 h0
  simp at e0
  subst e0
  obtain ⟨x1, e1, rfl, g1⟩ := DataW.trod_int Try.underlying3 h1
  simp at e1
  subst e1
  obtain ⟨x2, e2, rfl, g2⟩ := DataW.trod_int Try.underlying3 h2
  simp at e2
  subst e2
  obtain ⟨x3, e3, rfl, g3⟩ := DataW.trod_int Try.underlying3 h3
  simp at e3
  subst e3
  obtain ⟨x4, e4, rfl, g4⟩ := DataW.trod_int Try.underlying3 h4
  simp at e4
  subst e4
  obtain ⟨x5, e5, rfl, g5⟩ := DataW.trod_int Try.underlying3 h5
  simp at e5
  subst e5
  obtain ⟨x6, e6, rfl, g6⟩ := DataW.trod_int Try.underlying3 h6
  simp at e6
  subst e6
  obtain ⟨x7, e7, rfl, g7⟩ := DataW.trod_int Try.underlying3 h7
  simp at e7
  subst e7
  obtain ⟨x8, e8, rfl, g8⟩ := DataW.trod_int Try.underlying3 h8
  simp at e8
  subst e8
  obtain ⟨x9, e9, rfl, g9⟩ := trod_float Try.underlying22 h9
  simp at e9
  subst e9
  simp only [List.map_cons, List.map_nil, List.flatMap_cons, List.flatMap_nil, List.append_nil, Prod.mk.injEq] at hx
  obtain ⟨rfl, rfl⟩ := hx
  refine ⟨⟨x0, x1, x2, x3, x4, x5, x6, x7, x8, x9⟩, rfl, rfl, by simpa [Lit.wf] using g9, by simp [g0, g1, g2, g3, g4, g5, g6, g7, g8], fun w' b sp hd => ?_⟩
  have := shut_agg10 (enc := enc) (w := w') (base := b) (spare := sp) (held := hd) (y0 := (.lit (.int .i64 x0), [])) (y1 := (.lit (.int .i64 x1), [])) (y2 := (.lit (.int .i64 x2), [])) (y3 := (.lit (.int .i64 x3), [])) (y4 := (.lit (.int .i64 x4), [])) (y5 := (.lit (.int .i64 x5), [])) (y6 := (.lit (.int .i64 x6), [])) (y7 := (.lit (.int .i64 x7), [])) (y8 := (.lit (.int .i64 x8), [])) (y9 := (.lit (.float .f64 x9), [])) (v0 := .int .i64 x0) (v1 := .int .i64 x1) (v2 := .int .i64 x2) (v3 := .int .i64 x3) (v4 := .int .i64 x4) (v5 := .int .i64 x5) (v6 := .int .i64 x6) (v7 := .int .i64 x7) (v8 := .int .i64 x8) (v9 := .float .f64 x9) Try.underlying50 (by kernel_rfl) (by kernel_rfl) 1 (by simp [DataW.trod, Try.underlying3, g0]) (by simp [DataW.trod, Try.underlying3, g1]) (by simp [DataW.trod, Try.underlying3, g2]) (by simp [DataW.trod, Try.underlying3, g3]) (by simp [DataW.trod, Try.underlying3, g4]) (by simp [DataW.trod, Try.underlying3, g5]) (by simp [DataW.trod, Try.underlying3, g6]) (by simp [DataW.trod, Try.underlying3, g7]) (by simp [DataW.trod, Try.underlying3, g8]) (by simp [DataW.trod, Try.underlying22, g9])
  simpa using this
end
end Go.Proofs.Ytldeohbfhigagaa
