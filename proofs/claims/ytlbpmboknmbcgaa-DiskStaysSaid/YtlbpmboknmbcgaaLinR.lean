/- XLin, in any relation between the worlds that a region's operations go through. -/
import Derived.Test.YtlbpmboknmbcgaaLin
namespace Go.Proofs.Ytlbpmboknmbcgaa
open Go.RowKit

/-- what holds between a world and those that lie beyond it -/
structure Way (R : World → World → Prop) : Prop where
  refl : ∀ w, R w w
  trans : ∀ {a b c}, R a b → R b c → R a c
  drew : ∀ w, R w w.drew
theorem wayB (B : Nat) : Way (Below B) := ⟨Below.refl B, Below.trans, fun w => (Below.refl B w).drew⟩
section
variable (P : Program) (R : World → World → Prop) (ops : Array Oper) (Q : Exit → Act → World → Prop)
def LinR : List (Nat × Bool) → Act → World → Prop
  | [], a, w => Q .normal a w
  | (i, true) :: rest, a, w => ∃ o v, ops[i]? = some o ∧ YieldsIf P ops (fun w' => R w w') o v a ∧ LinR rest (a.put o.dst v) w
  | (i, false) :: rest, a, w => wpOp P ops Q i (fun a' w' => R w w' ∧ LinR rest a' w') a w
end
section
variable {P : Program} {R : World → World → Prop} {ops : Array Oper} {Q : Exit → Act → World → Prop}
theorem held_of_linR (HR : Way R) (hs : Region.noSelect ops = true) (hQ : ∀ c a d v w, Q (.panic c) (Act.put a (some d) v) w → Q (.panic c) a w) :
    ∀ (σ : List (Nat × Bool)) (listed : Array Bool) (a : Act) (w : World), okOrd ops σ listed = true → LinR P R ops Q σ a w → wpAnyH P .any ops Q (fun w' => R w w') σ.length listed a w
  | [], listed, a, w, ho, h => wpAnyH_done (by simpa [okOrd] using ho) h _
  | (i, true) :: σ, listed, a, w, ho, h => by
    simp only [okOrd, Bool.and_eq_true] at ho
    obtain ⟨o, v, hi, hy, hr⟩ := h
    refine wpAnyH_take hi hs ho.1.1 ho.1.2 (fun c a w => ?_) hy (HR.refl _) (held_of_linR HR hs hQ σ _ _ _ ho.2 hr)
    cases o.dst with
    | none => exact fun h => h
    | some d => exact hQ c a d v w
  | (i, false) :: σ, listed, a, w, ho, h => by
    simp only [okOrd, Bool.and_eq_true, beq_iff_eq] at ho
    refine wpAnyH_all ho.1 (by simp) fun j hj => ?_
    simp only [List.mem_singleton] at hj
    subst hj
    refine wpOp_mono (fun a' w' h' => ⟨h'.1, ?_⟩) h
    exact held_weaken (fun W hW => HR.trans h'.1 hW) _ _ _ _ (held_of_linR HR hs hQ σ _ _ _ ho.2 h'.2)
theorem wp_region_linR (R : World → World → Prop) (HR : Way R) (σ : List (Nat × Bool)) {id : Nat} {a : Act} {w : World} (hm : P.follows .mixedOrders = true) (hl : σ.length = ops.size) (hs : Region.noSelect ops = true)
    (hok : okOrd ops σ (Array.replicate ops.size false) = true) (hQ : ∀ c a d v w, Q (.panic c) (Act.put a (some d) v) w → Q (.panic c) a w)
    (h : LinR P R ops Q σ a w.drew) : (Code.region id ops true).wp P Q a w :=
  wp_region_held_drew (S := fun w' => R w w') hm (HR.drew w) fun _ => by
    have := held_of_linR HR hs hQ σ _ _ _ hok h
    rw [hl] at this
    exact held_weaken (fun W hW => HR.trans (HR.drew w) hW) _ _ _ _ this
theorem linR_take {i : Nat} {rest : List (Nat × Bool)} {a : Act} {w : World} {o : Oper} {v : Value} (hi : ops[i]? = some o) (hw : Region.wanted o (yielded ops a.tmps) = true)
    (hy : ∀ w', R w w' → (execOp a.eval o).run P w' = .ok (.value v) w') (h : LinR P R ops Q rest (a.put o.dst v) w) : LinR P R ops Q ((i, true) :: rest) a w :=
  ⟨o, v, hi, .inl ⟨hw, hy⟩, h⟩
theorem linR_skip {i : Nat} {rest : List (Nat × Bool)} {a : Act} {w : World} {o : Oper} (hi : ops[i]? = some o) (hw : Region.wanted o (yielded ops a.tmps) = false)
    (h : LinR P R ops Q rest (a.put o.dst undef) w) : LinR P R ops Q ((i, true) :: rest) a w :=
  ⟨o, undef, hi, .inr ⟨hw, rfl⟩, h⟩
theorem linR_op {i : Nat} {rest : List (Nat × Bool)} {a : Act} {w : World} {o : Oper} (hi : ops[i]? = some o) (hw : Region.wanted o (yielded ops a.tmps) = true)
    (h : ∀ K : Act → World → Prop, (∀ a' w', R w w' → LinR P R ops Q rest a' w' → K a' w') → o.wp P a w K Q) : LinR P R ops Q ((i, false) :: rest) a w := by
  show wpOp P ops Q i _ a w
  unfold wpOp
  simp only [hi, hw, if_true]
  exact .inl (h _ fun a' w' h1 h2 => ⟨h1, h2⟩)
theorem linR_pass (HR : Way R) {i : Nat} {rest : List (Nat × Bool)} {a : Act} {w : World} {o : Oper} (hi : ops[i]? = some o) (hw : Region.wanted o (yielded ops a.tmps) = false)
    (h : LinR P R ops Q rest (a.put o.dst undef) w) : LinR P R ops Q ((i, false) :: rest) a w := by
  show wpOp P ops Q i _ a w
  unfold wpOp
  simp only [hi, hw, Bool.false_eq_true, if_false]
  exact ⟨HR.refl _, h⟩
theorem linR_end {a : Act} {w : World} (h : Q .normal a w) : LinR P R ops Q [] a w := h
end
/-- a cell below B is as it was -/
theorem keepB {B : Nat} {w w' : World} {a : Addr} {v : Value} (hB : a.block < B) (hb : Below B w w') (hc : w.cell? a = some v) : w'.cell? a = some v := (hb.cell hB).trans hc
/-- the newest block laid anew -/
theorem below_anew {B : Nat} {w : World} (h : B ≤ w.heap.size) (o o' : Obj) : Below B (w.alloc o) (w.alloc o') :=
  ⟨rfl, rfl, rfl, by simp, fun k hk => by rw [Below.heap_alloc _ _ _ (by omega), Below.heap_alloc _ _ _ (by omega)]⟩
theorem below_anew_drew {B : Nat} {w : World} (h : B ≤ w.heap.size) (o o' : Obj) : Below B (w.alloc o).drew (w.alloc o').drew :=
  ⟨rfl, rfl, rfl, by simp, fun k hk => (below_anew h o o').block k hk⟩
theorem belowB_alloc {B : Nat} {w : World} (h : B ≤ w.heap.size) (o : Obj) : Below B w (w.alloc o) := (Below.refl B w).alloc h o
theorem belowB_mono {B : Nat} {w w' : World} (h : B ≤ w.heap.size) (hb : Below w.heap.size w w') : Below B w w' := hb.mono h
end Go.Proofs.Ytlbpmboknmbcgaa
