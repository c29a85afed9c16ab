/- A region that draws its order, walked once: readers are taken ahead, as soon as they may come up, in whatever world that lies beyond the one at hand; what makes memory comes in its forced order. -/
import Derived.Test.YtlbpmboknmbcgaaMem
import Derived.Deep.RegionHeld
namespace Go.Proofs.Ytlbpmboknmbcgaa
open Go.RowKit

/-- may the operations come up in this order: those marked 'true' taken ahead, the others being the only ones that may come up? -/
def okOrd (ops : Array Oper) : List (Nat × Bool) → Array Bool → Bool
  | [], listed => (Region.ready .any ops listed).isEmpty
  | (i, true) :: rest, listed => Region.free .any ops listed i && (Region.ready .any ops listed).contains i && okOrd ops rest (listed.setIfInBounds i true)
  | (i, false) :: rest, listed => Region.ready .any ops listed == [i] && okOrd ops rest (listed.setIfInBounds i true)

section
variable (P : Program) (ops : Array Oper) (Q : Exit → Act → World → Prop)
/-- the walk in that order -/
def Lin : List (Nat × Bool) → Act → World → Prop
  | [], a, w => Q .normal a w
  | (i, true) :: rest, a, w => ∃ o v, ops[i]? = some o ∧ YieldsIf P ops (fun w' => Below w.heap.size w w') o v a ∧ Lin rest (a.put o.dst v) w
  | (i, false) :: rest, a, w => wpOp P ops Q i (fun a' w' => Below w.heap.size w w' ∧ Lin rest a' w') a w
end
section
variable {P : Program} {ops : Array Oper} {Q : Exit → Act → World → Prop}
theorem held_weaken {S S' : World → Prop} (hSS : ∀ w, S' w → S w) : ∀ (fuel : Nat) (listed : Array Bool) (a : Act) (w : World), wpAnyH P .any ops Q S' fuel listed a w → wpAnyH P .any ops Q S fuel listed a w
  | 0, _, _, _, h => h
  | fuel + 1, _, _, _, h => ⟨h.1, fun i hi => wpOp_mono (fun a' w' h' => ⟨hSS _ h'.1, held_weaken hSS fuel _ a' w' h'.2⟩) (h.2 i hi)⟩
theorem held_of_lin (hs : Region.noSelect ops = true) (hQ : ∀ c a d v w, Q (.panic c) (Act.put a (some d) v) w → Q (.panic c) a w) :
    ∀ (σ : List (Nat × Bool)) (listed : Array Bool) (a : Act) (w : World), okOrd ops σ listed = true → Lin P ops Q σ a w → wpAnyH P .any ops Q (fun w' => Below w.heap.size w w') σ.length listed a w
  | [], listed, a, w, ho, h => wpAnyH_done (by simpa [okOrd] using ho) h _
  | (i, true) :: σ, listed, a, w, ho, h => by
    simp only [okOrd, Bool.and_eq_true] at ho
    obtain ⟨o, v, hi, hy, hr⟩ := h
    refine wpAnyH_take hi hs ho.1.1 ho.1.2 (fun c a w => ?_) hy (Below.refl _ _) (held_of_lin hs hQ σ _ _ _ ho.2 hr)
    cases o.dst with
    | none => exact fun h => h
    | some d => exact hQ c a d v w
  | (i, false) :: σ, listed, a, w, ho, h => by
    simp only [okOrd, Bool.and_eq_true, beq_iff_eq] at ho
    refine wpAnyH_all ho.1 (by simp) fun j hj => ?_
    simp only [List.mem_singleton] at hj
    subst hj
    refine wpOp_mono (fun a' w' h' => ⟨h'.1, ?_⟩) h
    exact held_weaken (fun W hW => below_two h'.1 hW) _ _ _ _ (held_of_lin hs hQ σ _ _ _ ho.2 h'.2)
/-- the region: σ has as many places as there are operations -/
theorem wp_region_lin (σ : List (Nat × Bool)) {id : Nat} {a : Act} {w : World} (hm : P.follows .mixedOrders = true) (hl : σ.length = ops.size) (hs : Region.noSelect ops = true)
    (hok : okOrd ops σ (Array.replicate ops.size false) = true) (hQ : ∀ c a d v w, Q (.panic c) (Act.put a (some d) v) w → Q (.panic c) a w)
    (h : Lin P ops Q σ a w.drew) : (Code.region id ops true).wp P Q a w :=
  wp_region_held_drew (S := fun w' => Below w.heap.size w w') hm (below_drew (Below.refl _ _)) fun _ => by
    have := held_of_lin hs hQ σ _ _ _ hok h
    rw [hl] at this
    exact held_weaken (fun W hW => below_two (a := w) (b := w.drew) (below_drew (Below.refl _ _)) hW) _ _ _ _ this
theorem lin_take {i : Nat} {rest : List (Nat × Bool)} {a : Act} {w : World} {o : Oper} {v : Value} (hi : ops[i]? = some o) (hw : Region.wanted o (yielded ops a.tmps) = true)
    (hy : ∀ w', Below w.heap.size w w' → (execOp a.eval o).run P w' = .ok (.value v) w') (h : Lin P ops Q rest (a.put o.dst v) w) : Lin P ops Q ((i, true) :: rest) a w :=
  ⟨o, v, hi, .inl ⟨hw, hy⟩, h⟩
theorem lin_skip {i : Nat} {rest : List (Nat × Bool)} {a : Act} {w : World} {o : Oper} (hi : ops[i]? = some o) (hw : Region.wanted o (yielded ops a.tmps) = false)
    (h : Lin P ops Q rest (a.put o.dst undef) w) : Lin P ops Q ((i, true) :: rest) a w :=
  ⟨o, undef, hi, .inr ⟨hw, rfl⟩, h⟩
theorem lin_op {i : Nat} {rest : List (Nat × Bool)} {a : Act} {w : World} {o : Oper} (hi : ops[i]? = some o) (hw : Region.wanted o (yielded ops a.tmps) = true)
    (h : ∀ K : Act → World → Prop, (∀ a' w', Below w.heap.size w w' → Lin P ops Q rest a' w' → K a' w') → o.wp P a w K Q) : Lin P ops Q ((i, false) :: rest) a w := by
  show wpOp P ops Q i _ a w
  unfold wpOp
  simp only [hi, hw, if_true]
  exact .inl (h _ fun a' w' h1 h2 => ⟨h1, h2⟩)
theorem lin_pass {i : Nat} {rest : List (Nat × Bool)} {a : Act} {w : World} {o : Oper} (hi : ops[i]? = some o) (hw : Region.wanted o (yielded ops a.tmps) = false)
    (h : Lin P ops Q rest (a.put o.dst undef) w) : Lin P ops Q ((i, false) :: rest) a w := by
  show wpOp P ops Q i _ a w
  unfold wpOp
  simp only [hi, hw, Bool.false_eq_true, if_false]
  exact ⟨Below.refl _ _, h⟩
theorem lin_end {a : Act} {w : World} (h : Q .normal a w) : Lin P ops Q [] a w := h
end
/-- a cell that is there is there later -/
theorem cell_keep {w w' : World} (hb : Below w.heap.size w w') {a : Addr} {v : Value} (hc : w.cell? a = some v) : w'.cell? a = some v :=
  (hb.cell (World.block_lt_of_cell? w a hc)).trans hc
end Go.Proofs.Ytlbpmboknmbcgaa
