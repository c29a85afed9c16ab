/- A region that draws its order, walked once: readers are taken ahead, as soon as they may come up, in whatever world that lies beyond the one at hand; what makes memory comes in its forced order. -/
import Derived.Test.YtmdmhjcdaejlkaaMem
import Derived.Deep.RegionHeld
import Derived.Laws.Tables
import Derived.Laws.Rows
import Derived.Deep.WholeRow
import Derived.Test.YtmdmhjcdaejlkaaProg
import Derived.Maps.Own
import Derived.Maps.OwnSet
import Derived.Maps.Views
import Derived.Maps.Ext
import Derived.Maps.RangeWalk
import Derived.OwnWalk
import Derived.Laws.CopyOwn
import Derived.Laws.OwnMore
namespace Go.Proofs.Ytmdmhjcdaejlkaa
open Go.RowKit

/-- may the operations come up in this order: those marked 'true' taken ahead, the others being the only ones that may come up? -/
def okOrd (ops : Array Oper) : List (Nat × Bool) → Array Bool → Bool
  | [], listed => (Region.ready .any ops listed).isEmpty
  | (i, true) :: rest, listed => Region.free .any ops listed i && (Region.ready .any ops listed).contains i && okOrd ops rest (listed.setIfInBounds i true)
  | (i, false) :: rest, listed => Region.ready .any ops listed == [i] && okOrd ops rest (listed.setIfInBounds i true)

section
variable (P : Program) (ops : Array Oper) (Q : Exit → Act → World → Prop)
/-- the walk in that order -/
def Lin : List (Nat × Bool) → Act → World → Prop
  | [], a, w => Q .normal a w
  | (i, true) :: rest, a, w => ∃ o v, ops[i]? = some o ∧ YieldsIf P ops (fun w' => Below w.heap.size w w') o v a ∧ Lin rest (a.put o.dst v) w
  | (i, false) :: rest, a, w => wpOp P ops Q i (fun a' w' => Below w.heap.size w w' ∧ Lin rest a' w') a w
end
section
variable {P : Program} {ops : Array Oper} {Q : Exit → Act → World → Prop}
theorem held_weaken {S S' : World → Prop} (hSS : ∀ w, S' w → S w) : ∀ (fuel : Nat) (listed : Array Bool) (a : Act) (w : World), wpAnyH P .any ops Q S' fuel listed a w → wpAnyH P .any ops Q S fuel listed a w
  | 0, _, _, _, h => h
  | fuel + 1, _, _, _, h => ⟨h.1, fun i hi => wpOp_mono (fun a' w' h' => ⟨hSS _ h'.1, held_weaken hSS fuel _ a' w' h'.2⟩) (h.2 i hi)⟩
theorem held_of_lin (hs : Region.noSelect ops = true) (hQ : ∀ c a d v w, Q (.panic c) (Act.put a (some d) v) w → Q (.panic c) a w) :
    ∀ (σ : List (Nat × Bool)) (listed : Array Bool) (a : Act) (w : World), okOrd ops σ listed = true → Lin P ops Q σ a w → wpAnyH P .any ops Q (fun w' => Below w.heap.size w w') σ.length listed a w
  | [], listed, a, w, ho, h => wpAnyH_done (by simpa [okOrd] using ho) h _
  | (i, true) :: σ, listed, a, w, ho, h => by
    simp only [okOrd, Bool.and_eq_true] at ho
    obtain ⟨o, v, hi, hy, hr⟩ := h
    refine wpAnyH_take hi hs ho.1.1 ho.1.2 (fun c a w => ?_) hy (Below.refl _ _) (held_of_lin hs hQ σ _ _ _ ho.2 hr)
    cases o.dst with
    | none => exact fun h => h
    | some d => exact hQ c a d v w
  | (i, false) :: σ, listed, a, w, ho, h => by
    simp only [okOrd, Bool.and_eq_true, beq_iff_eq] at ho
    refine wpAnyH_all ho.1 (by simp) fun j hj => ?_
    simp only [List.mem_singleton] at hj
    subst hj
    refine wpOp_mono (fun a' w' h' => ⟨h'.1, ?_⟩) h
    exact held_weaken (fun W hW => below_two h'.1 hW) _ _ _ _ (held_of_lin hs hQ σ _ _ _ ho.2 h'.2)
/-- the region: σ has as many places as there are operations -/
theorem wp_region_lin (σ : List (Nat × Bool)) {id : Nat} {a : Act} {w : World} (hm : P.follows .mixedOrders = true) (hl : σ.length = ops.size) (hs : Region.noSelect ops = true)
    (hok : okOrd ops σ (Array.replicate ops.size false) = true) (hQ : ∀ c a d v w, Q (.panic c) (Act.put a (some d) v) w → Q (.panic c) a w)
    (h : Lin P ops Q σ a w.drew) : (Code.region id ops true).wp P Q a w :=
  wp_region_held_drew (S := fun w' => Below w.heap.size w w') hm (below_drew (Below.refl _ _)) fun _ => by
    have := held_of_lin hs hQ σ _ _ _ hok h
    rw [hl] at this
    exact held_weaken (fun W hW => below_two (a := w) (b := w.drew) (below_drew (Below.refl _ _)) hW) _ _ _ _ this
theorem lin_take {i : Nat} {rest : List (Nat × Bool)} {a : Act} {w : World} {o : Oper} {v : Value} (hi : ops[i]? = some o) (hw : Region.wanted o (yielded ops a.tmps) = true)
    (hy : ∀ w', Below w.heap.size w w' → (execOp a.eval o).run P w' = .ok (.value v) w') (h : Lin P ops Q rest (a.put o.dst v) w) : Lin P ops Q ((i, true) :: rest) a w :=
  ⟨o, v, hi, .inl ⟨hw, hy⟩, h⟩
theorem lin_skip {i : Nat} {rest : List (Nat × Bool)} {a : Act} {w : World} {o : Oper} (hi : ops[i]? = some o) (hw : Region.wanted o (yielded ops a.tmps) = false)
    (h : Lin P ops Q rest (a.put o.dst undef) w) : Lin P ops Q ((i, true) :: rest) a w :=
  ⟨o, undef, hi, .inr ⟨hw, rfl⟩, h⟩
theorem lin_op {i : Nat} {rest : List (Nat × Bool)} {a : Act} {w : World} {o : Oper} (hi : ops[i]? = some o) (hw : Region.wanted o (yielded ops a.tmps) = true)
    (h : ∀ K : Act → World → Prop, (∀ a' w', Below w.heap.size w w' → Lin P ops Q rest a' w' → K a' w') → o.wp P a w K Q) : Lin P ops Q ((i, false) :: rest) a w := by
  show wpOp P ops Q i _ a w
  unfold wpOp
  simp only [hi, hw, if_true]
  exact .inl (h _ fun a' w' h1 h2 => ⟨h1, h2⟩)
theorem lin_pass {i : Nat} {rest : List (Nat × Bool)} {a : Act} {w : World} {o : Oper} (hi : ops[i]? = some o) (hw : Region.wanted o (yielded ops a.tmps) = false)
    (h : Lin P ops Q rest (a.put o.dst undef) w) : Lin P ops Q ((i, false) :: rest) a w := by
  show wpOp P ops Q i _ a w
  unfold wpOp
  simp only [hi, hw, Bool.false_eq_true, if_false]
  exact ⟨Below.refl _ _, h⟩
theorem lin_end {a : Act} {w : World} (h : Q .normal a w) : Lin P ops Q [] a w := h
end
/-- a cell that is there is there later -/
theorem cell_keep {w w' : World} (hb : Below w.heap.size w w') {a : Addr} {v : Value} (hc : w.cell? a = some v) : w'.cell? a = some v :=
  (hb.cell (World.block_lt_of_cell? w a hc)).trans hc
end Go.Proofs.Ytmdmhjcdaejlkaa

/- XLin, in any relation between the worlds that a region's operations go through. -/
namespace Go.Proofs.Ytmdmhjcdaejlkaa
open Go.RowKit

/-- what holds between a world and those that lie beyond it -/
structure Way (R : World → World → Prop) : Prop where
  refl : ∀ w, R w w
  trans : ∀ {a b c}, R a b → R b c → R a c
  drew : ∀ w, R w w.drew
theorem wayB (B : Nat) : Way (Below B) := ⟨Below.refl B, Below.trans, fun w => (Below.refl B w).drew⟩
section
variable (P : Program) (R : World → World → Prop) (ops : Array Oper) (Q : Exit → Act → World → Prop)
def LinR : List (Nat × Bool) → Act → World → Prop
  | [], a, w => Q .normal a w
  | (i, true) :: rest, a, w => ∃ o v, ops[i]? = some o ∧ YieldsIf P ops (fun w' => R w w') o v a ∧ LinR rest (a.put o.dst v) w
  | (i, false) :: rest, a, w => wpOp P ops Q i (fun a' w' => R w w' ∧ LinR rest a' w') a w
end
section
variable {P : Program} {R : World → World → Prop} {ops : Array Oper} {Q : Exit → Act → World → Prop}
theorem held_of_linR (HR : Way R) (hs : Region.noSelect ops = true) (hQ : ∀ c a d v w, Q (.panic c) (Act.put a (some d) v) w → Q (.panic c) a w) :
    ∀ (σ : List (Nat × Bool)) (listed : Array Bool) (a : Act) (w : World), okOrd ops σ listed = true → LinR P R ops Q σ a w → wpAnyH P .any ops Q (fun w' => R w w') σ.length listed a w
  | [], listed, a, w, ho, h => wpAnyH_done (by simpa [okOrd] using ho) h _
  | (i, true) :: σ, listed, a, w, ho, h => by
    simp only [okOrd, Bool.and_eq_true] at ho
    obtain ⟨o, v, hi, hy, hr⟩ := h
    refine wpAnyH_take hi hs ho.1.1 ho.1.2 (fun c a w => ?_) hy (HR.refl _) (held_of_linR HR hs hQ σ _ _ _ ho.2 hr)
    cases o.dst with
    | none => exact fun h => h
    | some d => exact hQ c a d v w
  | (i, false) :: σ, listed, a, w, ho, h => by
    simp only [okOrd, Bool.and_eq_true, beq_iff_eq] at ho
    refine wpAnyH_all ho.1 (by simp) fun j hj => ?_
    simp only [List.mem_singleton] at hj
    subst hj
    refine wpOp_mono (fun a' w' h' => ⟨h'.1, ?_⟩) h
    exact held_weaken (fun W hW => HR.trans h'.1 hW) _ _ _ _ (held_of_linR HR hs hQ σ _ _ _ ho.2 h'.2)
theorem wp_region_linR (R : World → World → Prop) (HR : Way R) (σ : List (Nat × Bool)) {id : Nat} {a : Act} {w : World} (hm : P.follows .mixedOrders = true) (hl : σ.length = ops.size) (hs : Region.noSelect ops = true)
    (hok : okOrd ops σ (Array.replicate ops.size false) = true) (hQ : ∀ c a d v w, Q (.panic c) (Act.put a (some d) v) w → Q (.panic c) a w)
    (h : LinR P R ops Q σ a w.drew) : (Code.region id ops true).wp P Q a w :=
  wp_region_held_drew (S := fun w' => R w w') hm (HR.drew w) fun _ => by
    have := held_of_linR HR hs hQ σ _ _ _ hok h
    rw [hl] at this
    exact held_weaken (fun W hW => HR.trans (HR.drew w) hW) _ _ _ _ this
theorem linR_take {i : Nat} {rest : List (Nat × Bool)} {a : Act} {w : World} {o : Oper} {v : Value} (hi : ops[i]? = some o) (hw : Region.wanted o (yielded ops a.tmps) = true)
    (hy : ∀ w', R w w' → (execOp a.eval o).run P w' = .ok (.value v) w') (h : LinR P R ops Q rest (a.put o.dst v) w) : LinR P R ops Q ((i, true) :: rest) a w :=
  ⟨o, v, hi, .inl ⟨hw, hy⟩, h⟩
theorem linR_skip {i : Nat} {rest : List (Nat × Bool)} {a : Act} {w : World} {o : Oper} (hi : ops[i]? = some o) (hw : Region.wanted o (yielded ops a.tmps) = false)
    (h : LinR P R ops Q rest (a.put o.dst undef) w) : LinR P R ops Q ((i, true) :: rest) a w :=
  ⟨o, undef, hi, .inr ⟨hw, rfl⟩, h⟩
theorem linR_op {i : Nat} {rest : List (Nat × Bool)} {a : Act} {w : World} {o : Oper} (hi : ops[i]? = some o) (hw : Region.wanted o (yielded ops a.tmps) = true)
    (h : ∀ K : Act → World → Prop, (∀ a' w', R w w' → LinR P R ops Q rest a' w' → K a' w') → o.wp P a w K Q) : LinR P R ops Q ((i, false) :: rest) a w := by
  show wpOp P ops Q i _ a w
  unfold wpOp
  simp only [hi, hw, if_true]
  exact .inl (h _ fun a' w' h1 h2 => ⟨h1, h2⟩)
theorem linR_pass (HR : Way R) {i : Nat} {rest : List (Nat × Bool)} {a : Act} {w : World} {o : Oper} (hi : ops[i]? = some o) (hw : Region.wanted o (yielded ops a.tmps) = false)
    (h : LinR P R ops Q rest (a.put o.dst undef) w) : LinR P R ops Q ((i, false) :: rest) a w := by
  show wpOp P ops Q i _ a w
  unfold wpOp
  simp only [hi, hw, Bool.false_eq_true, if_false]
  exact ⟨HR.refl _, h⟩
theorem linR_end {a : Act} {w : World} (h : Q .normal a w) : LinR P R ops Q [] a w := h
end
/-- a cell below B is as it was -/
theorem keepB {B : Nat} {w w' : World} {a : Addr} {v : Value} (hB : a.block < B) (hb : Below B w w') (hc : w.cell? a = some v) : w'.cell? a = some v := (hb.cell hB).trans hc
/-- the newest block laid anew -/
theorem below_anew {B : Nat} {w : World} (h : B ≤ w.heap.size) (o o' : Obj) : Below B (w.alloc o) (w.alloc o') :=
  ⟨rfl, rfl, rfl, by simp, fun k hk => by rw [Below.heap_alloc _ _ _ (by omega), Below.heap_alloc _ _ _ (by omega)]⟩
theorem below_anew_drew {B : Nat} {w : World} (h : B ≤ w.heap.size) (o o' : Obj) : Below B (w.alloc o).drew (w.alloc o').drew :=
  ⟨rfl, rfl, rfl, by simp, fun k hk => (below_anew h o o').block k hk⟩
theorem belowB_alloc {B : Nat} {w : World} (h : B ≤ w.heap.size) (o : Obj) : Below B w (w.alloc o) := (Below.refl B w).alloc h o
theorem belowB_mono {B : Nat} {w w' : World} (h : B ≤ w.heap.size) (hb : Below w.heap.size w w') : Below B w w' := hb.mono h
end Go.Proofs.Ytmdmhjcdaejlkaa

/- XLinR in the relation 'below block B as it was, and at some cells': rules. -/
set_option linter.unusedVariables false
set_option linter.unusedSimpArgs false
namespace Go.Proofs.Ytmdmhjcdaejlkaa
open Go.RowKit

/-- below block B, and at the cells L, w' is as w was -/
structure RK (B : Nat) (L : List Addr) (w w' : World) : Prop where
  below : Below B w w'
  cells : ∀ a ∈ L, w'.cell? a = w.cell? a
theorem wayK (B : Nat) (L : List Addr) : Way (RK B L) :=
  ⟨fun w => ⟨Below.refl B w, fun _ _ => rfl⟩, fun h1 h2 => ⟨h1.below.trans h2.below, fun a ha => (h2.cells a ha).trans (h1.cells a ha)⟩, fun w => ⟨(Below.refl B w).drew, fun _ _ => rfl⟩⟩
theorem rk_refl (B : Nat) (L : List Addr) (w : World) : RK B L w w := ⟨Below.refl B w, fun _ _ => rfl⟩
theorem rk_drew (B : Nat) (L : List Addr) (w : World) : RK B L w w.drew := ⟨(Below.refl B w).drew, fun _ _ => rfl⟩
theorem rk_set {B : Nat} {L : List Addr} {w : World} {b o : Nat} (hB : B ≤ b) (hL : ∀ a ∈ L, (⟨b, o, none⟩ : Addr) ≠ a) (u : Value) : RK B L w (w.setCell ⟨b, o, none⟩ u) :=
  ⟨(Below.refl B w).setCell hB u, fun a ha => World.cell?_setCell_other _ _ _ _ (hL a ha)⟩
theorem rk_call {B : Nat} {L : List Addr} {w w' : World} (hB : B ≤ w.heap.size) (hL : ∀ a ∈ L, a.block < w.heap.size) (hb : Below w.heap.size w w') : RK B L w w' :=
  ⟨hb.mono hB, fun a ha => hb.cell (hL a ha)⟩
theorem keepK {B : Nat} {L : List Addr} {w w' : World} (hb : RK B L w w') {a : Addr} {v : Value} (h : a.block < B ∨ a ∈ L) (hc : w.cell? a = some v) : w'.cell? a = some v := by
  rcases h with h | h
  · exact (hb.below.cell h).trans hc
  · exact (hb.cells a h).trans hc

/-- W1 is W but for block g, which now holds the cells c -/
structure Upd (g : Nat) (c : Array Value) (t : TypeId) (W W1 : World) : Prop where
  row : W1.heap[g]? = some (.cells c t (0, 0))
  rest : ∀ k, k ≠ g → W1.heap[k]? = W.heap[k]?
  size : W1.heap.size = W.heap.size
  os : W1.os = W.os
  tape : W1.tape = W.tape
  output : W1.output = W.output
theorem Upd.below {g B : Nat} {c : Array Value} {t : TypeId} {W W1 : World} (h : Upd g c t W W1) (hB : B ≤ g) : Below B W W1 :=
  ⟨h.os, h.tape, h.output, by rw [h.size]; exact Nat.le_refl _, fun k hk => h.rest k (by omega)⟩
theorem upd_set {W : World} {g : Nat} {old c : Array Value} {t : TypeId} (hg : W.heap[g]? = some (.cells old t (0, 0))) : Upd g c t W (W.setRow g c) :=
  ⟨setRow_heap W g old c t _ hg, fun k hk => setRow_other W g k c hk, by simp, rfl, rfl, rfl⟩
/-- a whole struct stored into a block whose row is known -/
theorem wpl_storeS {P : Program} {ops : Array Oper} {rest : List Oper} {o : Oper} {a : Act} {W : World} {Q : Exit → Act → World → Prop} (hgd : o.guard = none) (ty : TypeId) (x y : Operand) (ho : o.op = .store ty x y)
    (g : Nat) (cells : Array Value) (hx : a.eval x = .pointer (some ⟨g, 0, none⟩)) (hy : a.eval y = .agg cells)
    (t : TypeId) (old : Array Value) (hg : W.heap[g]? = some (.cells old t (0, 0))) (hi : (P.info? ty).map (·.size) = some cells.size)
    (hold : old.size = cells.size) (h1 : cells.all (·.oneCell') = true)
    (h : ∀ W1, Upd g cells t W W1 → wpList P ops Q rest (a.put o.dst undef) W1) : wpList P ops Q (o :: rest) a W :=
  wpList_store_row hgd ty x y ho g cells hx hy t old hg hi hold h1 (h _ (upd_set hg))
/-- a struct in a result's block comes back as it stands there -/
theorem run_loadRow {P : Program} (W : World) (g : Nat) (t ty : TypeId) (c : Array Value) (n : Nat) (hg : W.heap[g]? = some (.cells c t (0, 0))) (hi : (P.info? ty).map (·.size) = some c.size) (ha : (isAgg ty).run P W = .ok true W) :
    (loadVar ty ⟨g, 0, none⟩).run P W = .ok (.agg c) W := by
  have hk := run_loadCells_list (P := P) W ⟨g, 0, none⟩ c.toList (fun j v hv => by
    have hadd : (⟨g, 0, none⟩ : Addr).add j = ⟨g, j, none⟩ := by unfold Addr.add; split <;> simp_all
    rw [hadd, cell_of_row _ _ j c t (0, 0) hg]
    simpa using hv)
  cases hq : P.info? ty with
  | none => simp [hq] at hi
  | some i =>
    have hs : i.size = c.size := by simp [hq] at hi; omega
    simp only [List.size_toArray, Array.length_toList, Array.toArray_toList] at hk
    simp [loadVar, ha, sizeOf, typeInfo, hq, hs, hk]
theorem results_cell1 {P : Program} {fn : Func} {tmps : Array Value} {W : World} {a : Tmp} {T : TypeId} {g : Nat} {c : Array Value} (h : fn.results = #[.cell a T]) (hp : tmps.getD a undef = .pointer (some ⟨g, 0, none⟩))
    (hl : (loadVar T ⟨g, 0, none⟩).run P W = .ok (.agg c) W) : (results fn tmps).run P W = .ok (.agg c) W := by
  rw [Array.getD_eq_getD_getElem?] at hp
  simp [results, h, hp, asAddr, hl]
theorem results_cell2 {P : Program} {fn : Func} {tmps : Array Value} {W : World} {a b : Tmp} {T : TypeId} {g : Nat} {c : Array Value} (h : fn.results = #[.cell a T, .tmp b]) (hp : tmps.getD a undef = .pointer (some ⟨g, 0, none⟩))
    (hl : (loadVar T ⟨g, 0, none⟩).run P W = .ok (.agg c) W) : (results fn tmps).run P W = .ok (.tuple #[.agg c, tmps.getD b undef]) W := by
  rw [Array.getD_eq_getD_getElem?] at hp
  simp [results, h, hp, asAddr, hl]
end Go.Proofs.Ytmdmhjcdaejlkaa

/- Rules for whole structs in memory: a block's row is known. -/
set_option linter.unusedVariables false
set_option linter.unusedSimpArgs false
namespace Go.Proofs.Ytmdmhjcdaejlkaa
open Go.RowKit

/-- a whole struct stored into the block that was made last -/
theorem wpl_storeN {P : Program} {ops : Array Oper} {rest : List Oper} {o : Oper} {a : Act} {w : World} {Q : Exit → Act → World → Prop} {ty : TypeId} {x y : Operand} {cells : Array Value} {t : TypeId} {old : Array Value} {g : Nat}
    (hgd : o.guard = none) (ho : o.op = .store ty x y) (hx : a.eval x = .pointer (some ⟨g, 0, none⟩)) (hg : w.heap.size = g) (hy : a.eval y = .agg cells) (hi : (P.info? ty).map (·.size) = some cells.size)
    (hold : old.size = cells.size) (h1 : cells.all (·.oneCell') = true)
    (h : wpList P ops Q rest (a.put o.dst undef) (w.alloc (.cells cells t))) : wpList P ops Q (o :: rest) a (w.alloc (.cells old t)) := by
  subst hg
  exact wpList_store_row hgd ty x y ho w.heap.size cells hx hy t old (heap_alloc_last w _) hi hold h1 (by rw [World.setRow_alloc_new]; exact h)
/-- one cell of a block that was made last -/
theorem wpl_storeF {P : Program} {ops : Array Oper} {rest : List Oper} {o : Oper} {a : Act} {w : World} {Q : Exit → Act → World → Prop} {ty : TypeId} {x y : Operand} {v : Value} {t : TypeId} {old : Array Value} {g j : Nat}
    (hgd : o.guard = none) (ho : o.op = .store ty x y) (hx : a.eval x = .pointer (some ⟨g, j, none⟩)) (hg : w.heap.size = g) (hy : a.eval y = v) (hi : (P.info? ty).map (·.size) = some 1)
    (hc : v.cells = #[v]) (hold : j < old.size) (h1 : v.oneCell' = true)
    (h : wpList P ops Q rest (a.put o.dst undef) (w.alloc (.cells (old.setIfInBounds j v) t))) : wpList P ops Q (o :: rest) a (w.alloc (.cells old t)) := by
  subst hg
  refine wpList_plain hgd fun K hK => ?_
  have hcell : (w.alloc (.cells old t)).cell? ⟨w.heap.size, j, none⟩ = some old[j] := by
    rw [cell_of_row _ _ j old t (0, 0) (heap_alloc_last w _)]; simp [hold]
  have hfro : (w.alloc (.cells old t)).frozen? ⟨w.heap.size, j, none⟩ = false := frozen_of_row _ _ _ _ _ (heap_alloc_last w _)
  have hst : (storeVar ty ⟨w.heap.size, j, none⟩ v).run P (w.alloc (.cells old t)) = .ok () (w.alloc (.cells (old.setIfInBounds j v) t)) := by
    have hadd : (⟨w.heap.size, j, none⟩ : Addr).add 0 = ⟨w.heap.size, j, none⟩ := rfl
    cases hq : P.info? ty with
    | none => simp [hq] at hi
    | some i =>
      have hs : i.size = 1 := by simpa [hq] using hi
      simp [storeVar, sizeOf, typeInfo, hq, hc, hs, storeCells, hadd, run_store P _ _ v _ h1, hcell, hfro, setCell_eq_setRow _ _ j old t (0, 0) v (heap_alloc_last w _), World.setRow_alloc_new]
  unfold Oper.wp execOp
  simp only [ho, hx, hy, Instr.storeAt, Instr.sureAddr, Sem.run_bind, Sem.run_pure, Result.andThen_ok, hst]
  exact hK _ _ h
/-- a block's row -/
def Row (W : World) (g : Nat) (c : Array Value) (t : TypeId) : Prop := W.heap[g]? = some (.cells c t (0, 0))
theorem Row.new (w : World) (c : Array Value) (t : TypeId) : Row (w.alloc (.cells c t)) w.heap.size c t := heap_alloc_last w _
theorem Row.below {W W' : World} {g B : Nat} {c : Array Value} {t : TypeId} (h : Row W g c t) (hb : Below B W W') (hg : g < B) : Row W' g c t := (hb.block g hg).trans h
theorem Row.alloc {W : World} {g : Nat} {c : Array Value} {t : TypeId} (h : Row W g c t) (o : Obj) : Row (W.alloc o) g c t :=
  (heap_alloc_old W o (Array.getElem?_eq_some_iff.1 h).1).trans h
theorem Row.upd {W W' : World} {g k : Nat} {c d : Array Value} {t u : TypeId} (h : Row W g c t) (hu : Upd k d u W W') (hk : g ≠ k) : Row W' g c t := (hu.rest g hk).trans h
theorem Row.cell {W : World} {g : Nat} {c : Array Value} {t : TypeId} (h : Row W g c t) (j : Nat) {v : Value} (hv : c[j]? = some v) : W.cell? ⟨g, j, none⟩ = some v := (cell_of_row _ _ j c t (0, 0) h).trans hv
theorem Row.free {W : World} {g : Nat} {c : Array Value} {t : TypeId} (h : Row W g c t) (j : Nat) : W.frozen? ⟨g, j, none⟩ = false := frozen_of_row _ _ _ _ _ h
theorem Row.lt {W : World} {g : Nat} {c : Array Value} {t : TypeId} (h : Row W g c t) : g < W.heap.size := (Array.getElem?_eq_some_iff.1 h).1
/-- a whole struct into a block whose row is known -/
theorem wpl_storeX {P : Program} {ops : Array Oper} {rest : List Oper} {o : Oper} {a : Act} {W : World} {Q : Exit → Act → World → Prop} {ty : TypeId} {x y : Operand} {cells : Array Value} {t : TypeId} {old : Array Value} {g : Nat}
    (hgd : o.guard = none) (ho : o.op = .store ty x y) (hx : a.eval x = .pointer (some ⟨g, 0, none⟩)) (hy : a.eval y = .agg cells) (hr : Row W g old t) (hi : (P.info? ty).map (·.size) = some cells.size)
    (hold : old.size = cells.size) (h1 : cells.all (·.oneCell') = true)
    (h : ∀ W1, Upd g cells t W W1 → wpList P ops Q rest (a.put o.dst undef) W1) : wpList P ops Q (o :: rest) a W :=
  wpList_store_row hgd ty x y ho g cells hx hy t old hr hi hold h1 (h _ (upd_set hr))
theorem Row.set {W : World} {g : Nat} {c : Array Value} {t : TypeId} (h : Row W g c t) (j : Nat) (v : Value) : Row (W.setCell ⟨g, j, none⟩ v) g (c.setIfInBounds j v) t := heap_setCell_same _ _ _ _ _ _ h
theorem Row.set_other {W : World} {g k : Nat} {c : Array Value} {t : TypeId} (h : Row W g c t) (j : Nat) (v : Value) (hk : g ≠ k) : Row (W.setCell ⟨k, j, none⟩ v) g c t := (heap_setCell_other _ _ _ _ hk).trans h
/-- a whole struct out of a block whose row is known -/
theorem wpl_loadS {P : Program} {ops : Array Oper} {rest : List Oper} {o : Oper} {a : Act} {W : World} {Q : Exit → Act → World → Prop} {ty : TypeId} {x : Operand} {c : Array Value} {t : TypeId} {g : Nat}
    (ho : o.op = .load ty x) (hw : Region.wanted o (yielded ops a.tmps) = true) (hx : a.eval x = .pointer (some ⟨g, 0, none⟩)) (ha : (isAgg ty).run P W = .ok true W) (hr : Row W g c t) (hi : (P.info? ty).map (·.size) = some c.size)
    (h : wpList P ops Q rest (a.put o.dst (.agg c)) W) : wpList P ops Q (o :: rest) a W := by
  refine wpList_step fun K hK => ?_
  rw [if_pos hw]
  have hl := run_loadRow (P := P) W g t ty c 0 hr hi ha
  unfold Oper.wp execOp
  simp only [ho, hx, Instr.loadAt, Instr.sureAddr, Sem.run_bind, Sem.run_pure, Result.andThen_ok, hl]
  exact hK _ _ h
end Go.Proofs.Ytmdmhjcdaejlkaa

/- A region that draws its order: the readers first, then what may come up, by a tree of orders, in any relation between the worlds. -/
set_option linter.unusedVariables false
set_option linter.unusedSimpArgs false
namespace Go.Proofs.Ytmdmhjcdaejlkaa
open Go.RowKit

/-- a tree of orders: a reader ahead; the one that may come up; one of two; a narrower relation from here on -/
inductive OT where
  | nil
  | take (i : Nat) (t : OT)
  | one (i : Nat) (t : OT)
  | two (i : Nat) (t : OT) (j : Nat) (s : OT)
  | sw (R : World → World → Prop) (t : OT)
def okOT (ops : Array Oper) : OT → Nat → Array Bool → Bool
  | .nil, 0, listed => (Region.ready .any ops listed).isEmpty
  | .take i t, n + 1, listed => (Region.ready .any ops listed).contains i && Region.free .any ops listed i && okOT ops t n (listed.setIfInBounds i true)
  | .one i t, n + 1, listed => Region.ready .any ops listed == [i] && okOT ops t n (listed.setIfInBounds i true)
  | .two i t j s, n + 1, listed => Region.ready .any ops listed == [i, j] && okOT ops t n (listed.setIfInBounds i true) && okOT ops s n (listed.setIfInBounds j true)
  | .sw _ t, n, listed => okOT ops t n listed
  | _, _, _ => false
section
variable (P : Program) (ops : Array Oper) (Q : Exit → Act → World → Prop)
def LinT : (World → World → Prop) → OT → Act → World → Prop
  | _, .nil, a, w => Q .normal a w
  | R, .take i t, a, w => ∃ o v, ops[i]? = some o ∧ YieldsIf P ops (fun w' => R w w') o v a ∧ LinT R t (a.put o.dst v) w
  | R, .one i t, a, w => wpOp P ops Q i (fun a' w' => R w w' ∧ LinT R t a' w') a w
  | R, .two i t j s, a, w => wpOp P ops Q i (fun a' w' => R w w' ∧ LinT R t a' w') a w ∧ wpOp P ops Q j (fun a' w' => R w w' ∧ LinT R s a' w') a w
  | R, .sw R' t, a, w => Way R' ∧ (∀ w w', R' w w' → R w w') ∧ LinT R' t a w
end
section
variable {P : Program} {R : World → World → Prop} {ops : Array Oper} {Q : Exit → Act → World → Prop}
theorem held_of_linT (hs : Region.noSelect ops = true) (hQ : ∀ c a d v w, Q (.panic c) (Act.put a (some d) v) w → Q (.panic c) a w) :
    ∀ (σ : OT) (R : World → World → Prop) (HR : Way R) (n : Nat) (listed : Array Bool) (a : Act) (w : World), okOT ops σ n listed = true → LinT P ops Q R σ a w → wpAnyH P .any ops Q (fun w' => R w w') n listed a w
  | .nil, R, HR, 0, listed, a, w, ho, h => wpAnyH_done (by simpa [okOT] using ho) h _
  | .take i t, R, HR, n + 1, listed, a, w, ho, h => by
    simp only [okOT, Bool.and_eq_true] at ho
    obtain ⟨o, v, hi, hy, hr⟩ := h
    refine wpAnyH_take hi hs ho.1.2 ho.1.1 (fun c a w => ?_) hy (HR.refl _) (held_of_linT hs hQ t R HR n _ _ _ ho.2 hr)
    cases o.dst with
    | none => exact fun h => h
    | some d => exact hQ c a d v w
  | .one i t, R, HR, n + 1, listed, a, w, ho, h => by
    simp only [okOT, Bool.and_eq_true, beq_iff_eq] at ho
    refine wpAnyH_all ho.1 (by simp) fun j hj => ?_
    simp only [List.mem_singleton] at hj
    subst hj
    refine wpOp_mono (fun a' w' h' => ⟨h'.1, ?_⟩) h
    exact held_weaken (fun W hW => HR.trans h'.1 hW) _ _ _ _ (held_of_linT hs hQ t R HR n _ _ _ ho.2 h'.2)
  | .two i t j s, R, HR, n + 1, listed, a, w, ho, h => by
    simp only [okOT, Bool.and_eq_true, beq_iff_eq] at ho
    refine wpAnyH_all ho.1.1 (by simp) fun k hk => ?_
    simp only [List.mem_cons, List.not_mem_nil, or_false] at hk
    rcases hk with rfl | rfl
    · refine wpOp_mono (fun a' w' h' => ⟨h'.1, ?_⟩) h.1
      exact held_weaken (fun W hW => HR.trans h'.1 hW) _ _ _ _ (held_of_linT hs hQ t R HR n _ _ _ ho.1.2 h'.2)
    · refine wpOp_mono (fun a' w' h' => ⟨h'.1, ?_⟩) h.2
      exact held_weaken (fun W hW => HR.trans h'.1 hW) _ _ _ _ (held_of_linT hs hQ s R HR n _ _ _ ho.2 h'.2)
  | .sw R' t, R, HR, n, listed, a, w, ho, h => by
    rw [okOT] at ho
    exact held_weaken (fun W hW => h.2.1 _ _ hW) _ _ _ _ (held_of_linT hs hQ t R' h.1 n listed a w ho h.2.2)
  | .nil, _, _, _ + 1, _, _, _, ho, _ => by simp [okOT] at ho
  | .take _ _, _, _, 0, _, _, _, ho, _ => by simp [okOT] at ho
  | .one _ _, _, _, 0, _, _, _, ho, _ => by simp [okOT] at ho
  | .two _ _ _ _, _, _, 0, _, _, _, ho, _ => by simp [okOT] at ho
theorem wp_region_linT (R : World → World → Prop) (HR : Way R) (σ : OT) {id : Nat} {a : Act} {w : World} (hm : P.follows .mixedOrders = true) (hs : Region.noSelect ops = true)
    (hok : okOT ops σ ops.size (Array.replicate ops.size false) = true) (hQ : ∀ c a d v w, Q (.panic c) (Act.put a (some d) v) w → Q (.panic c) a w)
    (h : LinT P ops Q R σ a w.drew) : (Code.region id ops true).wp P Q a w :=
  wp_region_held_drew (S := fun w' => R w w') hm (HR.drew w) fun _ => by
    have := held_of_linT hs hQ σ R HR _ _ _ _ hok h
    exact held_weaken (fun W hW => HR.trans (HR.drew w) hW) _ _ _ _ this
theorem linT_take {i : Nat} {t : OT} {a : Act} {w : World} {o : Oper} {v : Value} (hi : ops[i]? = some o) (hw : Region.wanted o (yielded ops a.tmps) = true)
    (hy : ∀ w', R w w' → (execOp a.eval o).run P w' = .ok (.value v) w') (h : LinT P ops Q R t (a.put o.dst v) w) : LinT P ops Q R (.take i t) a w :=
  ⟨o, v, hi, .inl ⟨hw, hy⟩, h⟩
theorem linT_skip {i : Nat} {t : OT} {a : Act} {w : World} {o : Oper} (hi : ops[i]? = some o) (hw : Region.wanted o (yielded ops a.tmps) = false)
    (h : LinT P ops Q R t (a.put o.dst undef) w) : LinT P ops Q R (.take i t) a w :=
  ⟨o, undef, hi, .inr ⟨hw, rfl⟩, h⟩
theorem linT_op {i : Nat} {t : OT} {a : Act} {w : World} {o : Oper} (hi : ops[i]? = some o) (hw : Region.wanted o (yielded ops a.tmps) = true)
    (h : ∀ K : Act → World → Prop, (∀ a' w', R w w' → LinT P ops Q R t a' w' → K a' w') → o.wp P a w K Q) : wpOp P ops Q i (fun a' w' => R w w' ∧ LinT P ops Q R t a' w') a w := by
  unfold wpOp
  simp only [hi, hw, if_true]
  exact .inl (h _ fun a' w' h1 h2 => ⟨h1, h2⟩)
theorem linT_pass (HR : Way R) {i : Nat} {t : OT} {a : Act} {w : World} {o : Oper} (hi : ops[i]? = some o) (hw : Region.wanted o (yielded ops a.tmps) = false)
    (h : LinT P ops Q R t (a.put o.dst undef) w) : wpOp P ops Q i (fun a' w' => R w w' ∧ LinT P ops Q R t a' w') a w := by
  unfold wpOp
  simp only [hi, hw, Bool.false_eq_true, if_false]
  exact ⟨HR.refl _, h⟩
theorem linT_one {i : Nat} {t : OT} {a : Act} {w : World} (h : wpOp P ops Q i (fun a' w' => R w w' ∧ LinT P ops Q R t a' w') a w) : LinT P ops Q R (.one i t) a w := h
theorem linT_two {i j : Nat} {t s : OT} {a : Act} {w : World} (h : wpOp P ops Q i (fun a' w' => R w w' ∧ LinT P ops Q R t a' w') a w) (h' : wpOp P ops Q j (fun a' w' => R w w' ∧ LinT P ops Q R s a' w') a w) :
    LinT P ops Q R (.two i t j s) a w := ⟨h, h'⟩
theorem linT_sw {R' : World → World → Prop} {t : OT} {a : Act} {w : World} (HR : Way R') (hR : ∀ w w', R' w w' → R w w') (h : LinT P ops Q R' t a w) : LinT P ops Q R (.sw R' t) a w := ⟨HR, hR, h⟩
theorem linT_end {a : Act} {w : World} (h : Q .normal a w) : LinT P ops Q R .nil a w := h
end

/-- but for the blocks S, all that there was is as it was; and so are the cells L -/
structure RC (S : List Nat) (L : List Addr) (w w' : World) : Prop where
  os : w'.os = w.os
  tape : w'.tape = w.tape
  output : w'.output = w.output
  size : w.heap.size ≤ w'.heap.size
  block : ∀ k, k < w.heap.size → k ∉ S → w'.heap[k]? = w.heap[k]?
  cells : ∀ a ∈ L, w'.cell? a = w.cell? a
theorem RC.refl (S : List Nat) (L : List Addr) (w : World) : RC S L w w := ⟨rfl, rfl, rfl, Nat.le_refl _, fun _ _ _ => rfl, fun _ _ => rfl⟩
theorem RC.trans {S : List Nat} {L : List Addr} {a b c : World} (h1 : RC S L a b) (h2 : RC S L b c) : RC S L a c :=
  ⟨h2.os.trans h1.os, h2.tape.trans h1.tape, h2.output.trans h1.output, Nat.le_trans h1.size h2.size, fun k hk hn => (h2.block k (Nat.lt_of_lt_of_le hk h1.size) hn).trans (h1.block k hk hn), fun x hx => (h2.cells x hx).trans (h1.cells x hx)⟩
theorem wayC (S : List Nat) (L : List Addr) : Way (RC S L) := ⟨RC.refl S L, RC.trans, fun w => ⟨rfl, rfl, rfl, Nat.le_refl _, fun _ _ _ => rfl, fun _ _ => rfl⟩⟩
theorem rc_below {S : List Nat} {L : List Addr} {w w' : World} (hb : Below w.heap.size w w') (hL : ∀ a ∈ L, a.block < w.heap.size) : RC S L w w' :=
  ⟨hb.os, hb.tape, hb.output, hb.size, fun k hk _ => hb.block k hk, fun a ha => hb.cell (hL a ha)⟩
theorem rc_alloc {S : List Nat} {L : List Addr} (w : World) (o : Obj) (hL : ∀ a ∈ L, a.block < w.heap.size) : RC S L w (w.alloc o) := rc_below (below_alloc (Below.refl _ _) _) hL
theorem rc_set {S : List Nat} {L : List Addr} {w : World} {b o : Nat} (hS : b ∈ S) (hL : ∀ a ∈ L, (⟨b, o, none⟩ : Addr) ≠ a) (u : Value) : RC S L w (w.setCell ⟨b, o, none⟩ u) :=
  ⟨rfl, rfl, rfl, by simp, fun k hk hn => heap_setCell_other _ _ _ _ (fun e => hn (e ▸ hS)), fun a ha => World.cell?_setCell_other _ _ _ _ (hL a ha)⟩
theorem rc_anew {S : List Nat} {L : List Addr} {w : World} (o o' : Obj) (hS : w.heap.size ∈ S) (hL : ∀ a ∈ L, a.block < w.heap.size) : RC S L (w.alloc o) (w.alloc o') :=
  ⟨rfl, rfl, rfl, by simp, fun k hk hn => by
    have hk' : k < w.heap.size := by
      simp at hk
      rcases Nat.lt_or_ge k w.heap.size with h | h
      · exact h
      · exact absurd (show k = w.heap.size by omega) (fun e => hn (e ▸ hS))
    rw [Below.heap_alloc _ _ _ hk', Below.heap_alloc _ _ _ hk'],
   fun a ha => by
    have h := hL a ha
    exact ((below_alloc (Below.refl _ _) o').cell h).trans ((below_alloc (Below.refl _ _) o).cell h).symm⟩
theorem keepC {S : List Nat} {L : List Addr} {w w' : World} (hb : RC S L w w') {a : Addr} {v : Value} (h : a.block ∉ S ∨ a ∈ L) (hc : w.cell? a = some v) : w'.cell? a = some v := by
  rcases h with h | h
  · have hk : a.block < w.heap.size := World.block_lt_of_cell? w _ hc
    have := hb.block _ hk h
    unfold World.cell? at hc ⊢
    rw [this]
    exact hc
  · exact (hb.cells a h).trans hc
theorem rc_less {S S' : List Nat} {L : List Addr} (hS : ∀ k ∈ S, k ∈ S') : ∀ w w', RC S L w w' → RC S' L w w' :=
  fun _ _ h => ⟨h.os, h.tape, h.output, h.size, fun k hk hn => h.block k hk (fun hm => hn (hS k hm)), h.cells⟩
theorem rc_to_below {S : List Nat} {L : List Addr} {w w' : World} {B : Nat} (h : RC S L w w') (hB : B ≤ w.heap.size) (hS : ∀ k ∈ S, B ≤ k) : Below B w w' :=
  ⟨h.os, h.tape, h.output, h.size, fun k hk => h.block k (by omega) (fun hm => by have := hS k hm; omega)⟩
/-- below block B all is as it was; from B on all that is not of type T -/
structure RB (B : Nat) (T : TypeId) (w w' : World) : Prop where
  below : Below B w w'
  other : ∀ k, k < w.heap.size → (∀ c fr, w.heap[k]? ≠ some (.cells c T fr)) → w'.heap[k]? = w.heap[k]?
theorem RB.refl (B : Nat) (T : TypeId) (w : World) : RB B T w w := ⟨Below.refl _ _, fun _ _ _ => rfl⟩
theorem wayRB (B : Nat) (T : TypeId) : Way (RB B T) :=
  ⟨RB.refl B T, fun {a b c} h1 h2 => ⟨h1.below.trans h2.below, fun k hk hn => by
    have e := h1.other k hk hn
    exact (h2.other k (Nat.lt_of_lt_of_le hk h1.below.size) (by rw [e]; exact hn)).trans e⟩, fun w => ⟨(Below.refl B w).drew, fun _ _ _ => rfl⟩⟩
theorem rb_call {B : Nat} {T : TypeId} {w w' : World} (hB : B ≤ w.heap.size) (hb : Below w.heap.size w w') : RB B T w w' := ⟨hb.mono hB, fun k hk _ => hb.block k hk⟩
theorem rb_upd {B g : Nat} {T : TypeId} {c old : Array Value} {w w' : World} (hu : Upd g c T w w') (hr : Row w g old T) (hB : B ≤ g) : RB B T w w' :=
  ⟨hu.below hB, fun k _ hn => hu.rest k (fun e => by subst e; exact hn _ _ hr)⟩
theorem keepRB {B : Nat} {T : TypeId} {w w' : World} (hb : RB B T w w') {a : Addr} {v : Value} (h : a.block < B) (hc : w.cell? a = some v) : w'.cell? a = some v := (hb.below.cell h).trans hc
theorem keepRow {B g : Nat} {T t : TypeId} {c : Array Value} {w w' : World} (hb : RB B T w w') (hr : Row w g c t) (ht : t ≠ T) : Row w' g c t :=
  (hb.other g hr.lt (fun c' fr e => by have := hr.symm.trans e; simp at this; exact ht this.2.1)).trans hr
theorem linT_gen {P : Program} {R : World → World → Prop} {ops : Array Oper} {Q : Exit → Act → World → Prop} {t : OT} {a : Act} {w : World} {c : Array Value} {e : TypeId} {g : Nat} (hg : w.heap.size = g)
    (h : ∀ W, Row W g c e → W.heap.size = g + 1 → Below g w W → LinT P ops Q R t a W) : LinT P ops Q R t a (w.alloc (.cells c e)) := by
  subst hg
  exact h _ (Row.new w c e) (by simp) (below_alloc (Below.refl _ _) _)
theorem linT_genD {P : Program} {R : World → World → Prop} {ops : Array Oper} {Q : Exit → Act → World → Prop} {t : OT} {a : Act} {w : World} {c : Array Value} {e : TypeId} {g : Nat} (hg : w.heap.size = g)
    (h : ∀ W, Row W g c e → W.heap.size = g + 1 → Below g w W → LinT P ops Q R t a W) : LinT P ops Q R t a (w.alloc (.cells c e)).drew := by
  subst hg
  exact h _ (Row.new w c e) (by simp) (below_drew (below_alloc (Below.refl _ _) _))
theorem wp_storeR {P : Program} {o : Oper} {a : Act} {W : World} {K : Act → World → Prop} {Q : Exit → Act → World → Prop} {ty : TypeId} {x y : Operand} {cells : Array Value} {t : TypeId} {old : Array Value} {g : Nat}
    (ho : o.op = .store ty x y) (hx : a.eval x = .pointer (some ⟨g, 0, none⟩)) (hy : a.eval y = .agg cells) (hr : Row W g old t) (hi : (P.info? ty).map (·.size) = some cells.size)
    (hold : old.size = cells.size) (h1 : cells.all (·.oneCell') = true)
    (h : ∀ W1, Upd g cells t W W1 → K (a.put o.dst undef) W1) : o.wp P a W K Q :=
  wp_store_row ty x y ho g cells hx hy t old hr hi hold h1 (h _ (upd_set hr))
end Go.Proofs.Ytmdmhjcdaejlkaa

/- A whole struct loaded from whatever address, its cells known. -/
set_option linter.unusedVariables false
namespace Go.Proofs.Ytmdmhjcdaejlkaa
open Go.RowKit

theorem run_loadR {P : Program} {ty : TypeId} {W : World} {ad : Addr} {vs : List Value} (ha : (isAgg ty).run P W = .ok true W) (hi : (P.info? ty).map (·.size) = some vs.length) (h : ∀ j v, vs[j]? = some v → W.cell? (ad.add j) = some v) :
    (loadVar ty ad).run P W = .ok (.agg vs.toArray) W := by
  cases hq : P.info? ty with
  | none => rw [hq] at hi; cases hi
  | some i =>
    rw [hq] at hi
    have hs : i.size = vs.length := by simpa using hi
    have hl := run_loadCells_list (P := P) (w := W) ad vs h
    simp [loadVar, Sem.run_bind, ha, sizeOf, typeInfo, hq, hs, hl]
theorem wpl_loadR {P : Program} {ops : Array Oper} {rest : List Oper} {o : Oper} {a : Act} {W : World} {Q : Exit → Act → World → Prop} {ty : TypeId} {x : Operand} {ad : Addr} (vs : List Value)
    (ho : o.op = .load ty x) (hw : Region.wanted o (yielded ops a.tmps) = true) (hx : a.eval x = .pointer (some ad)) (ha : (isAgg ty).run P W = .ok true W) (hi : (P.info? ty).map (·.size) = some vs.length) (hc : ∀ j v, vs[j]? = some v → W.cell? (ad.add j) = some v)
    (h : wpList P ops Q rest (a.put o.dst (.agg vs.toArray)) W) : wpList P ops Q (o :: rest) a W := by
  refine wpList_step fun K hK => ?_
  rw [if_pos hw]
  have hl := run_loadR ha hi hc
  unfold Oper.wp execOp
  simp only [ho, hx, Instr.loadAt, Instr.sureAddr, Sem.run_bind, Sem.run_pure, Result.andThen_ok, hl]
  exact hK _ _ h
end Go.Proofs.Ytmdmhjcdaejlkaa

/- XLinR, where the operation that waits for all others may leave the relation: the last store may turn what the region reads. -/
namespace Go.Proofs.Ytmdmhjcdaejlkaa
open Go.RowKit

/-- does operation j wait for operation k, straight or through one other? -/
def waits (ops : Array Oper) (j k : Nat) : Bool := match ops[j]? with
  | some o => o.after.any fun e => Region.binds .any e && (e.on == k || match ops[e.on]? with
    | some o' => o'.after.any fun e' => Region.binds .any e' && e'.on == k
    | none => false)
  | none => false
def lastB (ops : Array Oper) (j : Nat) : Bool := (List.range ops.size).all fun k => k == j || waits ops j k
/-- what is listed has all listed that it waits for -/
def Shut (ops : Array Oper) (listed : Array Bool) : Prop := ∀ k o, ops[k]? = some o → listed.getD k false = true → ∀ e ∈ o.after, Region.binds .any e = true → listed.getD e.on false = true
theorem Shut.ready {ops : Array Oper} {listed : Array Bool} {i : Nat} (h : Shut ops listed) (hi : i ∈ Region.ready .any ops listed) : Shut ops (listed.setIfInBounds i true) := by
  intro k o hk hl e he hb
  obtain ⟨_, o', ho', hall⟩ := mem_ready.1 hi
  by_cases hki : k = i
  · subst hki
    rw [hk] at ho'
    cases ho'
    exact getD_set_true (hall e he hb)
  · rw [getD_set_ne false (Ne.symm hki)] at hl
    exact getD_set_true (h k o hk hl e he hb)
theorem waits_ready {ops : Array Oper} {listed : Array Bool} {j k : Nat} (h : Shut ops listed) (hj : j ∈ Region.ready .any ops listed) (hw : waits ops j k = true) : listed.getD k false = true := by
  obtain ⟨_, o, ho, hall⟩ := mem_ready.1 hj
  unfold waits at hw
  rw [ho] at hw
  simp only [Array.any_eq_true'] at hw
  obtain ⟨e, he, hw⟩ := hw
  simp only [Bool.and_eq_true, Bool.or_eq_true, beq_iff_eq] at hw
  obtain ⟨hb, hw⟩ := hw
  have h1 := hall e he hb
  rcases hw with rfl | hw
  · exact h1
  · cases ho' : ops[e.on]? with
    | none => rw [ho'] at hw; cases hw
    | some o' =>
      rw [ho'] at hw
      simp only [Array.any_eq_true', Bool.and_eq_true, beq_iff_eq] at hw
      obtain ⟨e', he', hb', rfl⟩ := hw
      exact h _ o' ho' h1 e' he' hb'
theorem last_ready {ops : Array Oper} {listed : Array Bool} {i j : Nat} (h : Shut ops listed) (hj : j ∈ Region.ready .any ops listed) (hi : i ∈ Region.ready .any ops listed) (hl : lastB ops j = true) : i = j := by
  obtain ⟨h0, o, ho, _⟩ := mem_ready.1 hi
  have hlt : i < ops.size := (Array.getElem?_eq_some_iff.1 ho).1
  have := List.all_eq_true.1 hl i (List.mem_range.2 hlt)
  simp only [Bool.or_eq_true, beq_iff_eq] at this
  rcases this with h1 | h1
  · exact h1
  · have h2 := waits_ready h hj h1
    rcases Nat.lt_or_ge i listed.size with h' | h'
    · simp [h'] at h0 h2; rw [h0] at h2; cases h2
    · simp [Array.getElem?_eq_none h'] at h0
section
variable {P : Program} {ops : Array Oper} {Q : Exit → Act → World → Prop} {S : World → Prop}
/-- in whatever order: S holds behind each operation but the one that waits for all -/
def anyG (P : Program) (ops : Array Oper) (Q : Exit → Act → World → Prop) (S : World → Prop) : Nat → Array Bool → Act → World → Prop
  | 0, listed, a, w => Region.ready .any ops listed = [] ∧ Q .normal a w
  | fuel + 1, listed, a, w => (Region.ready .any ops listed = [] → Q .normal a w) ∧
    ∀ i ∈ Region.ready .any ops listed, wpOp P ops Q i (fun a' w' => (S w' ∨ lastB ops i = true) ∧ anyG P ops Q S fuel (listed.setIfInBounds i true) a' w') a w
theorem any_of_anyG : ∀ (fuel : Nat) (listed : Array Bool) (a : Act) (w : World), anyG P ops Q S fuel listed a w → wpAny P .any ops Q fuel listed a w
  | 0, _, _, _, h => h
  | fuel + 1, _, _, _, h => ⟨h.1, fun i hi => wpOp_mono (fun a' w' h' => any_of_anyG fuel _ a' w' h'.2) (h.2 i hi)⟩
theorem anyG_weaken {S S' : World → Prop} (hSS : ∀ w, S' w → S w) : ∀ (fuel : Nat) (listed : Array Bool) (a : Act) (w : World), anyG P ops Q S' fuel listed a w → anyG P ops Q S fuel listed a w
  | 0, _, _, _, h => h
  | fuel + 1, _, _, _, h => ⟨h.1, fun i hi => wpOp_mono (fun a' w' h' => ⟨h'.1.imp (hSS _) id, anyG_weaken hSS fuel _ a' w' h'.2⟩) (h.2 i hi)⟩
theorem anyG_take {i : Nat} {o : Oper} {v : Value} (hi : ops[i]? = some o) (hs : Region.noSelect ops = true) (hQ : ∀ c a w, Q (.panic c) (a.put o.dst v) w → Q (.panic c) a w) :
    ∀ (fuel : Nat) (listed : Array Bool) (a : Act) (w : World), Shut ops listed → Region.free .any ops listed i = true → i ∈ Region.ready .any ops listed → YieldsIf P ops S o v a → S w →
      anyG P ops Q S fuel (listed.setIfInBounds i true) (a.put o.dst v) w → anyG P ops Q S (fuel + 1) listed a w := by
  intro fuel
  induction fuel with
  | zero =>
    intro listed a w _ _ hr hy hS H
    refine ⟨fun h => (by rw [h] at hr; cases hr), fun j hj => ?_⟩
    rcases Nat.decEq j i with hji | hji
    · exact absurd (ready_mono hj hji) (by rw [H.1]; simp)
    · subst hji
      exact hy.wpOp hi hS ⟨.inl hS, H⟩
  | succ fuel ih =>
    intro listed a w hsh hf hr hy hS H
    refine ⟨fun h => (by rw [h] at hr; cases hr), fun j hj => ?_⟩
    rcases Nat.decEq j i with hji | hji
    · obtain ⟨hjun, oj, hoj, hall⟩ := mem_ready.1 hj
      have hno : ∀ e ∈ oj.after, Region.binds .any e = true → e.on ≠ i := by
        intro e he hb heq
        have q1 := hall e he hb
        have q0 := (mem_ready.1 hr).1
        rw [heq] at q1
        rcases Nat.lt_or_ge i listed.size with h' | h'
        · simp [h'] at q0 q1; rw [q0] at q1; cases q1
        · simp [Array.getElem?_eq_none h'] at q1
      have hap := Region.free_spec hi hf j oj hoj hji hjun hno
      have hsel := Region.noSelect_spec hs
      have hstep := wpOp_putIf hoj hap (fun cs b => hsel i o cs b hi) (fun cs b => hsel j oj cs b hoj) hQ hy (H.2 j (ready_mono hj hji))
      have hf2 : Region.free .any ops (listed.setIfInBounds j true) i = true := by
        unfold Region.free at hf ⊢
        rw [hi] at hf ⊢
        simp only [List.all_eq_true, List.mem_range, Bool.or_eq_true] at hf ⊢
        intro k hk
        rcases hf k hk with (q | q) | q
        · exact .inl (.inl q)
        · by_cases hkj : j = k
          · subst hkj
            rw [hjun] at q
            cases q
          · exact .inl (.inr (by rw [getD_set_ne true hkj]; exact q))
        · exact .inr q
      refine wpOp_mono (fun a' w' h3 => ?_) hstep
      have hSj : S w' := h3.2.1.resolve_right fun hl => hji (last_ready hsh hj hr hl).symm
      refine ⟨.inl hSj, ih _ a' w' (hsh.ready hj) hf2 (ready_mono hr (Ne.symm hji)) h3.1 hSj ?_⟩
      rw [Array.setIfInBounds_comm _ _ hji]
      exact h3.2.2
    · subst hji
      exact hy.wpOp hi hS ⟨.inl hS, H⟩
end
section
variable (P : Program) (R : World → World → Prop) (ops : Array Oper) (Q : Exit → Act → World → Prop)
def LinG : List (Nat × Bool) → Act → World → Prop
  | [], a, w => Q .normal a w
  | (i, true) :: rest, a, w => ∃ o v, ops[i]? = some o ∧ YieldsIf P ops (fun w' => R w w') o v a ∧ LinG rest (a.put o.dst v) w
  | (i, false) :: rest, a, w => wpOp P ops Q i (fun a' w' => (R w w' ∨ lastB ops i = true ∧ rest = []) ∧ LinG rest a' w') a w
end
section
variable {P : Program} {R : World → World → Prop} {ops : Array Oper} {Q : Exit → Act → World → Prop}
theorem anyG_of_lin (HR : Way R) (hs : Region.noSelect ops = true) (hQ : ∀ c a d v w, Q (.panic c) (Act.put a (some d) v) w → Q (.panic c) a w) :
    ∀ (σ : List (Nat × Bool)) (listed : Array Bool) (a : Act) (w : World), Shut ops listed → okOrd ops σ listed = true → LinG P R ops Q σ a w → anyG P ops Q (fun w' => R w w') σ.length listed a w
  | [], listed, a, w, _, ho, h => ⟨by simpa [okOrd] using ho, h⟩
  | (i, true) :: σ, listed, a, w, hsh, ho, h => by
    simp only [okOrd, Bool.and_eq_true] at ho
    obtain ⟨o, v, hi, hy, hr⟩ := h
    have hrd : i ∈ Region.ready .any ops listed := by simpa using ho.1.2
    refine anyG_take hi hs (fun c a w => ?_) _ _ _ _ hsh ho.1.1 hrd hy (HR.refl _) (anyG_of_lin HR hs hQ σ _ _ _ (hsh.ready hrd) ho.2 hr)
    cases o.dst with
    | none => exact fun h => h
    | some d => exact hQ c a d v w
  | (i, false) :: σ, listed, a, w, hsh, ho, h => by
    simp only [okOrd, Bool.and_eq_true, beq_iff_eq] at ho
    refine ⟨fun h0 => (by rw [ho.1] at h0; cases h0), fun j hj => ?_⟩
    have hj' := hj
    rw [ho.1] at hj
    simp only [List.mem_singleton] at hj
    subst hj
    refine wpOp_mono (fun a' w' h' => ?_) h
    rcases h'.1 with hR | ⟨hl, rfl⟩
    · exact ⟨.inl hR, anyG_weaken (fun W hW => HR.trans hR hW) _ _ _ _ (anyG_of_lin HR hs hQ σ _ _ _ (hsh.ready hj') ho.2 h'.2)⟩
    · exact ⟨.inr hl, by simpa [okOrd] using ho.2, h'.2⟩
theorem shut_none (ops : Array Oper) (n : Nat) : Shut ops (Array.replicate n false) := fun k o _ hl => by
  by_cases h : k < n <;> simp [h] at hl
theorem wp_region_linG (R : World → World → Prop) (HR : Way R) (σ : List (Nat × Bool)) {id : Nat} {a : Act} {w : World} (hm : P.follows .mixedOrders = true) (hl : σ.length = ops.size) (hs : Region.noSelect ops = true)
    (hok : okOrd ops σ (Array.replicate ops.size false) = true) (hQ : ∀ c a d v w, Q (.panic c) (Act.put a (some d) v) w → Q (.panic c) a w)
    (h : LinG P R ops Q σ a w.drew) : (Code.region id ops true).wp P Q a w :=
  wp_region_any hm (any_of_anyG _ _ _ _ (by
    have := anyG_of_lin HR hs hQ σ _ _ _ (shut_none ops ops.size) hok h
    rw [hl] at this
    exact this))
theorem linG_take {i : Nat} {rest : List (Nat × Bool)} {a : Act} {w : World} {o : Oper} {v : Value} (hi : ops[i]? = some o) (hw : Region.wanted o (yielded ops a.tmps) = true)
    (hy : ∀ w', R w w' → (execOp a.eval o).run P w' = .ok (.value v) w') (h : LinG P R ops Q rest (a.put o.dst v) w) : LinG P R ops Q ((i, true) :: rest) a w :=
  ⟨o, v, hi, .inl ⟨hw, hy⟩, h⟩
theorem linG_skip {i : Nat} {rest : List (Nat × Bool)} {a : Act} {w : World} {o : Oper} (hi : ops[i]? = some o) (hw : Region.wanted o (yielded ops a.tmps) = false)
    (h : LinG P R ops Q rest (a.put o.dst undef) w) : LinG P R ops Q ((i, true) :: rest) a w :=
  ⟨o, undef, hi, .inr ⟨hw, rfl⟩, h⟩
theorem linG_op {i : Nat} {rest : List (Nat × Bool)} {a : Act} {w : World} {o : Oper} (hi : ops[i]? = some o) (hw : Region.wanted o (yielded ops a.tmps) = true)
    (h : ∀ K : Act → World → Prop, (∀ a' w', R w w' → LinG P R ops Q rest a' w' → K a' w') → o.wp P a w K Q) : LinG P R ops Q ((i, false) :: rest) a w := by
  show wpOp P ops Q i _ a w
  unfold wpOp
  simp only [hi, hw, if_true]
  exact .inl (h _ fun a' w' h1 h2 => ⟨.inl h1, h2⟩)
theorem linG_last {i : Nat} {a : Act} {w : World} {o : Oper} (hi : ops[i]? = some o) (hw : Region.wanted o (yielded ops a.tmps) = true) (hl : lastB ops i = true)
    (h : ∀ K : Act → World → Prop, (∀ a' w', True → Q .normal a' w' → K a' w') → o.wp P a w K Q) : LinG P R ops Q [(i, false)] a w := by
  show wpOp P ops Q i _ a w
  unfold wpOp
  simp only [hi, hw, if_true]
  exact .inl (h _ fun a' w' h1 h2 => ⟨.inr ⟨hl, by trivial⟩, h2⟩)
theorem linG_pass (HR : Way R) {i : Nat} {rest : List (Nat × Bool)} {a : Act} {w : World} {o : Oper} (hi : ops[i]? = some o) (hw : Region.wanted o (yielded ops a.tmps) = false)
    (h : LinG P R ops Q rest (a.put o.dst undef) w) : LinG P R ops Q ((i, false) :: rest) a w := by
  show wpOp P ops Q i _ a w
  unfold wpOp
  simp only [hi, hw, Bool.false_eq_true, if_false]
  exact ⟨.inl (HR.refl _), h⟩
/-- a whole struct loaded, its cells known in whatever world lies beyond -/
theorem linG_load {i : Nat} {rest : List (Nat × Bool)} {a : Act} {w : World} {o : Oper} {ty : TypeId} {x : Operand} {ad : Addr} (vs : List Value) (hi : ops[i]? = some o) (hw : Region.wanted o (yielded ops a.tmps) = true) (ho : o.op = .load ty x)
    (hx : a.eval x = .pointer (some ad)) (ha : ∀ w', (isAgg ty).run P w' = .ok true w') (hsz : (P.info? ty).map (·.size) = some vs.length) (hc : ∀ w', R w w' → ∀ j v, vs[j]? = some v → w'.cell? (ad.add j) = some v)
    (h : LinG P R ops Q rest (a.put o.dst (.agg vs.toArray)) w) : LinG P R ops Q ((i, true) :: rest) a w := by
  refine linG_take hi hw (fun w' hR => ?_) h
  have hl := run_loadR (ha w') hsz (hc w' hR)
  unfold execOp
  simp only [ho, hx, Instr.loadAt, Instr.sureAddr, Sem.run_bind, Sem.run_pure, Result.andThen_ok, hl]
theorem linG_end {a : Act} {w : World} (h : Q .normal a w) : LinG P R ops Q [] a w := h
end
/-- a relation, and a block that stays -/
def RG (R : World → World → Prop) (g : Nat) : World → World → Prop := fun w w' => R w w' ∧ w'.heap[g]? = w.heap[g]?
theorem wayRG {R : World → World → Prop} (h : Way R) (g : Nat) : Way (RG R g) :=
  ⟨fun w => ⟨h.refl w, rfl⟩, fun h1 h2 => ⟨h.trans h1.1 h2.1, h2.2.trans h1.2⟩, fun w => ⟨h.drew w, rfl⟩⟩
theorem RG.row {R : World → World → Prop} {g : Nat} {w w' : World} {c : Array Value} {t : TypeId} (h : RG R g w w') (hr : Row w g c t) : Row w' g c t := h.2.trans hr
theorem row_cells {W : World} {g : Nat} {vs : List Value} {t : TypeId} (h : Row W g vs.toArray t) : ∀ j v, vs[j]? = some v → W.cell? ((⟨g, 0, none⟩ : Addr).add j) = some v := by
  intro j v hv
  rw [ad_none, Nat.zero_add]
  exact h.cell j (by simpa using hv)
end Go.Proofs.Ytmdmhjcdaejlkaa

/- A region that draws its order: as XLinT, and behind an operation that waits for all that came ahead of it the relation begins anew: stores may turn what the region has read. -/
set_option linter.unusedVariables false
set_option linter.unusedSimpArgs false
namespace Go.Proofs.Ytmdmhjcdaejlkaa
open Go.RowKit

/-- does operation s wait for operation c? -/
def depB (ops : Array Oper) (s c : Nat) : Bool := match ops[s]? with
  | some o => o.after.any fun e => Region.binds .any e && e.on == c
  | none => false
/-- pairs (c, s): c is waited for by s, which stands in 'seen' or ahead in the row -/
def chainB (ops : Array Oper) : List Nat → List (Nat × Nat) → Bool
  | _, [] => true
  | seen, (c, s) :: rest => seen.contains s && depB ops s c && chainB ops (c :: seen) rest
def allB (ops : Array Oper) (listed : Array Bool) (j : Nat) (C : List (Nat × Nat)) : Bool :=
  chainB ops [j] C && (List.range ops.size).all fun k => !(listed.getD k false) || C.any fun p => p.1 == k
theorem depB_listed {ops : Array Oper} {listed : Array Bool} {s c j : Nat} (h : Shut ops listed) (hj : j ∈ Region.ready .any ops listed) (hd : depB ops s c = true) (hs : s = j ∨ listed.getD s false = true) : listed.getD c false = true := by
  unfold depB at hd
  cases ho : ops[s]? with
  | none => rw [ho] at hd; cases hd
  | some o =>
    rw [ho] at hd
    simp only [Array.any_eq_true', Bool.and_eq_true, beq_iff_eq] at hd
    obtain ⟨e, he, hb, rfl⟩ := hd
    rcases hs with rfl | hs
    · obtain ⟨_, o', ho', hall⟩ := mem_ready.1 hj
      rw [ho] at ho'
      cases ho'
      exact hall e he hb
    · exact h s o ho hs e he hb
theorem chainB_listed {ops : Array Oper} {listed : Array Bool} {j : Nat} (h : Shut ops listed) (hj : j ∈ Region.ready .any ops listed) : ∀ (C : List (Nat × Nat)) (seen : List Nat), chainB ops seen C = true → (∀ s ∈ seen, s = j ∨ listed.getD s false = true) → ∀ p ∈ C, listed.getD p.1 false = true
  | [], _, _, _, p, hp => by cases hp
  | (c, s) :: rest, seen, hc, hseen, p, hp => by
    simp only [chainB, Bool.and_eq_true, List.contains_iff_mem] at hc
    have hcl := depB_listed h hj hc.1.2 (hseen s hc.1.1)
    rcases List.mem_cons.1 hp with rfl | hp
    · exact hcl
    · refine chainB_listed h hj rest (c :: seen) hc.2 (fun x hx => ?_) p hp
      rcases List.mem_cons.1 hx with rfl | hx
      · exact .inr hcl
      · exact hseen x hx
/-- if j waits for all that is listed beside i, and i is not listed, j cannot come up -/
theorem allB_ready {ops : Array Oper} {listed : Array Bool} {i j : Nat} {C : List (Nat × Nat)} (h : Shut ops listed) (hj : j ∈ Region.ready .any ops listed) (hi : i ∈ Region.ready .any ops listed) (hl : allB ops (listed.setIfInBounds i true) j C = true) : False := by
  obtain ⟨h0, o, ho, _⟩ := mem_ready.1 hi
  have hlt : i < ops.size := (Array.getElem?_eq_some_iff.1 ho).1
  simp only [allB, Bool.and_eq_true] at hl
  have h1 := List.all_eq_true.1 hl.2 i (List.mem_range.2 hlt)
  have hin : i < listed.size := by
    rcases Nat.lt_or_ge i listed.size with h' | h'
    · exact h'
    · simp [Array.getElem?_eq_none h'] at h0
  have h2 : (listed.setIfInBounds i true).getD i false = true := by simp [hin]
  rw [h2] at h1
  simp only [Bool.not_true, Bool.false_or, List.any_eq_true, beq_iff_eq] at h1
  obtain ⟨p, hp, rfl⟩ := h1
  have h3 := chainB_listed h hj C [j] hl.1 (fun s hs => .inl (by simpa using hs)) p hp
  simp [hin] at h0 h3
  rw [h0] at h3
  cases h3

/-- a tree of orders: a reader ahead; the one that may come up; the one that waits for all ahead; one of two -/
inductive OH where
  | nil
  | take (i : Nat) (t : OH)
  | one (i : Nat) (t : OH)
  | res (i : Nat) (C : List (Nat × Nat)) (t : OH)
  | two (i : Nat) (t : OH) (j : Nat) (s : OH)
def okOH (ops : Array Oper) : OH → Nat → Array Bool → Bool
  | .nil, 0, listed => (Region.ready .any ops listed).isEmpty
  | .take i t, n + 1, listed => (Region.ready .any ops listed).contains i && Region.free .any ops listed i && okOH ops t n (listed.setIfInBounds i true)
  | .one i t, n + 1, listed => Region.ready .any ops listed == [i] && okOH ops t n (listed.setIfInBounds i true)
  | .res i C t, n + 1, listed => Region.ready .any ops listed == [i] && allB ops listed i C && okOH ops t n (listed.setIfInBounds i true)
  | .two i t j s, n + 1, listed => Region.ready .any ops listed == [i, j] && okOH ops t n (listed.setIfInBounds i true) && okOH ops s n (listed.setIfInBounds j true)
  | _, _, _ => false
section
variable {P : Program} {ops : Array Oper} {Q : Exit → Act → World → Prop} {S : World → Prop}
/-- in whatever order: S holds behind each operation but one that waits for all ahead of it -/
def anyH (P : Program) (ops : Array Oper) (Q : Exit → Act → World → Prop) (S : World → Prop) : Nat → Array Bool → Act → World → Prop
  | 0, listed, a, w => Region.ready .any ops listed = [] ∧ Q .normal a w
  | fuel + 1, listed, a, w => (Region.ready .any ops listed = [] → Q .normal a w) ∧
    ∀ i ∈ Region.ready .any ops listed, wpOp P ops Q i (fun a' w' => (S w' ∧ anyH P ops Q S fuel (listed.setIfInBounds i true) a' w') ∨ ((∃ C, allB ops listed i C = true) ∧ wpAny P .any ops Q fuel (listed.setIfInBounds i true) a' w')) a w
theorem any_of_anyH : ∀ (fuel : Nat) (listed : Array Bool) (a : Act) (w : World), anyH P ops Q S fuel listed a w → wpAny P .any ops Q fuel listed a w
  | 0, _, _, _, h => h
  | fuel + 1, _, _, _, h => ⟨h.1, fun i hi => wpOp_mono (fun a' w' h' => h'.elim (fun h' => any_of_anyH fuel _ a' w' h'.2) (fun h' => h'.2)) (h.2 i hi)⟩
theorem anyH_weaken {S S' : World → Prop} (hSS : ∀ w, S' w → S w) : ∀ (fuel : Nat) (listed : Array Bool) (a : Act) (w : World), anyH P ops Q S' fuel listed a w → anyH P ops Q S fuel listed a w
  | 0, _, _, _, h => h
  | fuel + 1, _, _, _, h => ⟨h.1, fun i hi => wpOp_mono (fun a' w' h' => h'.imp (fun h' => ⟨hSS _ h'.1, anyH_weaken hSS fuel _ a' w' h'.2⟩) id) (h.2 i hi)⟩
theorem anyH_take {i : Nat} {o : Oper} {v : Value} (hi : ops[i]? = some o) (hs : Region.noSelect ops = true) (hQ : ∀ c a w, Q (.panic c) (a.put o.dst v) w → Q (.panic c) a w) :
    ∀ (fuel : Nat) (listed : Array Bool) (a : Act) (w : World), Shut ops listed → Region.free .any ops listed i = true → i ∈ Region.ready .any ops listed → YieldsIf P ops S o v a → S w →
      anyH P ops Q S fuel (listed.setIfInBounds i true) (a.put o.dst v) w → anyH P ops Q S (fuel + 1) listed a w := by
  intro fuel
  induction fuel with
  | zero =>
    intro listed a w _ _ hr hy hS H
    refine ⟨fun h => (by rw [h] at hr; cases hr), fun j hj => ?_⟩
    rcases Nat.decEq j i with hji | hji
    · exact absurd (ready_mono hj hji) (by rw [H.1]; simp)
    · subst hji
      exact hy.wpOp hi hS (.inl ⟨hS, H⟩)
  | succ fuel ih =>
    intro listed a w hsh hf hr hy hS H
    refine ⟨fun h => (by rw [h] at hr; cases hr), fun j hj => ?_⟩
    rcases Nat.decEq j i with hji | hji
    · obtain ⟨hjun, oj, hoj, hall⟩ := mem_ready.1 hj
      have hno : ∀ e ∈ oj.after, Region.binds .any e = true → e.on ≠ i := by
        intro e he hb heq
        have q1 := hall e he hb
        have q0 := (mem_ready.1 hr).1
        rw [heq] at q1
        rcases Nat.lt_or_ge i listed.size with h' | h'
        · simp [h'] at q0 q1; rw [q0] at q1; cases q1
        · simp [Array.getElem?_eq_none h'] at q1
      have hap := Region.free_spec hi hf j oj hoj hji hjun hno
      have hsel := Region.noSelect_spec hs
      have hstep := wpOp_putIf hoj hap (fun cs b => hsel i o cs b hi) (fun cs b => hsel j oj cs b hoj) hQ hy (H.2 j (ready_mono hj hji))
      have hf2 : Region.free .any ops (listed.setIfInBounds j true) i = true := by
        unfold Region.free at hf ⊢
        rw [hi] at hf ⊢
        simp only [List.all_eq_true, List.mem_range, Bool.or_eq_true] at hf ⊢
        intro k hk
        rcases hf k hk with (q | q) | q
        · exact .inl (.inl q)
        · by_cases hkj : j = k
          · subst hkj
            rw [hjun] at q
            cases q
          · exact .inl (.inr (by rw [getD_set_ne true hkj]; exact q))
        · exact .inr q
      refine wpOp_mono (fun a' w' h3 => ?_) hstep
      rcases h3.2 with ⟨hSj, h4⟩ | ⟨⟨C, hC⟩, _⟩
      · refine .inl ⟨hSj, ih _ a' w' (hsh.ready hj) hf2 (ready_mono hr (Ne.symm hji)) h3.1 hSj ?_⟩
        rw [Array.setIfInBounds_comm _ _ hji]
        exact h4
      · exact (allB_ready hsh hj hr hC).elim
    · subst hji
      exact hy.wpOp hi hS (.inl ⟨hS, H⟩)
end
section
variable (P : Program) (R : World → World → Prop) (ops : Array Oper) (Q : Exit → Act → World → Prop)
def LinH : OH → Act → World → Prop
  | .nil, a, w => Q .normal a w
  | .take i t, a, w => ∃ o v, ops[i]? = some o ∧ YieldsIf P ops (fun w' => R w w') o v a ∧ LinH t (a.put o.dst v) w
  | .one i t, a, w => wpOp P ops Q i (fun a' w' => R w w' ∧ LinH t a' w') a w
  | .res i _ t, a, w => wpOp P ops Q i (fun a' w' => LinH t a' w') a w
  | .two i t j s, a, w => wpOp P ops Q i (fun a' w' => R w w' ∧ LinH t a' w') a w ∧ wpOp P ops Q j (fun a' w' => R w w' ∧ LinH s a' w') a w
end
section
variable {P : Program} {R : World → World → Prop} {ops : Array Oper} {Q : Exit → Act → World → Prop}
theorem anyH_of_lin (HR : Way R) (hs : Region.noSelect ops = true) (hQ : ∀ c a d v w, Q (.panic c) (Act.put a (some d) v) w → Q (.panic c) a w) :
    ∀ (σ : OH) (n : Nat) (listed : Array Bool) (a : Act) (w : World), Shut ops listed → okOH ops σ n listed = true → LinH P R ops Q σ a w → anyH P ops Q (fun w' => R w w') n listed a w
  | .nil, 0, listed, a, w, _, ho, h => ⟨by simpa [okOH] using ho, h⟩
  | .take i t, n + 1, listed, a, w, hsh, ho, h => by
    simp only [okOH, Bool.and_eq_true] at ho
    obtain ⟨o, v, hi, hy, hr⟩ := h
    have hrd : i ∈ Region.ready .any ops listed := by simpa using ho.1.1
    refine anyH_take hi hs (fun c a w => ?_) _ _ _ _ hsh ho.1.2 hrd hy (HR.refl _) (anyH_of_lin HR hs hQ t n _ _ _ (hsh.ready hrd) ho.2 hr)
    cases o.dst with
    | none => exact fun h => h
    | some d => exact hQ c a d v w
  | .one i t, n + 1, listed, a, w, hsh, ho, h => by
    simp only [okOH, Bool.and_eq_true, beq_iff_eq] at ho
    refine ⟨fun h0 => (by rw [ho.1] at h0; cases h0), fun j hj => ?_⟩
    have hj' := hj
    rw [ho.1] at hj
    simp only [List.mem_singleton] at hj
    subst hj
    refine wpOp_mono (fun a' w' h' => .inl ⟨h'.1, ?_⟩) h
    exact anyH_weaken (fun W hW => HR.trans h'.1 hW) _ _ _ _ (anyH_of_lin HR hs hQ t n _ _ _ (hsh.ready hj') ho.2 h'.2)
  | .res i C t, n + 1, listed, a, w, hsh, ho, h => by
    simp only [okOH, Bool.and_eq_true, beq_iff_eq] at ho
    refine ⟨fun h0 => (by rw [ho.1.1] at h0; cases h0), fun j hj => ?_⟩
    have hj' := hj
    rw [ho.1.1] at hj
    simp only [List.mem_singleton] at hj
    subst hj
    refine wpOp_mono (fun a' w' h' => .inr ⟨⟨C, ho.1.2⟩, ?_⟩) h
    exact any_of_anyH _ _ _ _ (anyH_of_lin HR hs hQ t n _ _ _ (hsh.ready hj') ho.2 h')
  | .two i t j s, n + 1, listed, a, w, hsh, ho, h => by
    simp only [okOH, Bool.and_eq_true, beq_iff_eq] at ho
    refine ⟨fun h0 => (by rw [ho.1.1] at h0; cases h0), fun k hk => ?_⟩
    have hk' := hk
    rw [ho.1.1] at hk
    simp only [List.mem_cons, List.not_mem_nil, or_false] at hk
    rcases hk with rfl | rfl
    · refine wpOp_mono (fun a' w' h' => .inl ⟨h'.1, ?_⟩) h.1
      exact anyH_weaken (fun W hW => HR.trans h'.1 hW) _ _ _ _ (anyH_of_lin HR hs hQ t n _ _ _ (hsh.ready hk') ho.1.2 h'.2)
    · refine wpOp_mono (fun a' w' h' => .inl ⟨h'.1, ?_⟩) h.2
      exact anyH_weaken (fun W hW => HR.trans h'.1 hW) _ _ _ _ (anyH_of_lin HR hs hQ s n _ _ _ (hsh.ready hk') ho.2 h'.2)
  | .nil, _ + 1, _, _, _, _, ho, _ => by simp [okOH] at ho
  | .take _ _, 0, _, _, _, _, ho, _ => by simp [okOH] at ho
  | .one _ _, 0, _, _, _, _, ho, _ => by simp [okOH] at ho
  | .res _ _ _, 0, _, _, _, _, ho, _ => by simp [okOH] at ho
  | .two _ _ _ _, 0, _, _, _, _, ho, _ => by simp [okOH] at ho
theorem wp_region_linH (R : World → World → Prop) (HR : Way R) (σ : OH) {id : Nat} {a : Act} {w : World} (hm : P.follows .mixedOrders = true) (hs : Region.noSelect ops = true)
    (hok : okOH ops σ ops.size (Array.replicate ops.size false) = true) (hQ : ∀ c a d v w, Q (.panic c) (Act.put a (some d) v) w → Q (.panic c) a w)
    (h : LinH P R ops Q σ a w.drew) : (Code.region id ops true).wp P Q a w :=
  wp_region_any hm (any_of_anyH _ _ _ _ (anyH_of_lin HR hs hQ σ _ _ _ _ (shut_none ops ops.size) hok h))
theorem linH_take {i : Nat} {t : OH} {a : Act} {w : World} {o : Oper} {v : Value} (hi : ops[i]? = some o) (hw : Region.wanted o (yielded ops a.tmps) = true)
    (hy : ∀ w', R w w' → (execOp a.eval o).run P w' = .ok (.value v) w') (h : LinH P R ops Q t (a.put o.dst v) w) : LinH P R ops Q (.take i t) a w :=
  ⟨o, v, hi, .inl ⟨hw, hy⟩, h⟩
theorem linH_skip {i : Nat} {t : OH} {a : Act} {w : World} {o : Oper} (hi : ops[i]? = some o) (hw : Region.wanted o (yielded ops a.tmps) = false)
    (h : LinH P R ops Q t (a.put o.dst undef) w) : LinH P R ops Q (.take i t) a w :=
  ⟨o, undef, hi, .inr ⟨hw, rfl⟩, h⟩
theorem opH {i : Nat} {t : OH} {a : Act} {w : World} {o : Oper} (hi : ops[i]? = some o) (hw : Region.wanted o (yielded ops a.tmps) = true)
    (h : ∀ K : Act → World → Prop, (∀ a' w', R w w' → LinH P R ops Q t a' w' → K a' w') → o.wp P a w K Q) : wpOp P ops Q i (fun a' w' => R w w' ∧ LinH P R ops Q t a' w') a w := by
  unfold wpOp
  simp only [hi, hw, if_true]
  exact .inl (h _ fun a' w' h1 h2 => ⟨h1, h2⟩)
theorem passH (HR : Way R) {i : Nat} {t : OH} {a : Act} {w : World} {o : Oper} (hi : ops[i]? = some o) (hw : Region.wanted o (yielded ops a.tmps) = false)
    (h : LinH P R ops Q t (a.put o.dst undef) w) : wpOp P ops Q i (fun a' w' => R w w' ∧ LinH P R ops Q t a' w') a w := by
  unfold wpOp
  simp only [hi, hw, Bool.false_eq_true, if_false]
  exact ⟨HR.refl _, h⟩
theorem linH_op {i : Nat} {t : OH} {a : Act} {w : World} {o : Oper} (hi : ops[i]? = some o) (hw : Region.wanted o (yielded ops a.tmps) = true)
    (h : ∀ K : Act → World → Prop, (∀ a' w', R w w' → LinH P R ops Q t a' w' → K a' w') → o.wp P a w K Q) : LinH P R ops Q (.one i t) a w := opH hi hw h
theorem linH_pass (HR : Way R) {i : Nat} {t : OH} {a : Act} {w : World} {o : Oper} (hi : ops[i]? = some o) (hw : Region.wanted o (yielded ops a.tmps) = false)
    (h : LinH P R ops Q t (a.put o.dst undef) w) : LinH P R ops Q (.one i t) a w := passH HR hi hw h
theorem linH_res {i : Nat} {C : List (Nat × Nat)} {t : OH} {a : Act} {w : World} {o : Oper} (hi : ops[i]? = some o) (hw : Region.wanted o (yielded ops a.tmps) = true)
    (h : ∀ K : Act → World → Prop, (∀ a' w', True → LinH P R ops Q t a' w' → K a' w') → o.wp P a w K Q) : LinH P R ops Q (.res i C t) a w := by
  show wpOp P ops Q i _ a w
  unfold wpOp
  simp only [hi, hw, if_true]
  exact .inl (h _ fun a' w' _ h2 => h2)
theorem linH_resPass {i : Nat} {C : List (Nat × Nat)} {t : OH} {a : Act} {w : World} {o : Oper} (hi : ops[i]? = some o) (hw : Region.wanted o (yielded ops a.tmps) = false)
    (h : LinH P R ops Q t (a.put o.dst undef) w) : LinH P R ops Q (.res i C t) a w := by
  show wpOp P ops Q i _ a w
  unfold wpOp
  simp only [hi, hw, Bool.false_eq_true, if_false]
  exact h
theorem linH_two {i j : Nat} {t s : OH} {a : Act} {w : World} (h : wpOp P ops Q i (fun a' w' => R w w' ∧ LinH P R ops Q t a' w') a w) (h' : wpOp P ops Q j (fun a' w' => R w w' ∧ LinH P R ops Q s a' w') a w) :
    LinH P R ops Q (.two i t j s) a w := ⟨h, h'⟩
theorem linH_end {a : Act} {w : World} (h : Q .normal a w) : LinH P R ops Q .nil a w := h
/-- a whole struct loaded, its cells known in whatever world lies beyond -/
theorem linH_load {i : Nat} {t : OH} {a : Act} {w : World} {o : Oper} {ty : TypeId} {x : Operand} {ad : Addr} (vs : List Value) (hi : ops[i]? = some o) (hw : Region.wanted o (yielded ops a.tmps) = true) (ho : o.op = .load ty x)
    (hx : a.eval x = .pointer (some ad)) (ha : ∀ w', (isAgg ty).run P w' = .ok true w') (hsz : (P.info? ty).map (·.size) = some vs.length) (hc : ∀ w', R w w' → ∀ j v, vs[j]? = some v → w'.cell? (ad.add j) = some v)
    (h : LinH P R ops Q t (a.put o.dst (.agg vs.toArray)) w) : LinH P R ops Q (.take i t) a w := by
  refine linH_take hi hw (fun w' hR => ?_) h
  have hl := run_loadR (ha w') hsz (hc w' hR)
  unfold execOp
  simp only [ho, hx, Instr.loadAt, Instr.sureAddr, Sem.run_bind, Sem.run_pure, Result.andThen_ok, hl]
end
end Go.Proofs.Ytmdmhjcdaejlkaa

/- A region that draws its order: as XLinH, finer: each reader of memory that was taken ahead asks for its relation only until an operation comes that waits for it. -/
set_option linter.unusedVariables false
set_option linter.unusedSimpArgs false
namespace Go.Proofs.Ytmdmhjcdaejlkaa
open Go.RowKit

/-- a tree of orders: taken ahead in any world, in those of the wider or of the narrower relation; the one that may come up (C: what it waits for; h, c: who of those taken ahead by the narrower, the wider relation it does not wait for); one of two -/
inductive ON where
  | nil
  | free (i : Nat) (t : ON)
  | cold (i : Nat) (t : ON)
  | hot (i : Nat) (t : ON)
  | op (i : Nat) (C : List (Nat × Nat)) (h c : List Nat) (t : ON)
  | two (i : Nat) (C : List (Nat × Nat)) (h c : List Nat) (t : ON) (j : Nat) (C' : List (Nat × Nat)) (h' c' : List Nat) (s : ON)
def leftB (C : List (Nat × Nat)) (h h' : List Nat) : Bool := h.all fun k => h'.contains k || C.any fun p => p.1 == k
def okON (ops : Array Oper) : ON → List Nat → List Nat → Nat → Array Bool → Bool
  | .nil, _, _, 0, listed => (Region.ready .any ops listed).isEmpty
  | .free i t, h, c, n + 1, listed => (Region.ready .any ops listed).contains i && Region.free .any ops listed i && okON ops t h c n (listed.setIfInBounds i true)
  | .cold i t, h, c, n + 1, listed => (Region.ready .any ops listed).contains i && Region.free .any ops listed i && okON ops t h (i :: c) n (listed.setIfInBounds i true)
  | .hot i t, h, c, n + 1, listed => (Region.ready .any ops listed).contains i && Region.free .any ops listed i && okON ops t (i :: h) c n (listed.setIfInBounds i true)
  | .op i C h' c' t, h, c, n + 1, listed => Region.ready .any ops listed == [i] && chainB ops [i] C && leftB C h h' && leftB C c c' && okON ops t h' c' n (listed.setIfInBounds i true)
  | .two i C h' c' t j C2 h2 c2 s, h, c, n + 1, listed => Region.ready .any ops listed == [i, j] && chainB ops [i] C && leftB C h h' && leftB C c c' && okON ops t h' c' n (listed.setIfInBounds i true)
      && chainB ops [j] C2 && leftB C2 h h2 && leftB C2 c c2 && okON ops s h2 c2 n (listed.setIfInBounds j true)
  | _, _, _, _, _ => false
/-- j comes up behind i alone -/
def Waited (ops : Array Oper) (j i : Nat) : Prop := ∀ listed, Shut ops listed → j ∈ Region.ready .any ops listed → listed.getD i false = true
theorem waited_of {ops : Array Oper} {j k : Nat} {C : List (Nat × Nat)} (hc : chainB ops [j] C = true) (hk : (C.any fun p => p.1 == k) = true) : Waited ops j k := by
  intro listed hsh hj
  simp only [List.any_eq_true, beq_iff_eq] at hk
  obtain ⟨p, hp, rfl⟩ := hk
  exact chainB_listed hsh hj C [j] hc (fun s hs => .inl (by simpa using hs)) p hp
abbrev Pend := List (Nat × (World → Prop))
section
variable {P : Program} {ops : Array Oper} {Q : Exit → Act → World → Prop}
/-- in whatever order: each condition of L holds until an operation comes that waits for its reader -/
def anyN (P : Program) (ops : Array Oper) (Q : Exit → Act → World → Prop) : Pend → Nat → Array Bool → Act → World → Prop
  | _, 0, listed, a, w => Region.ready .any ops listed = [] ∧ Q .normal a w
  | L, fuel + 1, listed, a, w => (Region.ready .any ops listed = [] → Q .normal a w) ∧
    ∀ j ∈ Region.ready .any ops listed, ∃ L' : Pend, (∀ p ∈ L, p ∈ L' ∨ Waited ops j p.1) ∧ wpOp P ops Q j (fun a' w' => (∀ p ∈ L', p.2 w') ∧ anyN P ops Q L' fuel (listed.setIfInBounds j true) a' w') a w
theorem any_of_anyN : ∀ (fuel : Nat) (L : Pend) (listed : Array Bool) (a : Act) (w : World), anyN P ops Q L fuel listed a w → wpAny P .any ops Q fuel listed a w
  | 0, _, _, _, _, h => h
  | fuel + 1, _, _, _, _, h => ⟨h.1, fun j hj => by
      obtain ⟨L', _, h2⟩ := h.2 j hj
      exact wpOp_mono (fun a' w' h' => any_of_anyN fuel L' _ a' w' h'.2) h2⟩
theorem anyN_weaken : ∀ (fuel : Nat) (L L2 : Pend) (listed : Array Bool) (a : Act) (w : World), (∀ p ∈ L, (∀ w, p.2 w) ∨ ∃ q ∈ L2, q.1 = p.1 ∧ ∀ w, q.2 w → p.2 w) → anyN P ops Q L2 fuel listed a w → anyN P ops Q L fuel listed a w
  | 0, _, _, _, _, _, _, h => h
  | fuel + 1, L, L2, listed, a, w, hL, h => ⟨h.1, fun j hj => by
      obtain ⟨L2', h1, h2⟩ := h.2 j hj
      classical
      refine ⟨L.filter (fun p => decide (¬ Waited ops j p.1)), fun p hp => ?_, ?_⟩
      · by_cases hw : Waited ops j p.1
        · exact .inr hw
        · exact .inl (List.mem_filter.2 ⟨hp, by simpa using hw⟩)
      · have key : ∀ p ∈ L.filter (fun p => decide (¬ Waited ops j p.1)), (∀ w, p.2 w) ∨ ∃ q ∈ L2', q.1 = p.1 ∧ ∀ w, q.2 w → p.2 w := by
          intro p hp
          obtain ⟨hp, hnw⟩ := List.mem_filter.1 hp
          have hnw : ¬ Waited ops j p.1 := by simpa using hnw
          rcases hL p hp with h | ⟨q, hq, e, hi⟩
          · exact .inl h
          · rcases h1 q hq with h | h
            · exact .inr ⟨q, h, e, hi⟩
            · exact absurd (e ▸ h) hnw
        refine wpOp_mono (fun a' w' h' => ⟨fun p hp => ?_, anyN_weaken fuel _ L2' _ a' w' key h'.2⟩) h2
        rcases key p hp with h | ⟨q, hq, _, hi⟩
        · exact h w'
        · exact hi _ (h'.1 q hq)⟩
theorem anyN_take {i : Nat} {o : Oper} {v : Value} {S : World → Prop} (hi : ops[i]? = some o) (hs : Region.noSelect ops = true) (hQ : ∀ c a w, Q (.panic c) (a.put o.dst v) w → Q (.panic c) a w) :
    ∀ (fuel : Nat) (L : Pend) (listed : Array Bool) (a : Act) (w : World), Shut ops listed → Region.free .any ops listed i = true → i ∈ Region.ready .any ops listed → YieldsIf P ops S o v a → S w → (∀ p ∈ L, p.2 w) →
      anyN P ops Q ((i, S) :: L) fuel (listed.setIfInBounds i true) (a.put o.dst v) w → anyN P ops Q L (fuel + 1) listed a w := by
  intro fuel
  induction fuel with
  | zero =>
    intro L listed a w _ _ hr hy hS hL H
    refine ⟨fun h => (by rw [h] at hr; cases hr), fun j hj => ?_⟩
    rcases Nat.decEq j i with hji | hji
    · exact absurd (ready_mono hj hji) (by rw [H.1]; simp)
    · subst hji
      exact ⟨L, fun p hp => .inl hp, hy.wpOp hi hS ⟨hL, H⟩⟩
  | succ fuel ih =>
    intro L listed a w hsh hf hr hy hS hL H
    refine ⟨fun h => (by rw [h] at hr; cases hr), fun j hj => ?_⟩
    rcases Nat.decEq j i with hji | hji
    · obtain ⟨hjun, oj, hoj, hall⟩ := mem_ready.1 hj
      have hno : ∀ e ∈ oj.after, Region.binds .any e = true → e.on ≠ i := by
        intro e he hb heq
        have q1 := hall e he hb
        have q0 := (mem_ready.1 hr).1
        rw [heq] at q1
        rcases Nat.lt_or_ge i listed.size with h' | h'
        · simp [h'] at q0 q1; rw [q0] at q1; cases q1
        · simp [Array.getElem?_eq_none h'] at q1
      have hap := Region.free_spec hi hf j oj hoj hji hjun hno
      have hsel := Region.noSelect_spec hs
      obtain ⟨L', hL', H2⟩ := H.2 j (ready_mono hj hji)
      have hstep := wpOp_putIf hoj hap (fun cs b => hsel i o cs b hi) (fun cs b => hsel j oj cs b hoj) hQ hy H2
      have hf2 : Region.free .any ops (listed.setIfInBounds j true) i = true := by
        unfold Region.free at hf ⊢
        rw [hi] at hf ⊢
        simp only [List.all_eq_true, List.mem_range, Bool.or_eq_true] at hf ⊢
        intro k hk
        rcases hf k hk with (q | q) | q
        · exact .inl (.inl q)
        · by_cases hkj : j = k
          · subst hkj
            rw [hjun] at q
            cases q
          · exact .inl (.inr (by rw [getD_set_ne true hkj]; exact q))
        · exact .inr q
      have hiL : (i, S) ∈ L' := by
        rcases hL' (i, S) List.mem_cons_self with h | h
        · exact h
        · have := h listed hsh hj
          have q0 := (mem_ready.1 hr).1
          rcases Nat.lt_or_ge i listed.size with h' | h'
          · simp [h'] at q0 this; rw [q0] at this; cases this
          · simp [Array.getElem?_eq_none h'] at this
      refine ⟨L', fun p hp => hL' p (List.mem_cons_of_mem _ hp), wpOp_mono (fun a' w' h3 => ?_) hstep⟩
      refine ⟨h3.2.1, ih L' _ a' w' (hsh.ready hj) hf2 (ready_mono hr (Ne.symm hji)) h3.1 (h3.2.1 _ hiL) h3.2.1 ?_⟩
      rw [Array.setIfInBounds_comm _ _ hji]
      refine anyN_weaken _ _ L' _ _ _ (fun p hp => .inr ?_) h3.2.2
      rcases List.mem_cons.1 hp with rfl | hp
      · exact ⟨_, hiL, rfl, fun _ h => h⟩
      · exact ⟨p, hp, rfl, fun _ h => h⟩
    · subst hji
      exact ⟨L, fun p hp => .inl hp, hy.wpOp hi hS ⟨hL, anyN_weaken _ _ _ _ _ _ (fun p hp => .inr ⟨p, List.mem_cons_of_mem _ hp, rfl, fun _ h => h⟩) H⟩⟩
end
/-- what is to be shown behind an operation -/
def need (R0 R1 : World → World → Prop) : List Nat → List Nat → World → World → Prop
  | _ :: _, _ => R1
  | [], _ :: _ => R0
  | [], [] => fun _ _ => True
section
variable (P : Program) (R0 R1 : World → World → Prop) (ops : Array Oper) (Q : Exit → Act → World → Prop)
def LinN : ON → Act → World → Prop
  | .nil, a, w => Q .normal a w
  | .free i t, a, w => ∃ o v, ops[i]? = some o ∧ YieldsIf P ops (fun _ => True) o v a ∧ LinN t (a.put o.dst v) w
  | .cold i t, a, w => ∃ o v, ops[i]? = some o ∧ YieldsIf P ops (fun w' => R0 w w') o v a ∧ LinN t (a.put o.dst v) w
  | .hot i t, a, w => ∃ o v, ops[i]? = some o ∧ YieldsIf P ops (fun w' => R1 w w') o v a ∧ LinN t (a.put o.dst v) w
  | .op i _ h c t, a, w => wpOp P ops Q i (fun a' w' => need R0 R1 h c w w' ∧ LinN t a' w') a w
  | .two i _ h c t j _ h' c' s, a, w => wpOp P ops Q i (fun a' w' => need R0 R1 h c w w' ∧ LinN t a' w') a w ∧ wpOp P ops Q j (fun a' w' => need R0 R1 h' c' w w' ∧ LinN s a' w') a w
end
section
variable {P : Program} {R0 R1 : World → World → Prop} {ops : Array Oper} {Q : Exit → Act → World → Prop}
def pend (R0 R1 : World → World → Prop) (h c : List Nat) (w : World) : Pend := (h.map fun i => (i, fun w' => R1 w w')) ++ (c.map fun i => (i, fun w' => R0 w w'))
theorem mem_pend {h c : List Nat} {w : World} {p : Nat × (World → Prop)} (hp : p ∈ pend R0 R1 h c w) : (p.1 ∈ h ∧ p.2 = fun w' => R1 w w') ∨ (p.1 ∈ c ∧ p.2 = fun w' => R0 w w') := by
  rcases List.mem_append.1 hp with h | h
  · obtain ⟨i, hi, rfl⟩ := List.mem_map.1 h; exact .inl ⟨hi, rfl⟩
  · obtain ⟨i, hi, rfl⟩ := List.mem_map.1 h; exact .inr ⟨hi, rfl⟩
theorem pend_hot {h c : List Nat} {w : World} {i : Nat} (hi : i ∈ h) : (i, fun w' => R1 w w') ∈ pend R0 R1 h c w := List.mem_append_left _ (List.mem_map.2 ⟨i, hi, rfl⟩)
theorem pend_cold {h c : List Nat} {w : World} {i : Nat} (hi : i ∈ c) : (i, fun w' => R0 w w') ∈ pend R0 R1 h c w := List.mem_append_right _ (List.mem_map.2 ⟨i, hi, rfl⟩)
theorem pend_at (H0 : Way R0) (H1 : Way R1) (h c : List Nat) (w : World) : ∀ p ∈ pend R0 R1 h c w, p.2 w := by
  intro p hp
  rcases mem_pend hp with ⟨_, e⟩ | ⟨_, e⟩
  · rw [e]; exact H1.refl w
  · rw [e]; exact H0.refl w
theorem pend_step (H0 : Way R0) (H1 : Way R1) (hR : ∀ w w', R1 w w' → R0 w w') {h c : List Nat} {w w' : World} (hn : need R0 R1 h c w w') :
    (∀ p ∈ pend R0 R1 h c w, p.2 w') ∧ (∀ p ∈ pend R0 R1 h c w, (∀ w, p.2 w) ∨ ∃ q ∈ pend R0 R1 h c w', q.1 = p.1 ∧ ∀ w, q.2 w → p.2 w) := by
  have hh : ∀ i ∈ h, R1 w w' := by
    intro i hi
    cases h with
    | nil => cases hi
    | cons x h => exact hn
  have hc : ∀ i ∈ c, R0 w w' := by
    intro i hi
    cases h with
    | cons x h => exact hR _ _ hn
    | nil => cases c with
      | nil => cases hi
      | cons x c => exact hn
  constructor
  · intro p hp
    rcases mem_pend hp with ⟨m, e⟩ | ⟨m, e⟩
    · rw [e]; exact hh _ m
    · rw [e]; exact hc _ m
  · intro p hp
    rcases mem_pend hp with ⟨m, e⟩ | ⟨m, e⟩
    · exact .inr ⟨_, pend_hot m, rfl, fun v hv => by rw [e]; exact H1.trans (hh _ m) hv⟩
    · exact .inr ⟨_, pend_cold m, rfl, fun v hv => by rw [e]; exact H0.trans (hc _ m) hv⟩
theorem pend_left {j : Nat} {C : List (Nat × Nat)} {h c h' c' : List Nat} {w : World} (hC : chainB ops [j] C = true) (h1 : leftB C h h' = true) (h2 : leftB C c c' = true) :
    ∀ p ∈ pend R0 R1 h c w, p ∈ pend R0 R1 h' c' w ∨ Waited ops j p.1 := by
  intro p hp
  rcases mem_pend hp with ⟨m, e⟩ | ⟨m, e⟩
  · have := List.all_eq_true.1 h1 _ m
    simp only [Bool.or_eq_true, List.contains_iff_mem] at this
    rcases this with h | h
    · exact .inl (by rw [show p = (p.1, fun w' => R1 w w') from Prod.ext rfl e]; exact pend_hot h)
    · exact .inr (waited_of hC h)
  · have := List.all_eq_true.1 h2 _ m
    simp only [Bool.or_eq_true, List.contains_iff_mem] at this
    rcases this with h | h
    · exact .inl (by rw [show p = (p.1, fun w' => R0 w w') from Prod.ext rfl e]; exact pend_cold h)
    · exact .inr (waited_of hC h)
theorem anyN_of_lin (H0 : Way R0) (H1 : Way R1) (hR : ∀ w w', R1 w w' → R0 w w') (hs : Region.noSelect ops = true) (hQ : ∀ c a d v w, Q (.panic c) (Act.put a (some d) v) w → Q (.panic c) a w) :
    ∀ (σ : ON) (h c : List Nat) (n : Nat) (listed : Array Bool) (a : Act) (w : World), Shut ops listed → okON ops σ h c n listed = true → LinN P R0 R1 ops Q σ a w → anyN P ops Q (pend R0 R1 h c w) n listed a w
  | .nil, h, c, 0, listed, a, w, _, ho, H => ⟨by simpa [okON] using ho, H⟩
  | .free i t, h, c, n + 1, listed, a, w, hsh, ho, H => by
    simp only [okON, Bool.and_eq_true] at ho
    obtain ⟨o, v, hi, hy, hr⟩ := H
    have hrd : i ∈ Region.ready .any ops listed := by simpa using ho.1.1
    have hq : ∀ cc a w, Q (.panic cc) (Act.put a o.dst v) w → Q (.panic cc) a w := fun cc a w => by
      cases o.dst with
      | none => exact fun h => h
      | some d => exact hQ cc a d v w
    refine anyN_take (S := fun _ => True) hi hs hq _ _ _ _ _ hsh ho.1.2 hrd hy trivial (pend_at H0 H1 h c w) ?_
    refine anyN_weaken _ _ (pend R0 R1 h c w) _ _ _ (fun p hp => ?_) (anyN_of_lin H0 H1 hR hs hQ t h c n _ _ _ (hsh.ready hrd) ho.2 hr)
    rcases List.mem_cons.1 hp with rfl | hp
    · exact .inl fun _ => trivial
    · exact .inr ⟨p, hp, rfl, fun _ h => h⟩
  | .cold i t, h, c, n + 1, listed, a, w, hsh, ho, H => by
    simp only [okON, Bool.and_eq_true] at ho
    obtain ⟨o, v, hi, hy, hr⟩ := H
    have hrd : i ∈ Region.ready .any ops listed := by simpa using ho.1.1
    have hq : ∀ cc a w, Q (.panic cc) (Act.put a o.dst v) w → Q (.panic cc) a w := fun cc a w => by
      cases o.dst with
      | none => exact fun h => h
      | some d => exact hQ cc a d v w
    refine anyN_take (S := fun w' => R0 w w') hi hs hq _ _ _ _ _ hsh ho.1.2 hrd hy (H0.refl w) (pend_at H0 H1 h c w) ?_
    refine anyN_weaken _ _ (pend R0 R1 h (i :: c) w) _ _ _ (fun p hp => .inr ?_) (anyN_of_lin H0 H1 hR hs hQ t h (i :: c) n _ _ _ (hsh.ready hrd) ho.2 hr)
    rcases List.mem_cons.1 hp with rfl | hp
    · exact ⟨_, pend_cold List.mem_cons_self, rfl, fun _ h => h⟩
    · rcases mem_pend hp with ⟨m, e⟩ | ⟨m, e⟩
      · exact ⟨_, pend_hot m, rfl, fun _ h => by rw [e]; exact h⟩
      · exact ⟨_, pend_cold (List.mem_cons_of_mem _ m), rfl, fun _ h => by rw [e]; exact h⟩
  | .hot i t, h, c, n + 1, listed, a, w, hsh, ho, H => by
    simp only [okON, Bool.and_eq_true] at ho
    obtain ⟨o, v, hi, hy, hr⟩ := H
    have hrd : i ∈ Region.ready .any ops listed := by simpa using ho.1.1
    have hq : ∀ cc a w, Q (.panic cc) (Act.put a o.dst v) w → Q (.panic cc) a w := fun cc a w => by
      cases o.dst with
      | none => exact fun h => h
      | some d => exact hQ cc a d v w
    refine anyN_take (S := fun w' => R1 w w') hi hs hq _ _ _ _ _ hsh ho.1.2 hrd hy (H1.refl w) (pend_at H0 H1 h c w) ?_
    refine anyN_weaken _ _ (pend R0 R1 (i :: h) c w) _ _ _ (fun p hp => .inr ?_) (anyN_of_lin H0 H1 hR hs hQ t (i :: h) c n _ _ _ (hsh.ready hrd) ho.2 hr)
    rcases List.mem_cons.1 hp with rfl | hp
    · exact ⟨_, pend_hot List.mem_cons_self, rfl, fun _ h => h⟩
    · rcases mem_pend hp with ⟨m, e⟩ | ⟨m, e⟩
      · exact ⟨_, pend_hot (List.mem_cons_of_mem _ m), rfl, fun _ h => by rw [e]; exact h⟩
      · exact ⟨_, pend_cold m, rfl, fun _ h => by rw [e]; exact h⟩
  | .op i C h' c' t, h, c, n + 1, listed, a, w, hsh, ho, H => by
    simp only [okON, Bool.and_eq_true, beq_iff_eq] at ho
    obtain ⟨⟨⟨⟨o1, o2⟩, o3⟩, o4⟩, o5⟩ := ho
    refine ⟨fun h0 => (by rw [o1] at h0; cases h0), fun j hj => ?_⟩
    have hj' := hj
    rw [o1] at hj
    simp only [List.mem_singleton] at hj
    subst hj
    refine ⟨pend R0 R1 h' c' w, pend_left o2 o3 o4, wpOp_mono (fun a' w' h' => ?_) H⟩
    obtain ⟨s1, s2⟩ := pend_step H0 H1 hR h'.1
    exact ⟨s1, anyN_weaken _ _ _ _ _ _ s2 (anyN_of_lin H0 H1 hR hs hQ t _ _ n _ _ _ (hsh.ready hj') o5 h'.2)⟩
  | .two i C h1 c1 t k C2 h2 c2 s, h, c, n + 1, listed, a, w, hsh, ho, H => by
    simp only [okON, Bool.and_eq_true, beq_iff_eq] at ho
    obtain ⟨⟨⟨⟨⟨⟨⟨⟨o1, o2⟩, o3⟩, o4⟩, o5⟩, o6⟩, o7⟩, o8⟩, o9⟩ := ho
    refine ⟨fun h0 => (by rw [o1] at h0; cases h0), fun j hj => ?_⟩
    have hj' := hj
    rw [o1] at hj
    simp only [List.mem_cons, List.not_mem_nil, or_false] at hj
    rcases hj with rfl | rfl
    · refine ⟨pend R0 R1 h1 c1 w, pend_left o2 o3 o4, wpOp_mono (fun a' w' h' => ?_) H.1⟩
      obtain ⟨s1, s2⟩ := pend_step H0 H1 hR h'.1
      exact ⟨s1, anyN_weaken _ _ _ _ _ _ s2 (anyN_of_lin H0 H1 hR hs hQ t _ _ n _ _ _ (hsh.ready hj') o5 h'.2)⟩
    · refine ⟨pend R0 R1 h2 c2 w, pend_left o6 o7 o8, wpOp_mono (fun a' w' h' => ?_) H.2⟩
      obtain ⟨s1, s2⟩ := pend_step H0 H1 hR h'.1
      exact ⟨s1, anyN_weaken _ _ _ _ _ _ s2 (anyN_of_lin H0 H1 hR hs hQ s _ _ n _ _ _ (hsh.ready hj') o9 h'.2)⟩
  | .nil, _, _, _ + 1, _, _, _, _, ho, _ => by simp [okON] at ho
  | .free _ _, _, _, 0, _, _, _, _, ho, _ => by simp [okON] at ho
  | .cold _ _, _, _, 0, _, _, _, _, ho, _ => by simp [okON] at ho
  | .hot _ _, _, _, 0, _, _, _, _, ho, _ => by simp [okON] at ho
  | .op _ _ _ _ _, _, _, 0, _, _, _, _, ho, _ => by simp [okON] at ho
  | .two _ _ _ _ _ _ _ _ _ _, _, _, 0, _, _, _, _, ho, _ => by simp [okON] at ho
theorem wp_region_linN (R0 R1 : World → World → Prop) (H0 : Way R0) (H1 : Way R1) (hR : ∀ w w', R1 w w' → R0 w w') (σ : ON) {id : Nat} {a : Act} {w : World} (hm : P.follows .mixedOrders = true) (hs : Region.noSelect ops = true)
    (hok : okON ops σ [] [] ops.size (Array.replicate ops.size false) = true) (hQ : ∀ c a d v w, Q (.panic c) (Act.put a (some d) v) w → Q (.panic c) a w)
    (h : LinN P R0 R1 ops Q σ a w.drew) : (Code.region id ops true).wp P Q a w :=
  wp_region_any hm (any_of_anyN _ _ _ _ _ (anyN_of_lin H0 H1 hR hs hQ σ [] [] _ _ _ _ (shut_none ops ops.size) hok h))
theorem linN_free {i : Nat} {t : ON} {a : Act} {w : World} {o : Oper} {v : Value} (hi : ops[i]? = some o) (hw : Region.wanted o (yielded ops a.tmps) = true)
    (hy : ∀ w', (execOp a.eval o).run P w' = .ok (.value v) w') (h : LinN P R0 R1 ops Q t (a.put o.dst v) w) : LinN P R0 R1 ops Q (.free i t) a w :=
  ⟨o, v, hi, .inl ⟨hw, fun w' _ => hy w'⟩, h⟩
theorem linN_freeSkip {i : Nat} {t : ON} {a : Act} {w : World} {o : Oper} (hi : ops[i]? = some o) (hw : Region.wanted o (yielded ops a.tmps) = false)
    (h : LinN P R0 R1 ops Q t (a.put o.dst undef) w) : LinN P R0 R1 ops Q (.free i t) a w :=
  ⟨o, undef, hi, .inr ⟨hw, rfl⟩, h⟩
theorem linN_cold {i : Nat} {t : ON} {a : Act} {w : World} {o : Oper} {v : Value} (hi : ops[i]? = some o) (hw : Region.wanted o (yielded ops a.tmps) = true)
    (hy : ∀ w', R0 w w' → (execOp a.eval o).run P w' = .ok (.value v) w') (h : LinN P R0 R1 ops Q t (a.put o.dst v) w) : LinN P R0 R1 ops Q (.cold i t) a w :=
  ⟨o, v, hi, .inl ⟨hw, hy⟩, h⟩
theorem linN_coldSkip {i : Nat} {t : ON} {a : Act} {w : World} {o : Oper} (hi : ops[i]? = some o) (hw : Region.wanted o (yielded ops a.tmps) = false)
    (h : LinN P R0 R1 ops Q t (a.put o.dst undef) w) : LinN P R0 R1 ops Q (.cold i t) a w :=
  ⟨o, undef, hi, .inr ⟨hw, rfl⟩, h⟩
theorem linN_hot {i : Nat} {t : ON} {a : Act} {w : World} {o : Oper} {v : Value} (hi : ops[i]? = some o) (hw : Region.wanted o (yielded ops a.tmps) = true)
    (hy : ∀ w', R1 w w' → (execOp a.eval o).run P w' = .ok (.value v) w') (h : LinN P R0 R1 ops Q t (a.put o.dst v) w) : LinN P R0 R1 ops Q (.hot i t) a w :=
  ⟨o, v, hi, .inl ⟨hw, hy⟩, h⟩
theorem linN_hotSkip {i : Nat} {t : ON} {a : Act} {w : World} {o : Oper} (hi : ops[i]? = some o) (hw : Region.wanted o (yielded ops a.tmps) = false)
    (h : LinN P R0 R1 ops Q t (a.put o.dst undef) w) : LinN P R0 R1 ops Q (.hot i t) a w :=
  ⟨o, undef, hi, .inr ⟨hw, rfl⟩, h⟩
theorem opN {N : World → World → Prop} {i : Nat} {t : ON} {a : Act} {w : World} {o : Oper} (hi : ops[i]? = some o) (hw : Region.wanted o (yielded ops a.tmps) = true)
    (h : ∀ K : Act → World → Prop, (∀ a' w', N w w' → LinN P R0 R1 ops Q t a' w' → K a' w') → o.wp P a w K Q) : wpOp P ops Q i (fun a' w' => N w w' ∧ LinN P R0 R1 ops Q t a' w') a w := by
  unfold wpOp
  simp only [hi, hw, if_true]
  exact .inl (h _ fun a' w' h1 h2 => ⟨h1, h2⟩)
theorem passN {N : World → World → Prop} {i : Nat} {t : ON} {a : Act} {w : World} {o : Oper} (hi : ops[i]? = some o) (hw : Region.wanted o (yielded ops a.tmps) = false) (hn : N w w)
    (h : LinN P R0 R1 ops Q t (a.put o.dst undef) w) : wpOp P ops Q i (fun a' w' => N w w' ∧ LinN P R0 R1 ops Q t a' w') a w := by
  unfold wpOp
  simp only [hi, hw, Bool.false_eq_true, if_false]
  exact ⟨hn, h⟩
theorem linN_op {i : Nat} {C : List (Nat × Nat)} {h' c' : List Nat} {t : ON} {a : Act} {w : World} {o : Oper} (hi : ops[i]? = some o) (hw : Region.wanted o (yielded ops a.tmps) = true)
    (h : ∀ K : Act → World → Prop, (∀ a' w', need R0 R1 h' c' w w' → LinN P R0 R1 ops Q t a' w' → K a' w') → o.wp P a w K Q) : LinN P R0 R1 ops Q (.op i C h' c' t) a w := opN (N := need R0 R1 h' c') hi hw h
theorem linN_pass (H0 : Way R0) (H1 : Way R1) {i : Nat} {C : List (Nat × Nat)} {h' c' : List Nat} {t : ON} {a : Act} {w : World} {o : Oper} (hi : ops[i]? = some o) (hw : Region.wanted o (yielded ops a.tmps) = false)
    (h : LinN P R0 R1 ops Q t (a.put o.dst undef) w) : LinN P R0 R1 ops Q (.op i C h' c' t) a w := by
  refine passN (N := need R0 R1 h' c') hi hw ?_ h
  cases h' with
  | cons => exact H1.refl w
  | nil => cases c' with
    | cons => exact H0.refl w
    | nil => trivial
theorem linN_two {i j : Nat} {C C' : List (Nat × Nat)} {h1 c1 h2 c2 : List Nat} {t s : ON} {a : Act} {w : World} (h : wpOp P ops Q i (fun a' w' => need R0 R1 h1 c1 w w' ∧ LinN P R0 R1 ops Q t a' w') a w)
    (h' : wpOp P ops Q j (fun a' w' => need R0 R1 h2 c2 w w' ∧ LinN P R0 R1 ops Q s a' w') a w) : LinN P R0 R1 ops Q (.two i C h1 c1 t j C' h2 c2 s) a w := ⟨h, h'⟩
theorem linN_end {a : Act} {w : World} (h : Q .normal a w) : LinN P R0 R1 ops Q .nil a w := h
end
theorem run_loadO {P : Program} {a : Act} {o : Oper} {ty : TypeId} {x : Operand} {ad : Addr} {vs : List Value} {w' : World} (ho : o.op = .load ty x) (hx : a.eval x = .pointer (some ad)) (ha : (isAgg ty).run P w' = .ok true w') (hsz : (P.info? ty).map (·.size) = some vs.length)
    (hc : ∀ j v, vs[j]? = some v → w'.cell? (ad.add j) = some v) : (execOp a.eval o).run P w' = .ok (.value (.agg vs.toArray)) w' := by
  have hl := run_loadR ha hsz hc
  unfold execOp
  simp only [ho, hx, Instr.loadAt, Instr.sureAddr, Sem.run_bind, Sem.run_pure, Result.andThen_ok, hl]
/-- below block B all but block g is as it was -/
def But (B g : Nat) (w w' : World) : Prop := ∀ k, k ≠ g → k < B → w'.heap[k]? = w.heap[k]?
theorem wayBut (B g : Nat) : Way (But B g) := ⟨fun _ _ _ _ => rfl, fun h1 h2 k hk hl => (h2 k hk hl).trans (h1 k hk hl), fun _ _ _ _ => rfl⟩
theorem But.row {B g k : Nat} {w w' : World} {c : Array Value} {T : TypeId} (h : But B g w w') (hr : Row w k c T) (hk : k ≠ g) (hl : k < B) : Row w' k c T := (h k hk hl).trans hr
theorem But.cell {B g : Nat} {w w' : World} {a : Addr} {v : Value} (h : But B g w w') (hk : a.block ≠ g) (hl : a.block < B) (hc : w.cell? a = some v) : w'.cell? a = some v := by
  unfold World.cell? at hc ⊢
  rw [h _ hk hl]
  exact hc
theorem but_set (B g j : Nat) (v : Value) (w : World) : But B g w (w.setCell ⟨g, j, none⟩ v) := fun k hk _ => heap_setCell_other _ _ _ _ hk
theorem but_upd {B g : Nat} {c : Array Value} {t : TypeId} {w w' : World} (h : Upd g c t w w') : But B g w w' := fun k hk _ => h.rest k hk
theorem but_below {B g : Nat} {w w' : World} (h : Below B w w') : But B g w w' := fun k _ hl => h.block k hl
theorem but_drew {B g : Nat} {w w' : World} (h : But B g w w') : But B g w w'.drew := h
end Go.Proofs.Ytmdmhjcdaejlkaa

/- Maps from int to slices, each value reading as itself. -/
set_option linter.unusedVariables false
set_option linter.unusedSimpArgs false
namespace Go.Proofs.Ytmdmhjcdaejlkaa
open Go.RowKit

/-- each value reads as itself -/
def selfR (v : Value) : Option (DataW Value × List MemPlace) := some (.held v, [])
def kI (i : Int) : Lit := .int .i64 i
/-- block b is a map from int: at i stands f i (nil where nothing stands); n stores at most -/
structure MapI (W : World) (b n : Nat) (f : Int → Value) : Prop where
  mk :: (out : ∃ D, W.ownsMap Try.prog 3 selfR b n D ∧ ∀ i, D.atKey (kI i) (.held (.slice none 0 0)) = .held (f i))
theorem MapI.below {W W' : World} {b n : Nat} {f : Int → Value} (h : MapI W b n f) (he : W'.heap[b]? = W.heap[b]?) : MapI W' b n f := by
  obtain ⟨D, ⟨es, clock, hb, r⟩, hD⟩ := h.out
  exact ⟨D, ⟨es, clock, he.trans hb, r⟩, hD⟩
theorem MapI.lt {W : World} {b n : Nat} {f : Int → Value} (h : MapI W b n f) : b < W.heap.size := by
  obtain ⟨D, ho, _⟩ := h.out
  exact ho.lt
theorem MapI.new (w : World) : MapI (w.alloc (.map #[] 0)) w.heap.size 0 (fun _ => .slice none 0 0) :=
  ⟨_, World.ownsMap_made w _ _ _, fun _ => rfl⟩
theorem key_i64 (i : Int) (hi : (Lit.int .i64 i).wf = true) : keyOf Try.prog 3 (.int .i64 i) = some (kI i) := Maps.keyOf_int_mk Try.underlying3 hi
theorem run_look {W : World} {b n : Nat} {f : Int → Value} (h : MapI W b n f) (i : Int) (hi : (Lit.int .i64 i).wf = true) : (Instr.lookup 90 (.map (some b)) (.int .i64 i) false).run Try.prog W = .ok (f i) W := by
  obtain ⟨D, ho, hD⟩ := h.out
  obtain ⟨v, ps, hrun, hv⟩ := ho.lookup (Maps.int_keyed Try.underlying3) Try.underlying90 (z := .slice none 0 0) (by kernel_rfl) (zd := .held (.slice none 0 0)) (zp := []) rfl (key_i64 i hi)
  rw [hD i] at hv
  simp only [selfR, Option.some.injEq, Prod.mk.injEq, DataW.held.injEq] at hv
  rw [hrun, hv.1]
/-- a function with one place turned -/
def updI (f : Int → Value) (i : Int) (v : Value) : Int → Value := fun j => if j = i then v else f j
theorem run_put {W : World} {b n : Nat} {f : Int → Value} (h : MapI W b n f) (hn : n < maxLen) (i : Int) (hi : (Lit.int .i64 i).wf = true) (v : Value) :
    ∃ W', (Instr.mapUpdate 90 (.map (some b)) (.int .i64 i) v).run Try.prog W = .ok () W' ∧ MapI W' b (n + 1) (updI f i v) ∧ W.grownBy W' (some b) := by
  obtain ⟨D, ho, hD⟩ := h.out
  obtain ⟨W', hrun, ho', hg⟩ := ho.update (Maps.int_keyed Try.underlying3) Try.underlying90 hn (key_i64 i hi) (val := v) (d := .held v) (ps := []) rfl
  refine ⟨W', hrun, ⟨_, ho', fun j => ?_⟩, hg⟩
  unfold updI
  by_cases hj : j = i
  · subst hj
    rw [if_pos rfl, Maps.atKey_put_same ho.isMap (by constructor)]
  · rw [if_neg hj, Maps.atKey_put_other (fun e => hj (by unfold kI at e; cases e; rfl)), hD]
end Go.Proofs.Ytmdmhjcdaejlkaa

/- Frame by type: what an operation on the device leaves as it was. -/
set_option linter.unusedVariables false
set_option linter.unusedSimpArgs false
namespace Go.Proofs.Ytmdmhjcdaejlkaa
open Go.RowKit

/-- below block 'base' all is as it was; of the blocks that there were, those whose elements are of no type in S -/
structure DR (S : List TypeId) (base : Nat) (W W' : World) : Prop where
  below : Below base W W'
  typ : ∀ (k : Nat) (c : Array Value) (T : TypeId) (fr : Nat × Nat), W.heap[k]? = some (.cells c T fr) → T ∉ S → W'.heap[k]? = some (.cells c T fr)
theorem DR.refl (S : List TypeId) (base : Nat) (W : World) : DR S base W W := ⟨Below.refl _ _, fun _ _ _ _ h _ => h⟩
theorem DR.trans {S : List TypeId} {base : Nat} {a b c : World} (h1 : DR S base a b) (h2 : DR S base b c) : DR S base a c :=
  ⟨h1.below.trans h2.below, fun k x T fr h hT => h2.typ k x T fr (h1.typ k x T fr h hT) hT⟩
theorem wayD (S : List TypeId) (base : Nat) : Way (DR S base) := ⟨DR.refl S base, DR.trans, fun w => ⟨(Below.refl _ w).drew, fun _ _ _ _ h _ => h⟩⟩
theorem DR.less {S S' : List TypeId} {base : Nat} {W W' : World} (h : DR S base W W') (hS : ∀ T ∈ S, T ∈ S') : DR S' base W W' :=
  ⟨h.below, fun k c T fr hk hT => h.typ k c T fr hk (fun hm => hT (hS T hm))⟩
theorem DR.of_below {S : List TypeId} {base : Nat} {W W' : World} (h : Below W.heap.size W W') (hb : base ≤ W.heap.size) : DR S base W W' :=
  ⟨h.mono hb, fun k c T fr hk _ => (h.block k (Array.getElem?_eq_some_iff.1 hk).1).trans hk⟩
theorem DR.drew {S : List TypeId} {base : Nat} {W W' : World} (h : DR S base W W') : DR S base W W'.drew := h.trans ((wayD S base).drew W')
theorem DR.alloc {S : List TypeId} {base : Nat} {W W' : World} (h : DR S base W W') (hb : base ≤ W'.heap.size) (o : Obj) : DR S base W (W'.alloc o) :=
  h.trans (DR.of_below (below_alloc (Below.refl _ _) _) hb)
/-- one block turned, whose elements are of a type in S -/
theorem DR.of_upd {S : List TypeId} {base g : Nat} {c old : Array Value} {T : TypeId} {W W' : World} (hu : Upd g c T W W') (hr : Row W g old T) (hT : T ∈ S) (hb : base ≤ g) : DR S base W W' :=
  ⟨hu.below hb, fun k x U fr hk hU => by
    by_cases e : k = g
    · subst e
      have := hr.symm.trans hk
      simp at this
      exact absurd hT (this.2.1 ▸ hU)
    · exact (hu.rest k e).trans hk⟩
theorem upd_cell {W : World} {g j : Nat} {c : Array Value} {T : TypeId} (hr : Row W g c T) (v : Value) : Upd g (c.setIfInBounds j v) T W (W.setCell ⟨g, j, none⟩ v) :=
  ⟨hr.set j v, fun k hk => heap_setCell_other _ _ _ _ hk, by simp, rfl, rfl, rfl⟩
theorem DR.of_set {S : List TypeId} {base g : Nat} {c : Array Value} {T : TypeId} {W : World} (hr : Row W g c T) (hT : T ∈ S) (hb : base ≤ g) (j : Nat) (v : Value) : DR S base W (W.setCell ⟨g, j, none⟩ v) :=
  DR.of_upd (upd_cell hr v) hr hT hb
/-- a map's block turned -/
theorem DR.of_map {S : List TypeId} {base b : Nat} {W W' : World} (hg : W.grownBy W' (some b)) (hm : ∃ es cl, W.heap[b]? = some (.map es cl)) (hb : base ≤ b) : DR S base W W' :=
  ⟨⟨hg.os, hg.tape, hg.output, hg.size, fun k hk => hg.block k (Nat.lt_of_lt_of_le (Nat.lt_of_lt_of_le hk hb) (Nat.le_of_lt (by obtain ⟨es, cl, h⟩ := hm; exact (Array.getElem?_eq_some_iff.1 h).1))) (fun e => by cases e; omega)⟩,
   fun k c T fr hk _ => (hg.block k (Array.getElem?_eq_some_iff.1 hk).1 (fun e => by cases e; obtain ⟨es, cl, h⟩ := hm; rw [h] at hk; cases hk)).trans hk⟩
/-- a row of the call's own turned, or grown -/
theorem DR.of_own {S : List TypeId} {base n : Nat} {e : TypeId} {size : Nat} {v : Value} {xs : List Value} {W W' : World} (hg : W.grownBy W' v.ownBlock) (ho : W.ownsRow base e size v n xs) (hT : e ∈ S) (hb : base ≤ W.heap.size) : DR S base W W' := by
  rcases ho.2 with ⟨rfl, _⟩ | ⟨g, cap, cur, rfl, hbg, hh, _⟩
  · refine ⟨⟨hg.os, hg.tape, hg.output, hg.size, fun k hk => hg.block k (by omega) (by simp [Value.ownBlock])⟩, fun k c T fr hk _ => (hg.block k (Array.getElem?_eq_some_iff.1 hk).1 (by simp [Value.ownBlock])).trans hk⟩
  · refine ⟨⟨hg.os, hg.tape, hg.output, hg.size, fun k hk => hg.block k (by omega) (fun e => by simp [Value.ownBlock] at e; omega)⟩, fun k c T fr hk hU => ?_⟩
    by_cases ek : k = g
    · subst ek
      rw [hh] at hk
      simp at hk
      exact absurd hT (hk.2.1 ▸ hU)
    · exact (hg.block k (Array.getElem?_eq_some_iff.1 hk).1 (fun e => by simp [Value.ownBlock] at e; exact ek e)).trans hk

/-- bytes that stay: they lie below 'base', or in a block of bytes -/
def BytesAt (W : World) (base : Nat) (v : Value) (xs : List UInt8) : Prop :=
  ∃ A c, v = .slice A xs.length c ∧ xs.length ≤ c ∧ c ≤ maxLen ∧ RdB W A xs.length xs ∧ ∀ ad, A = some ad → 0 < xs.length → ad.block < base ∨ ∃ cs fr, W.heap[ad.block]? = some (.cells cs 5 fr)
theorem BytesAt.keep {S : List TypeId} {base : Nat} {W W' : World} {v : Value} {xs : List UInt8} (h : BytesAt W base v xs) (hd : DR S base W W') (hS : 5 ∉ S) : BytesAt W' base v xs := by
  obtain ⟨A, c, rfl, h1, h2, hr, hb⟩ := h
  refine ⟨A, c, rfl, h1, h2, hr.keep fun ad e j hj => ?_, fun ad e h0 => ?_⟩
  · have hblk : W'.heap[ad.block]? = W.heap[ad.block]? := by
      rcases hb ad e (by omega) with h | ⟨cs, fr, h⟩
      · exact hd.below.block _ h
      · rw [hd.typ _ _ _ _ h hS, h]
    unfold World.cell?
    rw [ad_block, hblk]
  · rcases hb ad e h0 with h | ⟨cs, fr, h⟩
    · exact .inl h
    · exact .inr ⟨cs, fr, hd.typ _ _ _ _ h hS⟩
theorem BytesAt.nil_ (W : World) (base : Nat) : BytesAt W base (.slice none 0 0) [] := ⟨none, 0, rfl, Nat.le_refl _, Nat.zero_le _, Rd.nil_ _ _, fun ad h => by cases h⟩
theorem BytesAt.of_own {W : World} {B base : Nat} {v : Value} {xs : List UInt8} (h : OwnB W B 5 v xs) : BytesAt W base v xs := by
  obtain ⟨A, c, rfl, h1, h2, hr⟩ := h.form
  refine ⟨A, c, rfl, h1, h2, hr, fun ad e h0 => ?_⟩
  rcases h.2 with ⟨_, h0'⟩ | ⟨g, cap, cur, hv, _, hh, _⟩
  · omega
  · simp only [Value.slice.injEq] at hv
    obtain ⟨hA, _⟩ := hv
    rw [hA] at e
    cases e
    exact .inr ⟨_, _, hh⟩
theorem BytesAt.up {W : World} {base base' : Nat} {v : Value} {xs : List UInt8} (h : BytesAt W base v xs) (hb : base ≤ base') : BytesAt W base' v xs := by
  obtain ⟨A, c, rfl, h1, h2, hr, hq⟩ := h
  exact ⟨A, c, rfl, h1, h2, hr, fun ad e h0 => (hq ad e h0).imp (fun h => by omega) id⟩
end Go.Proofs.Ytmdmhjcdaejlkaa

/- make and copy on bytes of the call's own. -/
set_option linter.unusedVariables false
set_option linter.unusedSimpArgs false
namespace Go.Proofs.Ytmdmhjcdaejlkaa
open Go.RowKit

theorem info_parts8 : ∃ i, Try.prog.info? 5 = some i ∧ i.zero = some (.int .u8 0) ∧ i.size = 1 ∧ i.bytes = 1 := by
  have h : (Try.prog.info? 5).map (fun i => (i.zero, i.size, i.bytes)) = some (some (.int .u8 0), 1, 1) := by kernel_rfl
  obtain ⟨i, h1, h2⟩ := Option.map_eq_some_iff.1 h
  simp only [Prod.mk.injEq] at h2
  exact ⟨i, h1, h2.1, h2.2.1, h2.2.2⟩
theorem bv_rep (n : Nat) : bv (List.replicate n 0) = List.replicate n (.int .u8 0) := by simp [bv]
/-- make([]byte, n) -/
theorem wpl_makeB {ops : Array Oper} {rest : List Oper} {o : Oper} {a : Act} {Q : Exit → Act → World → Prop} {W : World} {l c : Operand} {n : Nat} (hg : o.guard = none) (hop : o.op = Op.makeSlice 24 l c)
    (hl : a.eval l = .int .i64 (n : Int)) (hc : a.eval c = .int .i64 (n : Int)) (hn : n ≤ 140737488355328)
    (hK : ∀ W', OwnB W' W.heap.size 5 (.slice (some ⟨W.heap.size, 0, none⟩) n n) (List.replicate n 0) → Below W.heap.size W W' → W.heap.size < W'.heap.size → wpList Try.prog ops Q rest (a.put o.dst (.slice (some ⟨W.heap.size, 0, none⟩) n n)) W') :
    wpList Try.prog ops Q (o :: rest) a W := by
  obtain ⟨i, h1, h2, h3, h4⟩ := info_parts8
  refine wpList_make_full W hg l c 24 hop W.heap.size 5 i (.int .u8 0) 1 Try.underlying24 h1 h2 h3 .i64 .i64 n n n hl hc rfl rfl (by rw [h4]; omega) (by unfold maxLen; omega) (Nat.le_refl _) ?_
  intro W' ho hgr
  have ho' : OwnB W' W.heap.size 5 (.slice (some ⟨W.heap.size, 0, none⟩) n n) (List.replicate n 0) := by
    unfold OwnB
    rw [List.length_replicate, bv_rep]
    have e : (madeCells (Value.int .u8 0).cells (n * 1)).toList = List.replicate n (.int .u8 0) := by
      rw [Nat.mul_one]; exact toList_madeCells_one _ _
    rwa [e] at ho
  refine hK W' ho' ⟨hgr.os, hgr.tape, hgr.output, hgr.size, fun k hk => hgr.block k hk (by simp)⟩ ?_
  rcases ho.2 with ⟨h, _⟩ | ⟨g, cap, cur, hv, _, hh, _⟩
  · cases h
  · cases hv
    exact (Array.getElem?_eq_some_iff.1 hh).1
/-- what stands in the target behind copy -/
def copyL (xs ys : List UInt8) : List UInt8 := ys.take xs.length ++ xs.drop (min ys.length xs.length)
theorem copyL_length (xs ys : List UInt8) : (copyL xs ys).length = xs.length := by simp [copyL]; omega
theorem upd_refl {W : World} {g : Nat} {c : Array Value} {t : TypeId} (h : Row W g c t) : Upd g c t W W := ⟨h, fun _ _ => rfl, rfl, rfl, rfl, rfl⟩
/-- copy(dst, src): dst is the whole of a row of bytes that is known -/
theorem wpl_copyB {ops : Array Oper} {rest : List Oper} {o : Oper} {a : Act} {Q : Exit → Act → World → Prop} {W : World} {d s : Operand} {g cap : Nat} {xs ys : List UInt8} {A : Option Addr} {c : Nat} (hg : o.guard = none)
    (ho : o.op = .call { callee := .builtin .copy, args := #[d, s], argTypes := #[24, 24] }) (hd : a.eval d = .slice (some ⟨g, 0, none⟩) xs.length cap) (hs : a.eval s = .slice A ys.length c)
    (hrow : Row W g (bv xs).toArray 5) (hr : RdB W A ys.length ys)
    (hK : ∀ W' y, Upd g (bv (copyL xs ys)).toArray 5 W W' → wpList Try.prog ops Q rest (a.put o.dst y) W') :
    wpList Try.prog ops Q (o :: rest) a W := by
  have hsz : (Try.prog.info? 5).map (·.size) = some 1 := by kernel_rfl
  by_cases h0 : min ys.length xs.length = 0
  · refine wpList_copy_nothing hg d s _ _ ho 5 Try.underlying24 hsz _ _ _ _ _ _ hd hs h0 (hK W _ ?_)
    have e : copyL xs ys = xs := by
      unfold copyL
      rw [h0, List.drop_zero]
      rcases Nat.eq_zero_or_pos xs.length with h | h
      · rw [List.eq_nil_of_length_eq_zero h]; simp
      · have : ys = [] := List.eq_nil_of_length_eq_zero (by omega)
        subst this; simp
    rw [e]
    exact upd_refl hrow
  · have hpos : 0 < ys.length := by omega
    obtain ⟨ad, rfl, hc⟩ := hr.2 hpos
    refine wpList_copy_own hg d s _ _ ho 5 Try.underlying24 hsz g 0 _ _ ad _ _ hd hs _ _ hrow ((bv ys).take (min ys.length xs.length)) (by rw [List.length_take, bv_length]; show min (min _ _) _ = min _ _; omega) ?_ (by rw [List.length_take, bv_length, List.size_toArray, bv_length]; omega) ?_ ?_
    · intro j v hv
      refine hc j v ?_
      rw [List.getElem?_take] at hv
      by_cases hj : j < min ys.length xs.length
      · rw [if_pos hj] at hv; exact hv
      · rw [if_neg hj] at hv; cases hv
    · intro v hv
      exact bv_cells ys v (List.mem_of_mem_take hv)
    · refine hK _ _ ?_
      have e : (bv (copyL xs ys)) = (List.take 0 (bv xs).toArray.toList ++ ((bv ys).take (min ys.length xs.length) ++ List.drop (0 + ((bv ys).take (min ys.length xs.length)).length) (bv xs).toArray.toList)) := by
        rw [List.take_zero, List.nil_append, Nat.zero_add, List.length_take, bv_length, Nat.min_eq_left (by omega : min ys.length xs.length ≤ ys.length)]
        unfold copyL
        rw [bv_append, bv_take, bv_drop]
        have a1 : (bv ys).take xs.length = (bv ys).take (min ys.length xs.length) := by
          rcases Nat.le_total ys.length xs.length with h | h
          · rw [List.take_of_length_le (by rw [bv_length]; omega), List.take_of_length_le (by rw [bv_length]; omega)]
          · rw [Nat.min_eq_right h]
        rw [a1]
      rw [e]
      exact upd_set hrow
end Go.Proofs.Ytmdmhjcdaejlkaa
