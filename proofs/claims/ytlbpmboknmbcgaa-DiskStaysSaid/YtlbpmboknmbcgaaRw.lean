/- Rules for whole structs in memory: a block's row is known. -/
import Derived.Test.YtlbpmboknmbcgaaLinK
set_option linter.unusedVariables false
set_option linter.unusedSimpArgs false
namespace Go.Proofs.Ytlbpmboknmbcgaa
open Go.RowKit

/-- a whole struct stored into the block that was made last -/
theorem wpl_storeN {P : Program} {ops : Array Oper} {rest : List Oper} {o : Oper} {a : Act} {w : World} {Q : Exit → Act → World → Prop} {ty : TypeId} {x y : Operand} {cells : Array Value} {t : TypeId} {old : Array Value} {g : Nat}
    (hgd : o.guard = none) (ho : o.op = .store ty x y) (hx : a.eval x = .pointer (some ⟨g, 0, none⟩)) (hg : w.heap.size = g) (hy : a.eval y = .agg cells) (hi : (P.info? ty).map (·.size) = some cells.size)
    (hold : old.size = cells.size) (h1 : cells.all (·.oneCell') = true)
    (h : wpList P ops Q rest (a.put o.dst undef) (w.alloc (.cells cells t))) : wpList P ops Q (o :: rest) a (w.alloc (.cells old t)) := by
  subst hg
  exact wpList_store_row hgd ty x y ho w.heap.size cells hx hy t old (heap_alloc_last w _) hi hold h1 (by rw [World.setRow_alloc_new]; exact h)
/-- one cell of a block that was made last -/
theorem wpl_storeF {P : Program} {ops : Array Oper} {rest : List Oper} {o : Oper} {a : Act} {w : World} {Q : Exit → Act → World → Prop} {ty : TypeId} {x y : Operand} {v : Value} {t : TypeId} {old : Array Value} {g j : Nat}
    (hgd : o.guard = none) (ho : o.op = .store ty x y) (hx : a.eval x = .pointer (some ⟨g, j, none⟩)) (hg : w.heap.size = g) (hy : a.eval y = v) (hi : (P.info? ty).map (·.size) = some 1)
    (hc : v.cells = #[v]) (hold : j < old.size) (h1 : v.oneCell' = true)
    (h : wpList P ops Q rest (a.put o.dst undef) (w.alloc (.cells (old.setIfInBounds j v) t))) : wpList P ops Q (o :: rest) a (w.alloc (.cells old t)) := by
  subst hg
  refine wpList_plain hgd fun K hK => ?_
  have hcell : (w.alloc (.cells old t)).cell? ⟨w.heap.size, j, none⟩ = some old[j] := by
    rw [cell_of_row _ _ j old t (0, 0) (heap_alloc_last w _)]; simp [hold]
  have hfro : (w.alloc (.cells old t)).frozen? ⟨w.heap.size, j, none⟩ = false := frozen_of_row _ _ _ _ _ (heap_alloc_last w _)
  have hst : (storeVar ty ⟨w.heap.size, j, none⟩ v).run P (w.alloc (.cells old t)) = .ok () (w.alloc (.cells (old.setIfInBounds j v) t)) := by
    have hadd : (⟨w.heap.size, j, none⟩ : Addr).add 0 = ⟨w.heap.size, j, none⟩ := rfl
    cases hq : P.info? ty with
    | none => simp [hq] at hi
    | some i =>
      have hs : i.size = 1 := by simpa [hq] using hi
      simp [storeVar, sizeOf, typeInfo, hq, hc, hs, storeCells, hadd, run_store P _ _ v _ h1, hcell, hfro, setCell_eq_setRow _ _ j old t (0, 0) v (heap_alloc_last w _), World.setRow_alloc_new]
  unfold Oper.wp execOp
  simp only [ho, hx, hy, Instr.storeAt, Instr.sureAddr, Sem.run_bind, Sem.run_pure, Result.andThen_ok, hst]
  exact hK _ _ h
/-- a block's row -/
def Row (W : World) (g : Nat) (c : Array Value) (t : TypeId) : Prop := W.heap[g]? = some (.cells c t (0, 0))
theorem Row.new (w : World) (c : Array Value) (t : TypeId) : Row (w.alloc (.cells c t)) w.heap.size c t := heap_alloc_last w _
theorem Row.below {W W' : World} {g B : Nat} {c : Array Value} {t : TypeId} (h : Row W g c t) (hb : Below B W W') (hg : g < B) : Row W' g c t := (hb.block g hg).trans h
theorem Row.alloc {W : World} {g : Nat} {c : Array Value} {t : TypeId} (h : Row W g c t) (o : Obj) : Row (W.alloc o) g c t :=
  (heap_alloc_old W o (Array.getElem?_eq_some_iff.1 h).1).trans h
theorem Row.upd {W W' : World} {g k : Nat} {c d : Array Value} {t u : TypeId} (h : Row W g c t) (hu : Upd k d u W W') (hk : g ≠ k) : Row W' g c t := (hu.rest g hk).trans h
theorem Row.cell {W : World} {g : Nat} {c : Array Value} {t : TypeId} (h : Row W g c t) (j : Nat) {v : Value} (hv : c[j]? = some v) : W.cell? ⟨g, j, none⟩ = some v := (cell_of_row _ _ j c t (0, 0) h).trans hv
theorem Row.free {W : World} {g : Nat} {c : Array Value} {t : TypeId} (h : Row W g c t) (j : Nat) : W.frozen? ⟨g, j, none⟩ = false := frozen_of_row _ _ _ _ _ h
theorem Row.lt {W : World} {g : Nat} {c : Array Value} {t : TypeId} (h : Row W g c t) : g < W.heap.size := (Array.getElem?_eq_some_iff.1 h).1
/-- a whole struct into a block whose row is known -/
theorem wpl_storeX {P : Program} {ops : Array Oper} {rest : List Oper} {o : Oper} {a : Act} {W : World} {Q : Exit → Act → World → Prop} {ty : TypeId} {x y : Operand} {cells : Array Value} {t : TypeId} {old : Array Value} {g : Nat}
    (hgd : o.guard = none) (ho : o.op = .store ty x y) (hx : a.eval x = .pointer (some ⟨g, 0, none⟩)) (hy : a.eval y = .agg cells) (hr : Row W g old t) (hi : (P.info? ty).map (·.size) = some cells.size)
    (hold : old.size = cells.size) (h1 : cells.all (·.oneCell') = true)
    (h : ∀ W1, Upd g cells t W W1 → wpList P ops Q rest (a.put o.dst undef) W1) : wpList P ops Q (o :: rest) a W :=
  wpList_store_row hgd ty x y ho g cells hx hy t old hr hi hold h1 (h _ (upd_set hr))
theorem Row.set {W : World} {g : Nat} {c : Array Value} {t : TypeId} (h : Row W g c t) (j : Nat) (v : Value) : Row (W.setCell ⟨g, j, none⟩ v) g (c.setIfInBounds j v) t := heap_setCell_same _ _ _ _ _ _ h
theorem Row.set_other {W : World} {g k : Nat} {c : Array Value} {t : TypeId} (h : Row W g c t) (j : Nat) (v : Value) (hk : g ≠ k) : Row (W.setCell ⟨k, j, none⟩ v) g c t := (heap_setCell_other _ _ _ _ hk).trans h
/-- a whole struct out of a block whose row is known -/
theorem wpl_loadS {P : Program} {ops : Array Oper} {rest : List Oper} {o : Oper} {a : Act} {W : World} {Q : Exit → Act → World → Prop} {ty : TypeId} {x : Operand} {c : Array Value} {t : TypeId} {g : Nat}
    (ho : o.op = .load ty x) (hw : Region.wanted o (yielded ops a.tmps) = true) (hx : a.eval x = .pointer (some ⟨g, 0, none⟩)) (ha : (isAgg ty).run P W = .ok true W) (hr : Row W g c t) (hi : (P.info? ty).map (·.size) = some c.size)
    (h : wpList P ops Q rest (a.put o.dst (.agg c)) W) : wpList P ops Q (o :: rest) a W := by
  refine wpList_step fun K hK => ?_
  rw [if_pos hw]
  have hl := run_loadRow (P := P) W g t ty c 0 hr hi ha
  unfold Oper.wp execOp
  simp only [ho, hx, Instr.loadAt, Instr.sureAddr, Sem.run_bind, Sem.run_pure, Result.andThen_ok, hl]
  exact hK _ _ h
end Go.Proofs.Ytlbpmboknmbcgaa
