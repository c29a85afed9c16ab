/- XLinR in the relation 'below block B as it was, and at some cells': rules. -/
import Derived.Test.YtlbpmboknmbcgaaLinR
import Derived.Laws.Tables
import Derived.Laws.Rows
import Derived.Deep.WholeRow
set_option linter.unusedVariables false
set_option linter.unusedSimpArgs false
namespace Go.Proofs.Ytlbpmboknmbcgaa
open Go.RowKit

/-- below block B, and at the cells L, w' is as w was -/
structure RK (B : Nat) (L : List Addr) (w w' : World) : Prop where
  below : Below B w w'
  cells : ∀ a ∈ L, w'.cell? a = w.cell? a
theorem wayK (B : Nat) (L : List Addr) : Way (RK B L) :=
  ⟨fun w => ⟨Below.refl B w, fun _ _ => rfl⟩, fun h1 h2 => ⟨h1.below.trans h2.below, fun a ha => (h2.cells a ha).trans (h1.cells a ha)⟩, fun w => ⟨(Below.refl B w).drew, fun _ _ => rfl⟩⟩
theorem rk_refl (B : Nat) (L : List Addr) (w : World) : RK B L w w := ⟨Below.refl B w, fun _ _ => rfl⟩
theorem rk_drew (B : Nat) (L : List Addr) (w : World) : RK B L w w.drew := ⟨(Below.refl B w).drew, fun _ _ => rfl⟩
theorem rk_set {B : Nat} {L : List Addr} {w : World} {b o : Nat} (hB : B ≤ b) (hL : ∀ a ∈ L, (⟨b, o, none⟩ : Addr) ≠ a) (u : Value) : RK B L w (w.setCell ⟨b, o, none⟩ u) :=
  ⟨(Below.refl B w).setCell hB u, fun a ha => World.cell?_setCell_other _ _ _ _ (hL a ha)⟩
theorem rk_call {B : Nat} {L : List Addr} {w w' : World} (hB : B ≤ w.heap.size) (hL : ∀ a ∈ L, a.block < w.heap.size) (hb : Below w.heap.size w w') : RK B L w w' :=
  ⟨hb.mono hB, fun a ha => hb.cell (hL a ha)⟩
theorem keepK {B : Nat} {L : List Addr} {w w' : World} (hb : RK B L w w') {a : Addr} {v : Value} (h : a.block < B ∨ a ∈ L) (hc : w.cell? a = some v) : w'.cell? a = some v := by
  rcases h with h | h
  · exact (hb.below.cell h).trans hc
  · exact (hb.cells a h).trans hc

/-- W1 is W but for block g, which now holds the cells c -/
structure Upd (g : Nat) (c : Array Value) (t : TypeId) (W W1 : World) : Prop where
  row : W1.heap[g]? = some (.cells c t (0, 0))
  rest : ∀ k, k ≠ g → W1.heap[k]? = W.heap[k]?
  size : W1.heap.size = W.heap.size
  os : W1.os = W.os
  tape : W1.tape = W.tape
  output : W1.output = W.output
theorem Upd.below {g B : Nat} {c : Array Value} {t : TypeId} {W W1 : World} (h : Upd g c t W W1) (hB : B ≤ g) : Below B W W1 :=
  ⟨h.os, h.tape, h.output, by rw [h.size]; exact Nat.le_refl _, fun k hk => h.rest k (by omega)⟩
theorem upd_set {W : World} {g : Nat} {old c : Array Value} {t : TypeId} (hg : W.heap[g]? = some (.cells old t (0, 0))) : Upd g c t W (W.setRow g c) :=
  ⟨setRow_heap W g old c t _ hg, fun k hk => setRow_other W g k c hk, by simp, rfl, rfl, rfl⟩
/-- a whole struct stored into a block whose row is known -/
theorem wpl_storeS {P : Program} {ops : Array Oper} {rest : List Oper} {o : Oper} {a : Act} {W : World} {Q : Exit → Act → World → Prop} (hgd : o.guard = none) (ty : TypeId) (x y : Operand) (ho : o.op = .store ty x y)
    (g : Nat) (cells : Array Value) (hx : a.eval x = .pointer (some ⟨g, 0, none⟩)) (hy : a.eval y = .agg cells)
    (t : TypeId) (old : Array Value) (hg : W.heap[g]? = some (.cells old t (0, 0))) (hi : (P.info? ty).map (·.size) = some cells.size)
    (hold : old.size = cells.size) (h1 : cells.all (·.oneCell') = true)
    (h : ∀ W1, Upd g cells t W W1 → wpList P ops Q rest (a.put o.dst undef) W1) : wpList P ops Q (o :: rest) a W :=
  wpList_store_row hgd ty x y ho g cells hx hy t old hg hi hold h1 (h _ (upd_set hg))
/-- a struct in a result's block comes back as it stands there -/
theorem run_loadRow {P : Program} (W : World) (g : Nat) (t ty : TypeId) (c : Array Value) (n : Nat) (hg : W.heap[g]? = some (.cells c t (0, 0))) (hi : (P.info? ty).map (·.size) = some c.size) (ha : (isAgg ty).run P W = .ok true W) :
    (loadVar ty ⟨g, 0, none⟩).run P W = .ok (.agg c) W := by
  have hk := run_loadCells_list (P := P) W ⟨g, 0, none⟩ c.toList (fun j v hv => by
    have hadd : (⟨g, 0, none⟩ : Addr).add j = ⟨g, j, none⟩ := by unfold Addr.add; split <;> simp_all
    rw [hadd, cell_of_row _ _ j c t (0, 0) hg]
    simpa using hv)
  cases hq : P.info? ty with
  | none => simp [hq] at hi
  | some i =>
    have hs : i.size = c.size := by simp [hq] at hi; omega
    simp only [List.size_toArray, Array.length_toList, Array.toArray_toList] at hk
    simp [loadVar, ha, sizeOf, typeInfo, hq, hs, hk]
theorem results_cell1 {P : Program} {fn : Func} {tmps : Array Value} {W : World} {a : Tmp} {T : TypeId} {g : Nat} {c : Array Value} (h : fn.results = #[.cell a T]) (hp : tmps.getD a undef = .pointer (some ⟨g, 0, none⟩))
    (hl : (loadVar T ⟨g, 0, none⟩).run P W = .ok (.agg c) W) : (results fn tmps).run P W = .ok (.agg c) W := by
  rw [Array.getD_eq_getD_getElem?] at hp
  simp [results, h, hp, asAddr, hl]
theorem results_cell2 {P : Program} {fn : Func} {tmps : Array Value} {W : World} {a b : Tmp} {T : TypeId} {g : Nat} {c : Array Value} (h : fn.results = #[.cell a T, .tmp b]) (hp : tmps.getD a undef = .pointer (some ⟨g, 0, none⟩))
    (hl : (loadVar T ⟨g, 0, none⟩).run P W = .ok (.agg c) W) : (results fn tmps).run P W = .ok (.tuple #[.agg c, tmps.getD b undef]) W := by
  rw [Array.getD_eq_getD_getElem?] at hp
  simp [results, h, hp, asAddr, hl]
end Go.Proofs.Ytlbpmboknmbcgaa
