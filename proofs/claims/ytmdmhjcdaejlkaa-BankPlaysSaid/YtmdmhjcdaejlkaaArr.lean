/- Whole arrays stored into the middle of a row that is known; rows of words. -/
import Derived.Test.YtmdmhjcdaejlkaaGA
import Derived.Laws.CopyRow
set_option linter.unusedVariables false
set_option linter.unusedSimpArgs false
namespace Go.Proofs.Ytmdmhjcdaejlkaa
open Go.RowKit

def spl (old : List Value) (o : Nat) (cs : List Value) : List Value := old.take o ++ cs ++ old.drop (o + cs.length)
theorem spl_length {old cs : List Value} {o : Nat} (h : o + cs.length ≤ old.length) : (spl old o cs).length = old.length := by simp [spl]; omega
theorem wp_storeMid {P : Program} {o : Oper} {a : Act} {W : World} {K : Act → World → Prop} {Q : Exit → Act → World → Prop} {ty : TypeId} {x y : Operand} {cells old : List Value} {t : TypeId} {g off : Nat}
    (ho : o.op = .store ty x y) (hx : a.eval x = .pointer (some ⟨g, off, none⟩)) (hy : a.eval y = .agg cells.toArray) (hr : Row W g old.toArray t) (hi : (P.info? ty).map (·.size) = some cells.length)
    (hold : off + cells.length ≤ old.length) (h1 : ∀ v ∈ cells, v.oneCell' = true)
    (h : ∀ W1, Upd g (spl old off cells).toArray t W W1 → K (a.put o.dst undef) W1) : o.wp P a W K Q := by
  have hs := run_storeCells_at (P := P) g off t cells 0 old.toArray W hr (by simpa using hold) h1
  have hst : (storeVar ty ⟨g, off, none⟩ (.agg cells.toArray)).run P W = .ok () (W.setRow g (spl old off cells).toArray) := by
    cases hq : P.info? ty with
    | none => rw [hq] at hi; cases hi
    | some i =>
      rw [hq] at hi
      have hsz : i.size = cells.length := by simpa using hi
      simp only [Nat.add_zero, List.toList_toArray] at hs
      simp [storeVar, sizeOf, typeInfo, hq, Value.cells, hsz, hs, spl]
  unfold Oper.wp execOp
  simp only [ho, hx, hy, Instr.storeAt, Instr.sureAddr, Sem.run_bind, Sem.run_pure, Result.andThen_ok, hst]
  exact h _ (upd_set hr)
theorem wpl_storeMid {P : Program} {ops : Array Oper} {rest : List Oper} {o : Oper} {a : Act} {W : World} {Q : Exit → Act → World → Prop} {ty : TypeId} {x y : Operand} {cells old : List Value} {t : TypeId} {g off : Nat} (hgd : o.guard = none)
    (ho : o.op = .store ty x y) (hx : a.eval x = .pointer (some ⟨g, off, none⟩)) (hy : a.eval y = .agg cells.toArray) (hr : Row W g old.toArray t) (hi : (P.info? ty).map (·.size) = some cells.length)
    (hold : off + cells.length ≤ old.length) (h1 : ∀ v ∈ cells, v.oneCell' = true)
    (h : ∀ W1, Upd g (spl old off cells).toArray t W W1 → wpList P ops Q rest (a.put o.dst undef) W1) : wpList P ops Q (o :: rest) a W :=
  wpList_plain hgd fun _ hK => wp_storeMid ho hx hy hr hi hold h1 fun W1 h1 => hK _ _ (h W1 h1)
/-- one cell stored into a row that is known -/
theorem wp_storeY {P : Program} {o : Oper} {a : Act} {W : World} {K : Act → World → Prop} {Q : Exit → Act → World → Prop} {ty : TypeId} {x y : Operand} {v : Value} {t : TypeId} {old : Array Value} {g j : Nat}
    (ho : o.op = .store ty x y) (hx : a.eval x = .pointer (some ⟨g, j, none⟩)) (hy : a.eval y = v) (hi : (P.info? ty).map (·.size) = some 1)
    (hc : v.cells = #[v]) (h1 : v.oneCell' = true) (hr : Row W g old t) (hold : j < old.size)
    (h : ∀ W1, Upd g (old.setIfInBounds j v) t W W1 → K (a.put o.dst undef) W1) : o.wp P a W K Q := by
  have hcell : W.cell? ⟨g, j, none⟩ = some old[j] := hr.cell j (by simp [hold])
  have hfro : W.frozen? ⟨g, j, none⟩ = false := hr.free j
  have hst : (storeVar ty ⟨g, j, none⟩ v).run P W = .ok () (W.setRow g (old.setIfInBounds j v)) := by
    have hadd : (⟨g, j, none⟩ : Addr).add 0 = ⟨g, j, none⟩ := rfl
    cases hq : P.info? ty with
    | none => simp [hq] at hi
    | some i =>
      have hs : i.size = 1 := by simpa [hq] using hi
      simp [storeVar, sizeOf, typeInfo, hq, hc, hs, storeCells, hadd, run_store P _ _ v _ h1, hcell, hfro, setCell_eq_setRow _ _ j old t (0, 0) v hr]
  unfold Oper.wp execOp
  simp only [ho, hx, hy, Instr.storeAt, Instr.sureAddr, Sem.run_bind, Sem.run_pure, Result.andThen_ok, hst]
  exact h _ (upd_set hr)
theorem wpl_storeY' {P : Program} {ops : Array Oper} {rest : List Oper} {o : Oper} {a : Act} {W : World} {Q : Exit → Act → World → Prop} {ty : TypeId} {x y : Operand} {v : Value} {t : TypeId} {old : Array Value} {g j : Nat} (hgd : o.guard = none)
    (ho : o.op = .store ty x y) (hx : a.eval x = .pointer (some ⟨g, j, none⟩)) (hy : a.eval y = v) (hi : (P.info? ty).map (·.size) = some 1)
    (hc : v.cells = #[v]) (h1 : v.oneCell' = true) (hr : Row W g old t) (hold : j < old.size)
    (h : ∀ W1, Upd g (old.setIfInBounds j v) t W W1 → wpList P ops Q rest (a.put o.dst undef) W1) : wpList P ops Q (o :: rest) a W :=
  wpList_plain hgd fun _ hK => wp_storeY ho hx hy hi hc h1 hr hold fun W1 h1 => hK _ _ (h W1 h1)
/-- a row of words -/
def wv (s : List Int) : List Value := s.map (.int .u32)
theorem wv_length (s : List Int) : (wv s).length = s.length := by simp [wv]
theorem wv_get (s : List Int) (j : Nat) : (wv s)[j]? = s[j]?.map (.int .u32) := by simp [wv]
theorem wv_cells (s : List Int) : ∀ u ∈ wv s, u.oneCell' = true := by
  intro u hu
  obtain ⟨n, _, rfl⟩ := List.mem_map.1 hu
  rfl
theorem wv_all (s : List Int) : (wv s).toArray.all (·.oneCell') = true := Array.all_eq_true_iff_forall_mem.2 (fun v hv => wv_cells s v (by simpa using hv))
theorem bv_all (s : List UInt8) : (bv s).toArray.all (·.oneCell') = true := Array.all_eq_true_iff_forall_mem.2 (fun v hv => bv_cells s v (by simpa using hv))
theorem wv_set (s : List Int) (j : Nat) (x : Int) : (wv s).toArray.setIfInBounds j (.int .u32 x) = (wv (s.set j x)).toArray := by simp [wv, List.map_set]
theorem wv_cell {W : World} {g : Nat} {s : List Int} {T : TypeId} (h : Row W g (wv s).toArray T) {j : Nat} (hj : j < s.length) : W.cell? ⟨g, j, none⟩ = some (.int .u32 (s.getD j 0)) := by
  refine h.cell j ?_
  rw [List.getElem?_toArray, wv_get, List.getElem?_eq_getElem hj, List.getD_eq_getElem?_getD, List.getElem?_eq_getElem hj]
  rfl
theorem bv_cell {W : World} {g : Nat} {s : List UInt8} {T : TypeId} (h : Row W g (bv s).toArray T) {j : Nat} (hj : j < s.length) : W.cell? ⟨g, j, none⟩ = some (.int .u8 ((s.getD j 0).toNat : Int)) := by
  refine h.cell j ?_
  rw [List.getElem?_toArray, bv_get, List.getElem?_eq_getElem hj, List.getD_eq_getElem?_getD, List.getElem?_eq_getElem hj]
  rfl
/-- part of a row of bytes, as a slice reads it -/
theorem row_part {W : World} {g : Nat} {s : List UInt8} {T : TypeId} (h : Row W g (bv s).toArray T) (o n : Nat) (hn : o + n ≤ s.length) : RdB W (some ⟨g, o, none⟩) n ((s.drop o).take n) := by
  refine ⟨by rw [bv_length, List.length_take, List.length_drop]; omega, fun h0 => ⟨_, rfl, fun j v hv => ?_⟩⟩
  rw [ad_none]
  refine h.cell (o + j) ?_
  rw [bv_get, List.getElem?_take] at hv
  rw [List.getElem?_toArray, bv_get]
  split at hv
  · rw [List.getElem?_drop] at hv; exact hv
  · cases hv
/-- an array of cells of one each, cut through a pointer -/
theorem slice_arr {P : Program} {t e : TypeId} {N : Nat} (ht : P.underlying t = some (.array N e)) (hs : (P.info? e).map (·.size) = some 1) (g : Nat) (x y : Int) (l h : Nat) (hx : x = (l : Int)) (hy : y = (h : Int)) (hl : l < N) (hlh : l ≤ h) (hh : h ≤ N) :
    ∀ W, (Instr.sliceAt t (.pointer (some ⟨g, 0, none⟩)) (some (.int .i64 x)) (some (.int .i64 y)) none).run P W = .ok (.slice (some ⟨g, l, none⟩) (h - l) (N - l)) W := by
  intro W
  have he : P.elem t = e := by unfold Program.elem; rw [ht]
  have hn : P.arrayLen t = N := by unfold Program.arrayLen; rw [ht]
  have hsz : (sizeOf e).run P W = .ok 1 W := by
    cases hq : P.info? e with
    | none => rw [hq] at hs; cases hs
    | some i => rw [hq] at hs; simp at hs; simp [sizeOf, typeInfo, hq, hs]
  have := run_sliceAt_array_lh (P := P) W t ⟨g, 0, none⟩ (by rw [hn, he]; exact ht) .i64 .i64 x y (by omega) (by omega) (by rw [hn]; omega)
  rw [this, hn, he, hsz]
  subst hx hy
  simp only [Result.andThen_ok, slicedAt, Int.toNat_natCast, Nat.mul_one]
  rw [if_neg (by omega), ad_none, Nat.zero_add]
theorem slice_arr_from {P : Program} {t e : TypeId} {N : Nat} (ht : P.underlying t = some (.array N e)) (hs : (P.info? e).map (·.size) = some 1) (g : Nat) (x : Int) (l : Nat) (hx : x = (l : Int)) (hl : l < N) :
    ∀ W, (Instr.sliceAt t (.pointer (some ⟨g, 0, none⟩)) (some (.int .i64 x)) none none).run P W = .ok (.slice (some ⟨g, l, none⟩) (N - l) (N - l)) W := by
  intro W
  have he : P.elem t = e := by unfold Program.elem; rw [ht]
  have hn : P.arrayLen t = N := by unfold Program.arrayLen; rw [ht]
  have hsz : (sizeOf e).run P W = .ok 1 W := by
    cases hq : P.info? e with
    | none => rw [hq] at hs; cases hs
    | some i => rw [hq] at hs; simp at hs; simp [sizeOf, typeInfo, hq, hs]
  have := run_sliceAt_array_l (P := P) W t ⟨g, 0, none⟩ (by rw [hn, he]; exact ht) .i64 x (by omega) (by rw [hn]; omega)
  rw [this, hn, he, hsz]
  subst hx
  simp only [Result.andThen_ok, slicedAt, Int.toNat_natCast, Nat.mul_one]
  rw [if_neg (by omega), ad_none, Nat.zero_add]
end Go.Proofs.Ytmdmhjcdaejlkaa
