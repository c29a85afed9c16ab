/- make and copy on bytes of the call's own. -/
import Derived.Test.YtlbpmboknmbcgaaDR
import Derived.OwnWalk
import Derived.Laws.CopyOwn
import Derived.Laws.OwnMore
set_option linter.unusedVariables false
set_option linter.unusedSimpArgs false
namespace Go.Proofs.Ytlbpmboknmbcgaa
open Go.RowKit

theorem info_parts8 : ∃ i, Try.prog.info? 5 = some i ∧ i.zero = some (.int .u8 0) ∧ i.size = 1 ∧ i.bytes = 1 := by
  have h : (Try.prog.info? 5).map (fun i => (i.zero, i.size, i.bytes)) = some (some (.int .u8 0), 1, 1) := by kernel_rfl
  obtain ⟨i, h1, h2⟩ := Option.map_eq_some_iff.1 h
  simp only [Prod.mk.injEq] at h2
  exact ⟨i, h1, h2.1, h2.2.1, h2.2.2⟩
theorem bv_rep (n : Nat) : bv (List.replicate n 0) = List.replicate n (.int .u8 0) := by simp [bv]
/-- make([]byte, n) -/
theorem wpl_makeB {ops : Array Oper} {rest : List Oper} {o : Oper} {a : Act} {Q : Exit → Act → World → Prop} {W : World} {l c : Operand} {n : Nat} (hg : o.guard = none) (hop : o.op = Op.makeSlice 22 l c)
    (hl : a.eval l = .int .i64 (n : Int)) (hc : a.eval c = .int .i64 (n : Int)) (hn : n ≤ 140737488355328)
    (hK : ∀ W', OwnB W' W.heap.size 5 (.slice (some ⟨W.heap.size, 0, none⟩) n n) (List.replicate n 0) → Below W.heap.size W W' → W.heap.size < W'.heap.size → wpList Try.prog ops Q rest (a.put o.dst (.slice (some ⟨W.heap.size, 0, none⟩) n n)) W') :
    wpList Try.prog ops Q (o :: rest) a W := by
  obtain ⟨i, h1, h2, h3, h4⟩ := info_parts8
  refine wpList_make_full W hg l c 22 hop W.heap.size 5 i (.int .u8 0) 1 Try.underlying22 h1 h2 h3 .i64 .i64 n n n hl hc rfl rfl (by rw [h4]; omega) (by unfold maxLen; omega) (Nat.le_refl _) ?_
  intro W' ho hgr
  have ho' : OwnB W' W.heap.size 5 (.slice (some ⟨W.heap.size, 0, none⟩) n n) (List.replicate n 0) := by
    unfold OwnB
    rw [List.length_replicate, bv_rep]
    have e : (madeCells (Value.int .u8 0).cells (n * 1)).toList = List.replicate n (.int .u8 0) := by
      rw [Nat.mul_one]; exact toList_madeCells_one _ _
    rwa [e] at ho
  refine hK W' ho' ⟨hgr.os, hgr.tape, hgr.output, hgr.size, fun k hk => hgr.block k hk (by simp)⟩ ?_
  rcases ho.2 with ⟨h, _⟩ | ⟨g, cap, cur, hv, _, hh, _⟩
  · cases h
  · cases hv
    exact (Array.getElem?_eq_some_iff.1 hh).1
/-- what stands in the target behind copy -/
def copyL (xs ys : List UInt8) : List UInt8 := ys.take xs.length ++ xs.drop (min ys.length xs.length)
theorem copyL_length (xs ys : List UInt8) : (copyL xs ys).length = xs.length := by simp [copyL]; omega
theorem upd_refl {W : World} {g : Nat} {c : Array Value} {t : TypeId} (h : Row W g c t) : Upd g c t W W := ⟨h, fun _ _ => rfl, rfl, rfl, rfl, rfl⟩
/-- copy(dst, src): dst is the whole of a row of bytes that is known -/
theorem wpl_copyB {ops : Array Oper} {rest : List Oper} {o : Oper} {a : Act} {Q : Exit → Act → World → Prop} {W : World} {d s : Operand} {g cap : Nat} {xs ys : List UInt8} {A : Option Addr} {c : Nat} (hg : o.guard = none)
    (ho : o.op = .call { callee := .builtin .copy, args := #[d, s], argTypes := #[22, 22] }) (hd : a.eval d = .slice (some ⟨g, 0, none⟩) xs.length cap) (hs : a.eval s = .slice A ys.length c)
    (hrow : Row W g (bv xs).toArray 5) (hr : RdB W A ys.length ys)
    (hK : ∀ W' y, Upd g (bv (copyL xs ys)).toArray 5 W W' → wpList Try.prog ops Q rest (a.put o.dst y) W') :
    wpList Try.prog ops Q (o :: rest) a W := by
  have hsz : (Try.prog.info? 5).map (·.size) = some 1 := by kernel_rfl
  by_cases h0 : min ys.length xs.length = 0
  · refine wpList_copy_nothing hg d s _ _ ho 5 Try.underlying22 hsz _ _ _ _ _ _ hd hs h0 (hK W _ ?_)
    have e : copyL xs ys = xs := by
      unfold copyL
      rw [h0, List.drop_zero]
      rcases Nat.eq_zero_or_pos xs.length with h | h
      · rw [List.eq_nil_of_length_eq_zero h]; simp
      · have : ys = [] := List.eq_nil_of_length_eq_zero (by omega)
        subst this; simp
    rw [e]
    exact upd_refl hrow
  · have hpos : 0 < ys.length := by omega
    obtain ⟨ad, rfl, hc⟩ := hr.2 hpos
    refine wpList_copy_own hg d s _ _ ho 5 Try.underlying22 hsz g 0 _ _ ad _ _ hd hs _ _ hrow ((bv ys).take (min ys.length xs.length)) (by rw [List.length_take, bv_length]; show min (min _ _) _ = min _ _; omega) ?_ (by rw [List.length_take, bv_length, List.size_toArray, bv_length]; omega) ?_ ?_
    · intro j v hv
      refine hc j v ?_
      rw [List.getElem?_take] at hv
      by_cases hj : j < min ys.length xs.length
      · rw [if_pos hj] at hv; exact hv
      · rw [if_neg hj] at hv; cases hv
    · intro v hv
      exact bv_cells ys v (List.mem_of_mem_take hv)
    · refine hK _ _ ?_
      have e : (bv (copyL xs ys)) = (List.take 0 (bv xs).toArray.toList ++ ((bv ys).take (min ys.length xs.length) ++ List.drop (0 + ((bv ys).take (min ys.length xs.length)).length) (bv xs).toArray.toList)) := by
        rw [List.take_zero, List.nil_append, Nat.zero_add, List.length_take, bv_length, Nat.min_eq_left (by omega : min ys.length xs.length ≤ ys.length)]
        unfold copyL
        rw [bv_append, bv_take, bv_drop]
        have a1 : (bv ys).take xs.length = (bv ys).take (min ys.length xs.length) := by
          rcases Nat.le_total ys.length xs.length with h | h
          · rw [List.take_of_length_le (by rw [bv_length]; omega), List.take_of_length_le (by rw [bv_length]; omega)]
          · rw [Nat.min_eq_right h]
        rw [a1]
      rw [e]
      exact upd_set hrow
end Go.Proofs.Ytlbpmboknmbcgaa
