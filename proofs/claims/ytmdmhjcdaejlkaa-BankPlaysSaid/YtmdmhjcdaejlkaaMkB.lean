/- make([]byte, n) as a run equation. -/
import Derived.Test.YtmdmhjcdaejlkaaGA
import Derived.Laws.OwnMore
set_option linter.unusedVariables false
namespace Go.Proofs.Ytmdmhjcdaejlkaa
open Go.RowKit
theorem run_mkB (W : World) (n : Nat) (hn : n ≤ 140737488355328) : ∃ W', (Instr.makeSlice 24 (.int .i64 (n : Int)) (.int .i64 (n : Int))).run Try.prog W = .ok (.slice (some ⟨W.heap.size, 0, none⟩) n n) W' ∧ OwnB W' W.heap.size 5 (.slice (some ⟨W.heap.size, 0, none⟩) n n) (List.replicate n 0) ∧ Below W.heap.size W W' := by
  obtain ⟨i, h1, h2, h3, h4⟩ := info_parts8
  obtain ⟨W', hrun, ho, hgr⟩ := run_make_full (P := Try.prog) W W.heap.size 24 5 i (.int .u8 0) 1 Try.underlying24 h1 h2 h3 .i64 .i64 n (by rw [h4]; omega) (by unfold maxLen; omega) (Nat.le_refl _)
  refine ⟨W', hrun, ?_, ⟨hgr.os, hgr.tape, hgr.output, hgr.size, fun k hk => hgr.block k hk (by simp)⟩⟩
  unfold OwnB
  rw [List.length_replicate, bv_rep]
  have e : (madeCells (Value.int .u8 0).cells (n * 1)).toList = List.replicate n (.int .u8 0) := by
    rw [Nat.mul_one]; exact toList_madeCells_one _ _
  rwa [e] at ho
theorem run_mkR (W : World) (n : Nat) (hn : n ≤ 140737488355328) : ∃ W', (Instr.makeSlice 24 (.int .i64 (n : Int)) (.int .i64 (n : Int))).run Try.prog W = .ok (.slice (some ⟨W.heap.size, 0, none⟩) n n) W' ∧ RdB W' (some ⟨W.heap.size, 0, none⟩) n (List.replicate n 0) ∧ Below W.heap.size W W' := by
  obtain ⟨W', h1, h2, h3⟩ := run_mkB W n hn
  obtain ⟨A, c, e, _, _, hr⟩ := h2.form
  rw [List.length_replicate] at hr e
  cases e
  exact ⟨W', h1, hr, h3⟩
end Go.Proofs.Ytmdmhjcdaejlkaa
