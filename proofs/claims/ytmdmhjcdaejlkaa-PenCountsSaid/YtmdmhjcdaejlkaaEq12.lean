/- '==' of two arrays of 12 bytes that are one. -/
import Derived.Test.YtmdmhjcdaejlkaaGA
import Derived.Laws.StructEq
set_option linter.unusedVariables false
namespace Go.Proofs.Ytmdmhjcdaejlkaa
open Go.RowKit
theorem len12 {l : List UInt8} (h : l.length = 12) : ∃ a b c d e f g i j k m n : UInt8, l = [a, b, c, d, e, f, g, i, j, k, m, n] := by
  match l, h with
  | [a, b, c, d, e, f, g, i, j, k, m, n], _ => exact ⟨a, b, c, d, e, f, g, i, j, k, m, n, rfl⟩
set_option maxRecDepth 100000 in
set_option maxHeartbeats 4000000 in
theorem eq12 (l : List UInt8) (h : l.length = 12) (w : World) : (Op.equalIn 10000 43 (.agg (bv l).toArray) (.agg (bv l).toArray)).run Try.prog w = .ok true w := by
  obtain ⟨x0, x1, x2, x3, x4, x5, x6, x7, x8, x9, x10, x11, rfl⟩ := len12 h
  have u3 := Try.underlying5
  have a3 := Try.isAgg5
  have z3 := Try.sizeOf5
  rw [show (10000 : Nat) = 9999 + 1 from rfl, Op.equalIn]
  simp only [Sem.run_bind, run_underlying Try.underlying43, Result.andThen_ok]
  simp only [bv, List.map_cons, List.map_nil]
  simp only [Std.Legacy.Range.forIn_eq_forIn_range', Std.Legacy.Range.size, Nat.sub_zero, Nat.add_sub_cancel, Nat.div_one, List.range'_succ, List.range'_zero, List.forIn_cons, List.forIn_nil]
  go_simp
end Go.Proofs.Ytmdmhjcdaejlkaa
