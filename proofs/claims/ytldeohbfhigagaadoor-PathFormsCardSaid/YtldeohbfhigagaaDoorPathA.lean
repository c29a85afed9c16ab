/- Contracts of draw.Leaves, path and of the reference's ways. -/
import Derived.Test.YtldeohbfhigagaaDoorProg
import Derived.Test.YtldeohbfhigagaaDoorPathP
import Derived.Test.YtldeohbfhigagaaDoorMem
import Derived.Lib.Hide
import Derived.Lib.BitFns
import Derived.Outline
set_option linter.unusedVariables false
set_option linter.unusedSimpArgs false
namespace Go.Proofs.YtldeohbfhigagaaDoor
open Go.RowKit

theorem and_i64 (a b : Nat) (ha : a < 9223372036854775808) (hb : b < 9223372036854775808) : bits .and .i64 (a : Int) (b : Int) = ((a &&& b : Nat) : Int) := by
  have h64 : (2 : Nat) ^ 64 = 18446744073709551616 := by decide
  have e1 : (BitVec.ofInt 64 (a : Int)).toNat = a := by rw [BitVec.toNat_ofInt]; omega
  have e2 : (BitVec.ofInt 64 (b : Int)).toNat = b := by rw [BitVec.toNat_ofInt]; omega
  show IntKind.i64.wrap ((BitVec.ofInt 64 (a : Int) &&& BitVec.ofInt 64 (b : Int)).toNat : Nat) = _
  rw [BitVec.toNat_and, e1, e2]
  have := Nat.and_le_left (n := a) (m := b)
  exact IntWalk.i64_in _ ⟨by omega, by omega⟩
theorem xor_i64 (a b : Nat) (ha : a < 65536) (hb : b < 65536) : bits .xor .i64 (a : Int) (b : Int) = ((a ^^^ b : Nat) : Int) ∧ a ^^^ b < 65536 := by
  have h64 : (2 : Nat) ^ 64 = 18446744073709551616 := by decide
  have e1 : (BitVec.ofInt 64 (a : Int)).toNat = a := by rw [BitVec.toNat_ofInt]; omega
  have e2 : (BitVec.ofInt 64 (b : Int)).toNat = b := by rw [BitVec.toNat_ofInt]; omega
  have hx : a ^^^ b < 2 ^ 16 := Nat.xor_lt_two_pow (by omega) (by omega)
  have e16 : (2 : Nat) ^ 16 = 65536 := by decide
  refine ⟨?_, by omega⟩
  show IntKind.i64.wrap ((BitVec.ofInt 64 (a : Int) ^^^ BitVec.ofInt 64 (b : Int)).toNat : Nat) = _
  rw [BitVec.toNat_xor, e1, e2]
  exact IntWalk.i64_in _ ⟨by omega, by omega⟩
def I64 (n : Int) : Prop := -9223372036854775808 ≤ n ∧ n ≤ 9223372036854775807
theorem lv_facts {n : Int} (h1 : 1 ≤ n) (h2 : n ≤ 65536) : (bits BinOp.and IntKind.i64 n (n - 1) == 0) = lvB n := by
  have e := and_i64 n.toNat (n.toNat - 1) (by omega) (by omega)
  rw [show ((n.toNat : Nat) : Int) = n by omega, show ((n.toNat - 1 : Nat) : Int) = n - 1 by omega] at e
  rw [e]
  unfold lvB
  cases h : dpN n with
  | none =>
    have := dpN_none h h1 h2
    simp only [Option.isSome_none, beq_eq_false_iff_ne]
    omega
  | some k =>
    obtain ⟨hk, hn⟩ := dpN_some h
    have hz : n.toNat &&& (n.toNat - 1) = 0 := by
      rw [hn, show (((2 ^ k : Nat) : Int)).toNat = 2 ^ k by omega]
      exact Nat.and_two_pow_sub_one_eq_mod (2 ^ k) k |>.trans (Nat.mod_self _)
    rw [hz]
    rfl
theorem lv_out {n : Int} (h : n < 1 ∨ 65536 < n) : lvB n = false := by
  unfold lvB
  cases hd : dpN n with
  | none => rfl
  | some k =>
    obtain ⟨hk, hn⟩ := dpN_some hd
    have := pow17 hk
    omega
theorem c_lv (n : Int) (w : World) (h : I64 n) : Calls Tryd.prog 25 #[.int .i64 n] w fun e w' => e = .returned (.bool (lvB n)) ∧ w = w' := by
  obtain ⟨h1, h2⟩ := h
  by_cases q1 : 1 ≤ n
  · by_cases q2 : n ≤ 65536
    · have hf := lv_facts q1 q2
      generalize lvB n = r at *
      cases r with
      | true =>
        go_enter Tryd.func25, Tryd.ntmps25
        go_wp2
        go_ret
        exact ⟨rfl, rfl⟩
      | false =>
        go_enter Tryd.func25, Tryd.ntmps25
        go_wp2
        go_ret
        exact ⟨rfl, rfl⟩
    · rw [lv_out (by omega)]
      go_enter Tryd.func25, Tryd.ntmps25
      go_wp2
      go_ret
      exact ⟨rfl, rfl⟩
  · rw [lv_out (by omega)]
    go_enter Tryd.func25, Tryd.ntmps25
    go_wp2
    go_ret
    exact ⟨rfl, rfl⟩
end Go.Proofs.YtldeohbfhigagaaDoor
