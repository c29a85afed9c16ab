/- 'n & mask' on an int, of whatever sign. -/
import Derived.WalkKit
namespace Go.Proofs.Ytmdmhjcdaejlkaa
theorem i64_mask (n : Int) (j : Nat) (hj : j ≤ 62) : bits .and .i64 n ((2 ^ j - 1 : Nat) : Int) = n % ((2 ^ j : Nat) : Int) := by
  have hp : 0 < 2 ^ j := Nat.two_pow_pos j
  have hp62 : 2 ^ j ≤ 2 ^ 62 := Nat.pow_le_pow_right (by decide) hj
  have h62 : (2 : Nat) ^ 62 = 4611686018427387904 := by decide
  have h64 : (2 : Nat) ^ 64 = 18446744073709551616 := by decide
  have e1 : (BitVec.ofInt 64 ((2 ^ j - 1 : Nat) : Int)).toNat = 2 ^ j - 1 := by
    rw [BitVec.toNat_ofInt]; omega
  have key : (BitVec.ofInt 64 n &&& BitVec.ofInt 64 ((2 ^ j - 1 : Nat) : Int)).toNat = (n % ((2 ^ 64 : Nat) : Int)).toNat % 2 ^ j := by
    rw [BitVec.toNat_and, BitVec.toNat_ofInt, e1, Nat.and_two_pow_sub_one_eq_mod]
  show IntKind.i64.wrap ((BitVec.ofInt 64 n &&& BitVec.ofInt 64 ((2 ^ j - 1 : Nat) : Int)).toNat : Nat) = _
  rw [key]
  have e2 : (((n % ((2 ^ 64 : Nat) : Int)).toNat % 2 ^ j : Nat) : Int) = n % ((2 ^ j : Nat) : Int) := by
    have hd : ((2 ^ j : Nat) : Int) ∣ ((2 ^ 64 : Nat) : Int) := by
      rw [show (64 : Nat) = j + (64 - j) by omega, Nat.pow_add]
      exact ⟨((2 ^ (64 - j) : Nat) : Int), by rw [Int.natCast_mul]⟩
    have h1 := Int.emod_nonneg n (b := ((2 ^ 64 : Nat) : Int)) (by omega)
    rw [Int.natCast_emod, Int.toNat_of_nonneg h1]
    exact Int.emod_emod_of_dvd n hd
  rw [e2]
  have h2 := Int.emod_nonneg n (b := ((2 ^ j : Nat) : Int)) (by omega)
  have h3 := Int.emod_lt_of_pos n (b := ((2 ^ j : Nat) : Int)) (by omega)
  exact IntWalk.i64_in _ ⟨by omega, by omega⟩
theorem m1 (n : Int) : bits .and .i64 n 1 = n % 2 := i64_mask n 1 (by decide)
theorem m3 (n : Int) : bits .and .i64 n 3 = n % 4 := i64_mask n 2 (by decide)
theorem m7 (n : Int) : bits .and .i64 n 7 = n % 8 := i64_mask n 3 (by decide)
theorem m15 (n : Int) : bits .and .i64 n 15 = n % 16 := i64_mask n 4 (by decide)
theorem m31 (n : Int) : bits .and .i64 n 31 = n % 32 := i64_mask n 5 (by decide)
theorem m63 (n : Int) : bits .and .i64 n 63 = n % 64 := i64_mask n 6 (by decide)
theorem m127 (n : Int) : bits .and .i64 n 127 = n % 128 := i64_mask n 7 (by decide)
theorem m255 (n : Int) : bits .and .i64 n 255 = n % 256 := i64_mask n 8 (by decide)
theorem m511 (n : Int) : bits .and .i64 n 511 = n % 512 := i64_mask n 9 (by decide)
theorem m1023 (n : Int) : bits .and .i64 n 1023 = n % 1024 := i64_mask n 10 (by decide)
theorem m4095 (n : Int) : bits .and .i64 n 4095 = n % 4096 := i64_mask n 12 (by decide)
theorem m65535 (n : Int) : bits .and .i64 n 65535 = n % 65536 := i64_mask n 16 (by decide)
end Go.Proofs.Ytmdmhjcdaejlkaa
