/- Numbers in bytes, the least first: plain mathematics over lists of bytes. -/
import Derived.Laws.BitsAllLaws
namespace Go.Proofs.Ytmdmhjcdaejlkaa

/-- the number of bytes, the least first -/
def leN (xs : List UInt8) : Nat := xs.foldr (fun b acc => acc * 256 + b.toNat) 0
/-- the lowest 'size' bytes of a number -/
def leP (n size : Nat) : List UInt8 := (List.range size).map fun i => UInt8.ofNat (n / 256 ^ i)

theorem leN_nil : leN [] = 0 := rfl
theorem leN_cons (b : UInt8) (xs : List UInt8) : leN (b :: xs) = leN xs * 256 + b.toNat := rfl
theorem leN_lt (xs : List UInt8) : leN xs < 256 ^ xs.length := by
  induction xs with
  | nil => simp [leN]
  | cons b xs ih =>
    rw [leN_cons, List.length_cons, Nat.pow_succ]
    have := b.toNat_lt
    omega
theorem leN_lt64 (xs : List UInt8) (h : xs.length ≤ 8) : leN xs < 18446744073709551616 :=
  Nat.lt_of_lt_of_le (leN_lt xs) (Nat.pow_le_pow_right (by omega) h)
theorem leN_append (xs ys : List UInt8) : leN (xs ++ ys) = leN xs + leN ys * 256 ^ xs.length := by
  induction xs with
  | nil => simp [leN]
  | cons b xs ih =>
    rw [List.cons_append, leN_cons, ih, leN_cons, List.length_cons, Nat.pow_succ, Nat.add_mul, Nat.mul_assoc]
    omega
theorem leP_length (n size : Nat) : (leP n size).length = size := by simp [leP]
theorem leP_zero (n : Nat) : leP n 0 = [] := rfl
theorem leP_snoc (n k : Nat) : leP n (k + 1) = leP n k ++ [UInt8.ofNat (n / 256 ^ k)] := by simp [leP, List.range_succ]
theorem leP_cons (n k : Nat) : leP n (k + 1) = UInt8.ofNat n :: leP (n / 256) k := by
  simp only [leP, List.range_succ_eq_map, List.map_cons, List.map_map, Nat.pow_zero, Nat.div_one]
  congr 1
  apply List.map_congr_left
  intro i _
  simp only [Function.comp, Nat.pow_succ, Nat.div_div_eq_div_mul, Nat.mul_comm]
theorem leN_leP (n k : Nat) : leN (leP n k) = n % 256 ^ k := by
  induction k generalizing n with
  | zero => simp [leP, leN, Nat.mod_one]
  | succ k ih =>
    rw [leP_cons, leN_cons, ih, Nat.pow_succ, Nat.mul_comm (256 ^ k) 256, Nat.mod_mul]
    have : (UInt8.ofNat n).toNat = n % 256 := by simp
    omega
theorem leN_leP64 (n : Nat) (h : n < 18446744073709551616) : leN (leP n 8) = n := by
  rw [leN_leP]; exact Nat.mod_eq_of_lt h
theorem leP_leN (xs : List UInt8) : leP (leN xs) xs.length = xs := by
  induction xs with
  | nil => rfl
  | cons b xs ih =>
    rw [List.length_cons, leP_cons, leN_cons]
    have e1 : (leN xs * 256 + b.toNat) / 256 = leN xs := by have := b.toNat_lt; omega
    have e2 : UInt8.ofNat (leN xs * 256 + b.toNat) = b := by
      apply UInt8.toNat_inj.1
      have := b.toNat_lt
      simp
    rw [e1, e2, ih]
theorem leP_inj {n m k : Nat} (h : leP n k = leP m k) : n % 256 ^ k = m % 256 ^ k := by
  rw [← leN_leP, ← leN_leP, h]
theorem or_byte (x : Nat) (b : UInt8) : (x * 256) ||| b.toNat = x * 256 + b.toNat :=
  nat_join 8 _ _ (by simp) (by have := b.toNat_lt; simpa using this)
end Go.Proofs.Ytmdmhjcdaejlkaa
