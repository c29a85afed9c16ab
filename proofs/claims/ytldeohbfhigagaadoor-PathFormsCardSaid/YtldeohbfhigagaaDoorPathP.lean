/- Ways in a tree of buckets: plain mathematics. -/
import Derived.WalkKit
import Derived.WalkLawsBesides
import Derived.Lib.BitFns
namespace Go.Proofs.YtldeohbfhigagaaDoor

theorem land_pred_pow : ∀ n : Nat, 0 < n → n &&& (n - 1) = 0 → ∃ k, n = 2 ^ k := by
  intro n
  induction n using Nat.strongRecOn with
  | ind n ih =>
    intro h0 h
    have hd : n / 2 &&& (n - 1) / 2 = 0 := by rw [← Nat.and_div_two, h]
    rcases Nat.mod_two_eq_zero_or_one n with h2 | h2
    · have e : (n - 1) / 2 = n / 2 - 1 := by omega
      rw [e] at hd
      obtain ⟨k, hk⟩ := ih (n / 2) (by omega) (by omega) hd
      exact ⟨k + 1, by rw [Nat.pow_succ]; omega⟩
    · have e : (n - 1) / 2 = n / 2 := by omega
      rw [e, Nat.and_self] at hd
      exact ⟨0, by simp; omega⟩
/-- which power of two up to the most -/
def dpN (n : Int) : Option Nat := (List.range 17).find? fun k => n == ((2 ^ k : Nat) : Int)
theorem dpN_some {n : Int} {k : Nat} (h : dpN n = some k) : k < 17 ∧ n = ((2 ^ k : Nat) : Int) := by
  unfold dpN at h
  have h1 := List.mem_of_find?_eq_some h
  have h2 := List.find?_some h
  exact ⟨List.mem_range.1 h1, by simpa using h2⟩
theorem pow_inj2 {a b : Nat} (h : 2 ^ a = 2 ^ b) : a = b := (Nat.pow_right_inj (by decide)).1 h
theorem dpN_pow {k : Nat} (hk : k < 17) : dpN ((2 ^ k : Nat) : Int) = some k := by
  cases h : dpN ((2 ^ k : Nat) : Int) with
  | none =>
    unfold dpN at h
    have := List.find?_eq_none.1 h k (List.mem_range.2 hk)
    simp at this
  | some j =>
    obtain ⟨_, h2⟩ := dpN_some h
    have := pow_inj2 (Int.ofNat.inj h2)
    rw [this]
theorem dpN_none {n : Int} (h : dpN n = none) (h1 : 1 ≤ n) (h2 : n ≤ 65536) : n.toNat &&& (n.toNat - 1) ≠ 0 := by
  intro hz
  obtain ⟨k, hk⟩ := land_pred_pow n.toNat (by omega) hz
  have hk17 : k < 17 := by
    rcases Nat.lt_or_ge k 17 with c | c
    · exact c
    · have := Nat.pow_le_pow_right (show 0 < 2 by decide) c
      have e : 2 ^ 17 = 131072 := by decide
      omega
  have := dpN_pow hk17
  rw [← hk, show ((n.toNat : Nat) : Int) = n by omega, h] at this
  cases this
theorem pow17 {k : Nat} (hk : k < 17) : 1 ≤ 2 ^ k ∧ 2 ^ k ≤ 65536 := by
  have h1 := Nat.pow_le_pow_right (show 0 < 2 by decide) (show k ≤ 16 by omega)
  have h2 := Nat.two_pow_pos k
  have e : 2 ^ 16 = 65536 := by decide
  omega
def lvB (n : Int) : Bool := (dpN n).isSome
def dpF (n : Int) : Int := match dpN n with | some k => (k : Int) | none => 0
def buF (n : Int) : Int := match dpN n with | some _ => 2 * n - 1 | none => 0
/-- the bucket on a leaf's way at a level -/
def buk (k leaf level : Nat) : Int := ((2 ^ level - 1 + leaf / 2 ^ (k - level) : Nat) : Int)
/-- the bucket; none -/
def atF (n leaf level : Int) : Int × Bool := match dpN n with
  | some k => if 0 ≤ leaf ∧ leaf < n ∧ 0 ≤ level ∧ level ≤ k then (buk k leaf.toNat level.toNat, true) else (0, false)
  | none => (0, false)
/-- the whole way -/
def onL (k leaf : Nat) : List Int := (List.range (k + 1)).map (buk k leaf)
def onF (n leaf : Int) : List Int := match dpN n with
  | some k => if 0 ≤ leaf ∧ leaf < n then onL k leaf.toNat else []
  | none => []
def meF (n a b : Int) : Int := match dpN n with
  | some k => if (0 ≤ a ∧ a < n) ∧ 0 ≤ b ∧ b < n then (k : Int) - (Lib.bitLen (a.toNat ^^^ b.toNat) : Nat) else -1
  | none => -1
end Go.Proofs.YtldeohbfhigagaaDoor
