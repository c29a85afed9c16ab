/- What Part answers of whole numbers, of the thousand Fills and of Fills that are none. Plain mathematics. -/
import Derived.Test.YtldeohbfhigagaaTbl
namespace Go.Proofs.Ytldeohbfhigagaa
open Flo

theorem pow_split (a b c : Nat) (h : a + b = c) : 2 ^ c = 2 ^ a * 2 ^ b := by rw [← h, Nat.pow_add]
theorem pow_join (k a b c : Nat) (h : a + b = c) : k * 2 ^ a * 2 ^ b = k * 2 ^ c := by rw [← h, Nat.pow_add, Nat.mul_assoc]
/-- a whole number below 2 ^ 53 is a double -/
theorem rI_val {k : Nat} (h : k < 9007199254740992) (E : Nat) (hE : E = 1074) : val (rI k) = k * 2 ^ E := by
  rcases Nat.eq_zero_or_pos k with h0 | h0
  · subst h0
    have : rI 0 = 0 := by decide +kernel
    rw [this, Nat.zero_mul, val_zero]
  · have hL : k.log2 ≤ 52 := by
      have : k.log2 < 53 := (Nat.log2_lt (by omega)).2 (by rw [show (2 : Nat) ^ 53 = 9007199254740992 by decide]; exact h)
      omega
    generalize hl : k.log2 = L at hL
    have e0 : 52 - L + (L + 1022) = E := by rw [hE]; omega
    have e00 : L + (52 - L) = 52 := by omega
    have e01 : L + 1 + (52 - L) = 53 := by omega
    have hlo : 2 ^ L ≤ k := by rw [← hl]; exact Nat.log2_self_le (by omega)
    have hhi : k < 2 ^ (L + 1) := by rw [← hl]; exact Nat.lt_log2_self
    have h52 : (4503599627370496 : Nat) = 2 ^ L * 2 ^ (52 - L) := by rw [← Nat.pow_add, e00]
    have h53 : (9007199254740992 : Nat) = 2 ^ (L + 1) * 2 ^ (52 - L) := by rw [← Nat.pow_add, e01]
    have hp : 0 < 2 ^ (52 - L) := Nat.two_pow_pos _
    have hm : 4503599627370496 ≤ k * 2 ^ (52 - L) := by rw [h52]; exact Nat.mul_le_mul_right _ hlo
    have hM : k * 2 ^ (52 - L) < 9007199254740992 := by rw [h53]; exact Nat.mul_lt_mul_of_pos_right hhi hp
    generalize hT : k * 2 ^ (52 - L) = T at hm hM
    clear h52 h53 hlo hhi hp
    have hval : val ((L + 1023) * 4503599627370496 + (T - 4503599627370496)) = k * 2 ^ E := by
      unfold val vmag vpl
      have c : ¬ (L + 1023) * 4503599627370496 + (T - 4503599627370496) < 4503599627370496 := by omega
      rw [if_neg c, if_neg c]
      have e1 : ((L + 1023) * 4503599627370496 + (T - 4503599627370496)) % 4503599627370496 = T - 4503599627370496 := by omega
      have e2 : ((L + 1023) * 4503599627370496 + (T - 4503599627370496)) / 4503599627370496 = L + 1023 := by omega
      have e3 : 4503599627370496 + (T - 4503599627370496) = T := by omega
      have e4 : L + 1023 - 1 = L + 1022 := by omega
      have e5 := pow_join k (52 - L) (L + 1022) E e0
      rw [hT] at e5
      rw [e1, e2, e3, e4]
      exact e5
    have hr : (L + 1023) * 4503599627370496 + (T - 4503599627370496) ≤ infR := by unfold infR; omega
    have hq := RR_val 1074 _ hr
    rw [hval] at hq
    have hz : rI k = (L + 1023) * 4503599627370496 + (T - 4503599627370496) := by
      subst hE
      exact hq
    rw [hz, hval]
theorem val_one : val 4607182418800017408 = 2 ^ 1074 := by decide +kernel
/-- of a whole Fill they are the number -/
theorem enB_one (n k : Nat) (hn : n ≤ 65535) (hk : k ≤ 65535) : enB n 4607182418800017408 k = decide (n ≤ k) := by
  unfold enB
  rw [val_one, RR_val 1074 (rI k) (rI_le k), decide_eq_decide]
  constructor
  · intro h
    have := val_le h
    obtain ⟨E, hE⟩ : ∃ E : Nat, E = 1074 := ⟨_, rfl⟩
    rw [rI_val (k := n) (by omega) E hE, rI_val (k := k) (by omega) E hE] at this
    exact Nat.le_of_mul_le_mul_right this (Nat.two_pow_pos E)
  · exact rI_mono
theorem enB_all : enB 65535 4562254508917369340 big = true := by decide +kernel
theorem ok_tbl (n i : Nat) (hn : n ≤ 65535) (hi : i < 1000) : partOk n (tblF i) = true ∧ enB n (tblF i) big = true := by
  have ht := tbl_pos hi
  refine ⟨?_, enB_mono hn ht.2.2 (Nat.le_refl _) enB_all⟩
  unfold partOk
  rw [decide_eq_true_iff]
  exact ⟨by omega, by omega, ht.1, ht.2.1⟩
/-- Part answers of any of the thousand -/
theorem tbl_true {n i : Nat} {k : Int} {o : Bool} (hn : n ≤ 65535) (hi : i < 1000) (h : PartIs n (tblF i) k o) : o = true := by
  obtain ⟨h⟩ := h
  unfold PartIs0 at h
  rw [if_pos (by simpa using ok_tbl n i hn hi)] at h
  exact h.1
theorem part_one {n : Nat} {k : Int} {o : Bool} (hn : n ≤ 65535) (h : PartIs n 4607182418800017408 k o) : k = n ∧ o = true := by
  have h1 : partOk n 4607182418800017408 = true := by unfold partOk; rw [decide_eq_true_iff]; omega
  have h2 : enB n 4607182418800017408 big = true := by
    have := enB_one n n hn hn
    rw [decide_eq_true (Nat.le_refl n)] at this
    exact enB_mono (Nat.le_refl _) (Nat.le_refl _) (by unfold big; omega) this
  have h3 : PartIs n 4607182418800017408 n true := by
    refine ⟨?_⟩
    unfold PartIs0
    rw [if_pos (by simpa using ⟨h1, h2⟩)]
    refine ⟨rfl, by omega, by unfold big; omega, ?_, ?_⟩
    · show enB n _ n = true
      rw [enB_one n n hn hn]; simp
    · rcases Nat.eq_zero_or_pos n with h0 | h0
      · left; omega
      · right
        show enB n _ (n - 1) = false
        rw [enB_one n (n - 1) hn (by omega)]; simp; omega
  exact h.same h3
theorem part_none {n k : Int} {f : Nat} {o : Bool} (h : PartIs n f k o) (hb : partOk n f = false) : k = 0 ∧ o = false := by
  obtain ⟨h⟩ := h
  unfold PartIs0 at h
  rw [if_neg (by rw [hb]; simp)] at h
  exact h
theorem part_far {n k : Int} {f : Nat} {o : Bool} (h : PartIs n f k o) (hb : enB n.toNat f big = false) : k = 0 ∧ o = false := by
  obtain ⟨h⟩ := h
  unfold PartIs0 at h
  rw [if_neg (by rw [hb]; simp)] at h
  exact h
theorem thin_no : enB 1000000 103582791429521408 big = false := by decide +kernel
/-- the order of the thousand -/
theorem tbl_lt {i j : Nat} (h : i < j) (hj : j < 1000) : Ieee.double.order (tblF i) (tblF j) = some .lt := by
  have hi : i < 1000 := by omega
  have h1 := tbl_pos hi
  have h2 := tbl_pos hj
  have hs : tblF i < tblF j := Nat.lt_of_lt_of_le (tbl_step (by omega)) (tbl_mono h hj)
  rw [order_eq _ _ (nan_small _ (by unfold infR; omega)) (nan_small _ (by unfold infR; omega)), key_small _ (by unfold infR; omega), key_small _ (by unfold infR; omega), cmp_iff, if_pos (by omega)]
theorem tbl_gt {i j : Nat} (h : j < i) (hi : i < 1000) : Ieee.double.order (tblF i) (tblF j) = some .gt := by
  have hj : j < 1000 := by omega
  have h1 := tbl_pos hi
  have h2 := tbl_pos hj
  have hs : tblF j < tblF i := Nat.lt_of_lt_of_le (tbl_step (by omega)) (tbl_mono h hi)
  rw [order_eq _ _ (nan_small _ (by unfold infR; omega)) (nan_small _ (by unfold infR; omega)), key_small _ (by unfold infR; omega), key_small _ (by unfold infR; omega), cmp_iff, if_neg (by omega), if_neg (by omega)]
theorem tbl_eq {i : Nat} (hi : i < 1000) : Ieee.double.order (tblF i) (tblF i) = some .eq := by
  have h1 := tbl_pos hi
  rw [order_eq _ _ (nan_small _ (by unfold infR; omega)) (nan_small _ (by unfold infR; omega)), cmp_iff, if_neg (by omega), if_pos rfl]
end Go.Proofs.Ytldeohbfhigagaa
