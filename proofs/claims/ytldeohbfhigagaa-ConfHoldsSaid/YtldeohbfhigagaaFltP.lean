/- What flot's functions answer, over the bits of doubles. Plain mathematics. -/
import Derived.Test.YtldeohbfhigagaaFlo
import Derived.Test.YtldeohbfhigagaaLeP
namespace Go.Proofs.Ytldeohbfhigagaa
open Flo

def nanB : Nat := 9221120237041090560
/-- a number, each NaN as the one -/
def oneB (b : Nat) : Nat := if isNaN b then nanB else b
/-- the order of numbers that are no NaN, -0 ahead of 0 -/
def lkey (x : Nat) : Int := 2 * key x + if sgn x then 0 else 1
def lessB (x y : Nat) : Bool := if isNaN x then false else if isNaN y then true else decide (lkey x < lkey y)
/-- a sum, each NaN as the one -/
def addB (x y : Nat) : Nat := match Ieee.double.add x y with
  | some r => oneB r
  | none => nanB
/-- x ≥ y -/
def geB (x y : Nat) : Bool := Ieee.double.order x y == some .gt || Ieee.double.order x y == some .eq

theorem ne_self (b : Nat) : (Ieee.double.order b b != some .eq) = isNaN b := by
  cases h : isNaN b
  · rw [order_eq b b h h, cmp_iff]; simp
  · rw [order_nan_l b b h]; rfl
theorem isNaN_nanB : isNaN nanB = true := by decide
theorem oneB_nan {b : Nat} (h : isNaN b = true) : oneB b = nanB := by simp [oneB, h]
theorem oneB_num {b : Nat} (h : isNaN b = false) : oneB b = b := by simp [oneB, h]
theorem oneB_one (b : Nat) : oneB (oneB b) = oneB b := by
  cases h : isNaN b
  · rw [oneB_num h, oneB_num h]
  · rw [oneB_nan h, oneB_nan isNaN_nanB]
theorem oneB_lt {b : Nat} (h : b < 18446744073709551616) : oneB b < 18446744073709551616 := by
  unfold oneB nanB; split <;> omega
theorem add_lt {x y r : Nat} (h : Ieee.double.add x y = some r) : r < 18446744073709551616 := Ieee.double.add_lt h
theorem addB_lt (x y : Nat) : addB x y < 18446744073709551616 := by
  unfold addB
  split
  · rename_i r h; exact oneB_lt (add_lt h)
  · decide
theorem addB_comm (x y : Nat) : addB x y = addB y x := by unfold addB; rw [add_comm']
theorem sgn_ge {x : Nat} (h : x < 18446744073709551616) : decide (9223372036854775808 ≤ x) = sgn x := by
  unfold sgn
  by_cases c : 9223372036854775808 ≤ x
  · have : x / 9223372036854775808 = 1 := by omega
    simp [c, this]
  · have : x / 9223372036854775808 = 0 := by omega
    simp [c, this]
/-- a number by its sign and rung -/
theorem of_sgn_rung {x y : Nat} (hx : x < 18446744073709551616) (hy : y < 18446744073709551616) (hs : sgn x = sgn y) (hr : rung x = rung y) : x = y := by
  rw [← sgn_ge hx, ← sgn_ge hy] at hs
  unfold rung at hr
  by_cases c : 9223372036854775808 ≤ x <;> by_cases d : 9223372036854775808 ≤ y <;> simp [c, d] at hs <;> omega
theorem lkey_inj {x y : Nat} (hx : x < 18446744073709551616) (hy : y < 18446744073709551616) (h : lkey x = lkey y) : x = y := by
  have hs : sgn x = sgn y := by
    unfold lkey at h
    cases a : sgn x <;> cases b : sgn y <;> simp [a, b] at h <;> first | rfl | omega
  refine of_sgn_rung hx hy hs ?_
  unfold lkey key at h
  rw [hs] at h
  cases b : sgn y <;> simp [b] at h <;> omega
theorem eq_key {x y : Nat} (hx : isNaN x = false) (hy : isNaN y = false) : (Ieee.double.order x y == some .eq) = decide (key x = key y) := by
  rw [order_eq x y hx hy, cmp_iff]
  by_cases c : key x < key y
  · rw [if_pos c]; simp; omega
  · by_cases d : key x = key y
    · rw [if_neg c, if_pos d]; simp [d]
    · rw [if_neg c, if_neg d]; simp [d]
theorem lt_key {x y : Nat} (hx : isNaN x = false) (hy : isNaN y = false) : (Ieee.double.order x y == some .lt) = decide (key x < key y) := by
  rw [order_eq x y hx hy, cmp_iff]
  by_cases c : key x < key y
  · rw [if_pos c]; simp [c]
  · rw [if_neg c]
    by_cases d : key x = key y
    · rw [if_pos d]; simp [c]
    · rw [if_neg d]; simp [c]
/-- the arms of Less -/
theorem less_nan_l {x y : Nat} (hx : isNaN x = true) : lessB x y = false := by simp [lessB, hx]
theorem less_nan_r {x y : Nat} (hx : isNaN x = false) (hy : isNaN y = true) : lessB x y = true := by simp [lessB, hx, hy]
theorem less_eq {x y : Nat} (hx : isNaN x = false) (hy : isNaN y = false) (h : key x = key y) : lessB x y = (sgn x && !sgn y) := by
  unfold lessB lkey
  rw [hx, hy, h]
  cases sgn x <;> cases sgn y <;> simp <;> omega
theorem less_ne {x y : Nat} (hx : isNaN x = false) (hy : isNaN y = false) (h : key x ≠ key y) : lessB x y = decide (key x < key y) := by
  unfold lessB lkey
  rw [hx, hy]
  simp only [Bool.false_eq_true, if_false, decide_eq_decide]
  split <;> split <;> omega
/-- both are zeros -/
theorem zero_key {x : Nat} (h : key x = 0) : rung x = 0 := by unfold key at h; split at h <;> omega
/-- the number of bytes -/
def ofB (xs : List UInt8) : Nat := if xs.length = 8 then oneB (leN xs) else 0
theorem ofB_lt (xs : List UInt8) : ofB xs < 18446744073709551616 := by
  unfold ofB
  split
  · rename_i h; exact oneB_lt (leN_lt64 xs (by omega))
  · decide
/-- the bits of whatever NaN the machine picks are a NaN's -/
theorem nan_pick (t : Nat) : isNaN ((t % 2) * 2 ^ 63 + 0x7ff0000000000000 + 1 + (t / 2) % (2 ^ 52 - 1)) = true := by
  unfold isNaN rung infR
  have h2 : t % 2 = 0 ∨ t % 2 = 1 := by omega
  have h3 : t / 2 % (2 ^ 52 - 1) < 4503599627370495 := Nat.mod_lt _ (by decide)
  generalize t / 2 % (2 ^ 52 - 1) = q at *
  rw [decide_eq_true_iff]
  rcases h2 with h | h <;> rw [h] <;> omega

/-! ### Part -/
/-- 2 ^ 40: the most that Part answers -/
def big : Nat := 1099511627776
/-- are k parts f at least n? -/
def enB (n f k : Nat) : Bool := decide (rI n ≤ RR 1074 (val (rI k) * val f))
/-- may n, f be? -/
def partOk (n : Int) (f : Nat) : Bool := decide (0 ≤ n ∧ n ≤ 1000000 ∧ 0 < f ∧ f ≤ 4607182418800017408)
/-- what Part answers -/
def PartIs0 (n : Int) (f : Nat) (k : Int) (ok : Bool) : Prop :=
  if partOk n f = true ∧ enB n.toNat f big = true then ok = true ∧ 0 ≤ k ∧ k ≤ (big : Nat) ∧ enB n.toNat f k.toNat = true ∧ (k = 0 ∨ enB n.toNat f (k.toNat - 1) = false)
  else k = 0 ∧ ok = false
structure PartIs (n : Int) (f : Nat) (k : Int) (ok : Bool) : Prop where mk :: (out : PartIs0 n f k ok)
theorem rI_big : rI big = 4787326403894837248 := by decide +kernel
theorem rI_mono {a b : Nat} (h : a ≤ b) : rI a ≤ rI b := RR_mono _ (Nat.mul_le_mul_right _ (Nat.mul_le_mul_right _ h))
theorem rI_fin {k : Nat} (h : k ≤ big) : rI k < infR := by
  have := rI_mono h; rw [rI_big] at this; unfold infR; omega
theorem RR_val_mono {a b c d : Nat} (h : a ≤ b) (g : c ≤ d) : RR 1074 (val a * val c) ≤ RR 1074 (val b * val d) :=
  RR_mono _ (Nat.mul_le_mul (val_le h) (val_le g))
theorem enB_mono {n m f g k l : Nat} (hn : m ≤ n) (hf : f ≤ g) (hk : k ≤ l) (h : enB n f k = true) : enB m g l = true := by
  unfold enB at *
  rw [decide_eq_true_iff] at *
  exact Nat.le_trans (rI_mono hn) (Nat.le_trans h (RR_val_mono (rI_mono hk) hf))
/-- Part's answer is one -/
theorem PartIs.le {n m : Int} {f g : Nat} {k l : Int} {o : Bool} (h : PartIs n f k true) (h' : PartIs m g l o) (hm : partOk m g = true) (hn : m ≤ n) (hf : f ≤ g) : o = true ∧ l ≤ k := by
  obtain ⟨h⟩ := h
  obtain ⟨h'⟩ := h'
  unfold PartIs0 at h h'
  split at h
  · rename_i hc
    obtain ⟨_, h0, h1, h2, h3⟩ := h
    have hm0 : 0 ≤ m := by unfold partOk at hm; rw [decide_eq_true_iff] at hm; omega
    have hb : enB m.toNat g big = true := enB_mono (by omega) hf (Nat.le_refl _) hc.2
    rw [if_pos ⟨hm, hb⟩] at h'
    obtain ⟨ho, g0, g1, g2, g3⟩ := h'
    refine ⟨ho, ?_⟩
    rcases g3 with g3 | g3
    · omega
    · rcases Int.lt_or_le k l with c | c
      · have := enB_mono (n := n.toNat) (m := m.toNat) (by omega) hf (show k.toNat ≤ l.toNat - 1 by omega) h2
        rw [this] at g3; cases g3
      · exact c
  · simp at h
theorem PartIs.same {n : Int} {f : Nat} {k l : Int} {a b : Bool} (h : PartIs n f k a) (h' : PartIs n f l b) : k = l ∧ a = b := by
  by_cases c : partOk n f = true ∧ enB n.toNat f big = true
  · have ha : a = true := by obtain ⟨h⟩ := h; unfold PartIs0 at h; rw [if_pos c] at h; exact h.1
    have hb : b = true := by obtain ⟨h'⟩ := h'; unfold PartIs0 at h'; rw [if_pos c] at h'; exact h'.1
    subst ha hb
    exact ⟨Int.le_antisymm (h'.le h c.1 (Int.le_refl _) (Nat.le_refl _)).2 (h.le h' c.1 (Int.le_refl _) (Nat.le_refl _)).2, rfl⟩
  · obtain ⟨h⟩ := h
    obtain ⟨h'⟩ := h'
    unfold PartIs0 at h h'
    rw [if_neg c] at h h'
    exact ⟨h.1.trans h'.1.symm, h.2.trans h'.2.symm⟩
theorem gt_key {x y : Nat} (hx : isNaN x = false) (hy : isNaN y = false) : (Ieee.double.order x y == some .gt) = decide (key y < key x) := by
  rw [order_eq x y hx hy, cmp_iff]
  rcases Int.lt_trichotomy (key x) (key y) with c | c | c
  · rw [if_pos c]; simp; omega
  · rw [if_neg (by omega), if_pos c]; simp; omega
  · rw [if_neg (by omega), if_neg (by omega)]; simp [c]
theorem le_key {x y : Nat} (hx : isNaN x = false) (hy : isNaN y = false) : (Ieee.double.order x y == some .lt || Ieee.double.order x y == some .eq) = decide (key x ≤ key y) := by
  rw [lt_key hx hy, eq_key hx hy, Bool.eq_iff_iff]
  simp; omega
theorem ge_key {x y : Nat} (hx : isNaN x = false) (hy : isNaN y = false) : (Ieee.double.order x y == some .gt || Ieee.double.order x y == some .eq) = decide (key y ≤ key x) := by
  rw [gt_key hx hy, eq_key hx hy, Bool.eq_iff_iff]
  simp; omega
theorem one_key : key 4607182418800017408 = 4607182418800017408 := by decide
theorem key_pos (f : Nat) (h : f < 18446744073709551616) (hN : isNaN f = false) : (0 < key f ∧ key f ≤ 4607182418800017408) ↔ (0 < f ∧ f ≤ 4607182418800017408) := by
  have hr : rung f ≤ infR := by simpa [isNaN] using hN
  unfold key
  rw [← sgn_ge h]
  unfold rung infR at *
  by_cases c : 9223372036854775808 ≤ f
  · simp only [c, decide_true, if_true]
    constructor
    · intro h; omega
    · intro h; omega
  · simp only [c, decide_false, Bool.false_eq_true, if_false]
    have e2 : f % 9223372036854775808 = f := by omega
    rw [e2]
    constructor
    · intro h; omega
    · intro h; omega
/-- the tests of Part, over words -/
theorem gt_zero (f : Nat) (h : f < 18446744073709551616) : (Ieee.double.order f 0 == some .gt && (Ieee.double.order f 4607182418800017408 == some .lt || Ieee.double.order f 4607182418800017408 == some .eq)) = decide (0 < f ∧ f ≤ 4607182418800017408) := by
  cases hN : isNaN f
  · rw [gt_key hN (by decide), le_key hN (by decide), one_key, show key 0 = 0 by decide, Bool.eq_iff_iff]
    simp only [Bool.and_eq_true, decide_eq_true_iff]
    exact key_pos f h hN
  · rw [order_nan_l f 0 hN, order_nan_l f _ hN]
    have hr : infR < rung f := by simpa [isNaN] using hN
    unfold rung infR at *
    have : ¬ (f ≤ 4607182418800017408) := by omega
    simp only [this, and_false, decide_false]
    rfl
theorem ge_small {r m : Nat} (hr : r ≤ infR) (hm : m ≤ infR) : geB r m = decide (m ≤ r) := by
  unfold geB
  rw [ge_key (nan_small r hr) (nan_small m hm), key_small r hr, key_small m hm, decide_eq_decide]
  omega

/-! ### the order of numbers by their words -/
theorem lkey_lo {a : Nat} (h : a < 9223372036854775808) : lkey a = 2 * (a : Int) + 1 := by
  have hs : sgn a = false := by rw [← sgn_ge (by omega), decide_eq_false_iff_not]; omega
  unfold lkey key rung
  rw [hs, show a % 9223372036854775808 = a by omega]
  simp
theorem lkey_hi {a : Nat} (h : 9223372036854775808 ≤ a) (h2 : a < 18446744073709551616) : lkey a = -2 * ((a : Int) - 9223372036854775808) := by
  have hs : sgn a = true := by rw [← sgn_ge (by omega), decide_eq_true_iff]; omega
  unfold lkey key rung
  rw [hs, show a % 9223372036854775808 = a - 9223372036854775808 by omega]
  simp; omega
theorem less_num {a b : Nat} (na : isNaN a = false) (nb : isNaN b = false) : lessB a b = decide (lkey a < lkey b) := by simp [lessB, na, nb]
theorem less_ll {a b : Nat} (na : isNaN a = false) (nb : isNaN b = false) (h : a < 9223372036854775808) (g : b < 9223372036854775808) : lessB a b = decide ((a : Int) < b) := by
  rw [less_num na nb, lkey_lo h, lkey_lo g, decide_eq_decide]; omega
theorem less_hh {a b : Nat} (na : isNaN a = false) (nb : isNaN b = false) (h : 9223372036854775808 ≤ a) (h2 : a < 18446744073709551616) (g : 9223372036854775808 ≤ b) (g2 : b < 18446744073709551616) : lessB a b = decide ((b : Int) < a) := by
  rw [less_num na nb, lkey_hi h h2, lkey_hi g g2, decide_eq_decide]; omega
theorem less_hl {a b : Nat} (na : isNaN a = false) (nb : isNaN b = false) (h : 9223372036854775808 ≤ a) (h2 : a < 18446744073709551616) (g : b < 9223372036854775808) : lessB a b = true := by
  rw [less_num na nb, lkey_hi h h2, lkey_lo g, decide_eq_true_iff]; omega
theorem less_lh {a b : Nat} (na : isNaN a = false) (nb : isNaN b = false) (h : a < 9223372036854775808) (g : 9223372036854775808 ≤ b) (g2 : b < 18446744073709551616) : lessB a b = false := by
  rw [less_num na nb, lkey_lo h, lkey_hi g g2, decide_eq_false_iff_not]; omega
end Go.Proofs.Ytldeohbfhigagaa
