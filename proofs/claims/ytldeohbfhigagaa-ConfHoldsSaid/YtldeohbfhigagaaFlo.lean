/- Doubles by their words: their order, rounding, sums and products, over Ieee. Plain mathematics: no Go in sight. -/
import GoSem.Core.Float
import Derived.Laws.FloatBits
import Derived.Laws.FloatArith
namespace Go.Proofs.Ytldeohbfhigagaa.Flo
open Ieee Go

/-! ### rungs and values of doubles -/
def vmag (r : Nat) : Nat := if r < 4503599627370496 then r else 4503599627370496 + r % 4503599627370496
def vpl (r : Nat) : Nat := if r < 4503599627370496 then 0 else r / 4503599627370496 - 1
def val (r : Nat) : Nat := vmag r * 2 ^ vpl r
def infR : Nat := 9218868437227405312

theorem val_succ (r : Nat) : val r < val (r + 1) := by
  unfold val vmag vpl
  by_cases h1 : r + 1 < 4503599627370496
  · rw [if_pos h1, if_pos h1, if_pos (by omega), if_pos (by omega)]; simp
  · by_cases h2 : r < 4503599627370496
    · have : r = 4503599627370495 := by omega
      subst this; decide
    · rw [if_neg h1, if_neg h1, if_neg h2, if_neg h2]
      by_cases h3 : r % 4503599627370496 + 1 < 4503599627370496
      · have e1 : (r + 1) / 4503599627370496 = r / 4503599627370496 := by omega
        have e2 : (r + 1) % 4503599627370496 = r % 4503599627370496 + 1 := by omega
        rw [e1, e2]
        exact Nat.mul_lt_mul_of_pos_right (by omega) (Nat.two_pow_pos _)
      · have e1 : (r + 1) / 4503599627370496 = r / 4503599627370496 + 1 := by omega
        have e2 : (r + 1) % 4503599627370496 = 0 := by omega
        have e3 : r / 4503599627370496 + 1 - 1 = (r / 4503599627370496 - 1) + 1 := by omega
        rw [e1, e2, e3, Nat.pow_succ, Nat.mul_comm _ 2, ← Nat.mul_assoc]
        exact Nat.mul_lt_mul_of_pos_right (by omega) (Nat.two_pow_pos _)

theorem val_lt {a b : Nat} (h : a < b) : val a < val b := by
  induction b with
  | zero => omega
  | succ b ih =>
    by_cases e : a = b
    · subst e; exact val_succ a
    · exact Nat.lt_trans (ih (by omega)) (val_succ b)
theorem val_le {a b : Nat} (h : a ≤ b) : val a ≤ val b := by
  rcases Nat.lt_or_eq_of_le h with h | h
  · exact Nat.le_of_lt (val_lt h)
  · subst h; exact Nat.le_refl _
theorem lt_of_val {a b : Nat} (h : val a < val b) : a < b := by
  by_cases c : a < b
  · exact c
  · have := val_le (show b ≤ a by omega); omega
theorem le_of_val {a b : Nat} (h : val a ≤ val b) : a ≤ b := by
  by_cases c : a ≤ b
  · exact c
  · have := val_lt (show b < a by omega); omega
theorem val_inj {a b : Nat} (h : val a = val b) : a = b := by
  have := le_of_val (Nat.le_of_eq h); have := le_of_val (Nat.le_of_eq h.symm); omega
theorem val_zero : val 0 = 0 := by decide

/-! ### reading a word -/
def sgn (x : Nat) : Bool := x / 9223372036854775808 % 2 == 1
def rung (x : Nat) : Nat := x % 9223372036854775808
/-- a word that is no NaN stands in the order of these -/
def key (x : Nat) : Int := if sgn x then -(rung x : Int) else (rung x : Int)
def isNaN (x : Nat) : Bool := decide (infR < rung x)

theorem d_sw : double.signWeight = 9223372036854775808 := by decide
theorem d_bin : double.binade = 4503599627370496 := by decide
theorem d_inf : double.infRung = 9218868437227405312 := by decide
theorem d_lp : double.leastPlace = -1074 := by decide

theorem read_num (x : Nat) (h : rung x < infR) : double.read x = .number (sgn x) (vmag (rung x)) (-1074 + (vpl (rung x) : Int)) := by
  unfold Format.read vmag vpl
  simp only [d_sw, d_bin, d_inf, d_lp]
  unfold rung infR at *
  unfold sgn
  by_cases c : x % 9223372036854775808 < 4503599627370496
  · rw [if_pos c, if_pos c, if_pos c]; rfl
  · rw [if_neg c, if_neg c, if_neg c, if_pos h]
theorem read_inf (x : Nat) (h : rung x = infR) : double.read x = .infinity (sgn x) := by
  unfold Format.read
  simp only [d_sw, d_bin, d_inf, d_lp]
  unfold rung infR at *
  unfold sgn
  rw [if_neg (by omega), if_neg (by omega), if_pos h]
theorem read_nan (x : Nat) (h : infR < rung x) : double.read x = .nan (sgn x) (rung x - infR) := by
  unfold Format.read
  simp only [d_sw, d_bin, d_inf, d_lp]
  unfold rung infR at *
  unfold sgn
  rw [if_neg (by omega), if_neg (by omega), if_neg (by omega)]

/-! ### the order -/
theorem compare_mul (a b c : Int) (hc : 0 < c) : compare (a * c) (b * c) = compare a b := by
  have h : ∀ x y : Int, compare x y = if x < y then .lt else if x = y then .eq else .gt := fun x y => by
    simp [compare, compareOfLessAndEq]
  rw [h, h]
  have h1 : a * c < b * c ↔ a < b := Int.mul_lt_mul_right hc
  have h2 : a * c = b * c ↔ a = b := ⟨fun e => Int.eq_of_mul_eq_mul_right (by omega) e, fun e => by rw [e]⟩
  simp only [h1, h2]
theorem cmp_iff (x y : Int) : compare x y = if x < y then .lt else if x = y then .eq else .gt := by
  simp [compare, compareOfLessAndEq]

def sv (s : Bool) (n : Nat) : Int := if s then -(n : Int) else (n : Int)
theorem signed_scale (s : Bool) (m a b : Nat) : signed s m a * ((2 ^ b : Nat) : Int) = sv s (m * 2 ^ (a + b)) := by
  unfold signed sv
  rw [Nat.shiftLeft_eq, Nat.pow_add, ← Nat.mul_assoc]
  cases s
  · simp
  · simp [Int.neg_mul]

theorem sv_cmp (s t : Bool) (a b : Nat) : compare (sv s (val a)) (sv t (val b)) = compare (sv s a) (sv t b) := by
  rw [cmp_iff, cmp_iff]
  have z : val 0 = 0 := val_zero
  have h1 : ∀ a b : Nat, (val a < val b) ↔ a < b := fun a b => ⟨lt_of_val, val_lt⟩
  have h2 : ∀ a b : Nat, (val a = val b) ↔ a = b := fun a b => ⟨val_inj, fun e => by rw [e]⟩
  have p1 := h1 a b; have p2 := h1 b a; have p3 := h2 a b
  have q1 := h1 0 a; have q2 := h1 0 b; have q3 := h2 a 0; have q4 := h2 b 0
  rw [z] at q1 q2 q3 q4
  unfold sv
  cases s <;> cases t <;> simp only [Bool.false_eq_true, if_false, if_true]
  · congr 1
    · simp; omega
    · congr 1; simp; omega
  · congr 1
    · simp; omega
    · congr 1; simp; omega
  · congr 1
    · simp; omega
    · congr 1; simp; omega
  · congr 1
    · simp; omega
    · congr 1; simp; omega

theorem order_num (s t : Bool) (a b : Nat) :
    Datum.order (.number s (vmag a) (-1074 + (vpl a : Int))) (.number t (vmag b) (-1074 + (vpl b : Int))) = some (compare (sv s a) (sv t b)) := by
  unfold Datum.order
  simp only
  congr 1
  rw [← sv_cmp]
  have hb : ∃ k : Nat, min (-1074 + (vpl a : Int)) (-1074 + (vpl b : Int)) = -1074 + (k : Int) ∧ k ≤ vpl a ∧ k ≤ vpl b :=
    ⟨min (vpl a) (vpl b), by omega, by omega, by omega⟩
  obtain ⟨k, e, ka, kb⟩ := hb
  rw [e, ← compare_mul _ _ ((2 ^ k : Nat) : Int) (by exact_mod_cast Nat.two_pow_pos k), signed_scale, signed_scale]
  have e1 : (-1074 + (vpl a : Int) - (-1074 + (k : Int))).toNat + k = vpl a := by omega
  have e2 : (-1074 + (vpl b : Int) - (-1074 + (k : Int))).toNat + k = vpl b := by omega
  rw [e1, e2]; rfl

theorem order_eq (x y : Nat) (hx : isNaN x = false) (hy : isNaN y = false) : double.order x y = some (compare (key x) (key y)) := by
  have hx' : rung x ≤ infR := by simpa [isNaN] using hx
  have hy' : rung y ≤ infR := by simpa [isNaN] using hy
  unfold Format.order
  have kx : key x = sv (sgn x) (rung x) := rfl
  have ky : key y = sv (sgn y) (rung y) := rfl
  by_cases c1 : rung x < infR
  · by_cases c2 : rung y < infR
    · rw [read_num x c1, read_num y c2, order_num, kx, ky]
    · rw [read_num x c1, read_inf y (by omega)]
      unfold Datum.order
      have e2 : rung y = infR := by omega
      rw [kx, ky, cmp_iff, e2]
      unfold sv
      unfold infR at *
      cases sgn y <;> cases sgn x <;> simp only [Bool.false_eq_true, if_false, if_true]
      all_goals first
        | rw [if_pos (by omega)]
        | rw [if_neg (by omega), if_neg (by omega)]
  · by_cases c2 : rung y < infR
    · rw [read_inf x (by omega), read_num y c2]
      unfold Datum.order
      have e2 : rung x = infR := by omega
      rw [kx, ky, cmp_iff, e2]
      unfold sv
      unfold infR at *
      cases sgn y <;> cases sgn x <;> simp only [Bool.false_eq_true, if_false, if_true]
      all_goals first
        | rw [if_pos (by omega)]
        | rw [if_neg (by omega), if_neg (by omega)]
    · rw [read_inf x (by omega), read_inf y (by omega)]
      unfold Datum.order
      have e1 : rung x = infR := by omega
      have e2 : rung y = infR := by omega
      rw [kx, ky, cmp_iff, e1, e2]
      unfold sv
      cases sgn y <;> cases sgn x <;> decide
theorem order_nan_l (x y : Nat) (hx : isNaN x = true) : double.order x y = none := by
  have hx' : infR < rung x := by simpa [isNaN] using hx
  unfold Format.order
  rw [read_nan x hx']
  cases double.read y <;> rfl
theorem order_nan_r (x y : Nat) (hy : isNaN y = true) : double.order x y = none := by
  have hy' : infR < rung y := by simpa [isNaN] using hy
  unfold Format.order
  rw [read_nan y hy']
  cases double.read x <;> rfl


/-! ### rounding -/
def cutE (n d : Nat) : Nat := n / 2 ^ d + (if 2 ^ d < 2 * (n % 2 ^ d) then 1 else if 2 ^ d = 2 * (n % 2 ^ d) ∧ n / 2 ^ d % 2 = 1 then 1 else 0)

theorem cut_eq (neg : Bool) (n d : Nat) : Toward.even.cut neg n d = cutE n d := by
  have hlt : n < 2 ^ (n.log2 + 2) := Nat.lt_trans (Nat.lt_log2_self) (Nat.pow_lt_pow_right (by omega) (by omega))
  have hlt1 : n < 2 ^ (n.log2 + 1) := Nat.lt_log2_self
  unfold Toward.cut cutE
  simp only [Nat.shiftLeft_eq, Nat.one_mul]
  by_cases c : d ≤ n.log2 + 2
  · rw [Nat.min_eq_left c]
    congr 1
    by_cases c1 : 2 ^ d < 2 * (n % 2 ^ d)
    · simp [c1]
    · by_cases c2 : 2 ^ d = 2 * (n % 2 ^ d) ∧ n / 2 ^ d % 2 = 1
      · rw [if_neg c1, if_pos c2]
        simp [← c2.1, c2.2]
      · rw [if_neg c1, if_neg c2]
        have : (2 ^ d == 2 * (n % 2 ^ d) && n / 2 ^ d % 2 == 1) = false := by
          simpa using c2
        simp [c1, this]
  · rw [Nat.min_eq_right (by omega)]
    have hd : 2 ^ (n.log2 + 2) ≤ 2 ^ d := Nat.pow_le_pow_right (by omega) (by omega)
    have hp : 2 ^ (n.log2 + 2) = 2 * 2 ^ (n.log2 + 1) := by rw [Nat.pow_succ, Nat.mul_comm]
    rw [Nat.div_eq_of_lt hlt, Nat.mod_eq_of_lt hlt, Nat.div_eq_of_lt (by omega), Nat.mod_eq_of_lt (show n < 2 ^ d by omega)]
    have c1 : ¬ 2 ^ (n.log2 + 2) < 2 * n := by omega
    have c2 : ¬ 2 ^ d < 2 * n := by omega
    simp [c1, c2]

theorem cutE_zero (n : Nat) : cutE n 0 = n := by
  unfold cutE; simp [Nat.mod_one]
theorem cutE_scale (n d k : Nat) : cutE (n * 2 ^ k) (d + k) = cutE n d := by
  unfold cutE
  have hk : 0 < 2 ^ k := Nat.two_pow_pos k
  rw [Nat.pow_add, Nat.mul_div_mul_right _ _ hk, Nat.mul_mod_mul_right]
  have e1 : (2 ^ d * 2 ^ k < 2 * (n % 2 ^ d * 2 ^ k)) ↔ (2 ^ d < 2 * (n % 2 ^ d)) := by
    rw [← Nat.mul_assoc]; exact Nat.mul_lt_mul_right hk
  have e2 : (2 ^ d * 2 ^ k = 2 * (n % 2 ^ d * 2 ^ k)) ↔ (2 ^ d = 2 * (n % 2 ^ d)) := by
    rw [← Nat.mul_assoc]; exact Nat.mul_right_cancel_iff hk
  simp only [e1, e2]
theorem cutE_exact (n d : Nat) : cutE (n * 2 ^ d) d = n := by
  have := cutE_scale n 0 d
  rw [Nat.zero_add, cutE_zero] at this
  exact this
theorem cutE_mono {a b : Nat} (d : Nat) (h : a ≤ b) : cutE a d ≤ cutE b d := by
  unfold cutE
  have hd : 0 < 2 ^ d := Nat.two_pow_pos d
  have hq : a / 2 ^ d ≤ b / 2 ^ d := Nat.div_le_div_right h
  rcases Nat.lt_or_eq_of_le hq with hq | hq
  · have : (if 2 ^ d < 2 * (a % 2 ^ d) then 1 else if 2 ^ d = 2 * (a % 2 ^ d) ∧ a / 2 ^ d % 2 = 1 then 1 else 0) ≤ 1 := by
      split <;> (try split) <;> omega
    omega
  · have ea := Nat.div_add_mod a (2 ^ d)
    have eb := Nat.div_add_mod b (2 ^ d)
    rw [hq] at ea
    have hr : a % 2 ^ d ≤ b % 2 ^ d := by omega
    rw [hq]
    apply Nat.add_le_add_left
    split
    · rw [if_pos (by omega)]; omega
    · split
      · rename_i h1 h2
        by_cases c : 2 ^ d < 2 * (b % 2 ^ d)
        · rw [if_pos c]; omega
        · rw [if_neg c, if_pos ⟨by omega, h2.2⟩]; omega
      · omega
theorem cutE_le {n d m : Nat} (h : n ≤ m * 2 ^ d) : cutE n d ≤ m := by
  have := cutE_mono d h
  rwa [cutE_exact] at this
theorem cutE_ge {n d m : Nat} (h : m * 2 ^ d ≤ n) : m ≤ cutE n d := by
  have := cutE_mono d h
  rwa [cutE_exact] at this

/-- the rung of N units of 2 ^ -(1074 + K) -/
def RR (K N : Nat) : Nat := min ((N.log2 - (52 + K)) * 4503599627370496 + cutE N (K + (N.log2 - (52 + K)))) infR

theorem log2_mono {a b : Nat} (h : a ≤ b) : a.log2 ≤ b.log2 := by
  by_cases ha : a = 0
  · subst ha; rw [Nat.log2_zero]; omega
  · exact (Nat.le_log2 (by omega)).2 (Nat.le_trans (Nat.log2_self_le ha) h)

theorem RR_mono (K : Nat) {a b : Nat} (h : a ≤ b) : RR K a ≤ RR K b := by
  unfold RR
  have hl := log2_mono h
  by_cases e : a.log2 - (52 + K) = b.log2 - (52 + K)
  · rw [e]
    have := cutE_mono (K + (b.log2 - (52 + K))) h
    omega
  · have hb : b ≠ 0 := by intro hb; subst hb; rw [Nat.log2_zero] at *; omega
    have h1 : cutE a (K + (a.log2 - (52 + K))) ≤ 9007199254740992 := by
      apply cutE_le
      have := @Nat.lt_log2_self a
      have e2 : (9007199254740992 : Nat) = 2 ^ 53 := by decide
      rw [e2, ← Nat.pow_add]
      exact Nat.le_trans (Nat.le_of_lt this) (Nat.pow_le_pow_right (by omega) (by omega))
    have h2 : 4503599627370496 ≤ cutE b (K + (b.log2 - (52 + K))) := by
      apply cutE_ge
      have := Nat.log2_self_le hb
      have e2 : (4503599627370496 : Nat) = 2 ^ 52 := by decide
      rw [e2, ← Nat.pow_add]
      exact Nat.le_trans (Nat.pow_le_pow_right (by omega) (by omega)) this
    omega

theorem RR_le (K N : Nat) : RR K N ≤ infR := Nat.min_le_right _ _

/-- a rung's own value rounds to it -/
theorem RR_val (K r : Nat) (h : r ≤ infR) : RR K (val r * 2 ^ K) = r := by
  unfold RR val vmag vpl
  by_cases c : r < 4503599627370496
  · rw [if_pos c, if_pos c]
    simp only [Nat.pow_zero, Nat.mul_one]
    have hl : (r * 2 ^ K).log2 - (52 + K) = 0 := by
      by_cases hr : r = 0
      · subst hr; simp
      · have h0 : r * 2 ^ K ≠ 0 := Nat.mul_ne_zero hr (Nat.ne_of_gt (Nat.two_pow_pos K))
        have : (r * 2 ^ K).log2 < 52 + K := by
          rw [Nat.log2_lt h0, Nat.pow_add]
          exact Nat.mul_lt_mul_of_pos_right (by simpa using c) (Nat.two_pow_pos K)
        omega
    rw [hl]
    simp only [Nat.zero_mul, Nat.add_zero, Nat.zero_add]
    rw [cutE_exact]
    omega
  · rw [if_neg c, if_neg c]
    have e : ∃ q t, r = q * 4503599627370496 + t ∧ t < 4503599627370496 ∧ 1 ≤ q := ⟨r / 4503599627370496, r % 4503599627370496, by omega, by omega, by omega⟩
    obtain ⟨q, t, rfl, ht, hq⟩ := e
    have e1 : (q * 4503599627370496 + t) % 4503599627370496 = t := by omega
    have e2 : (q * 4503599627370496 + t) / 4503599627370496 = q := by omega
    rw [e1, e2]
    have hl : ((4503599627370496 + t) * 2 ^ (q - 1) * 2 ^ K).log2 = 52 + (q - 1) + K := by
      rw [Nat.mul_assoc, ← Nat.pow_add]
      have h0 : (4503599627370496 + t) * 2 ^ (q - 1 + K) ≠ 0 := Nat.mul_ne_zero (by omega) (Nat.ne_of_gt (Nat.two_pow_pos _))
      rw [Nat.log2_eq_iff h0]
      constructor
      · rw [show 52 + (q - 1) + K = 52 + (q - 1 + K) by omega, Nat.pow_add 2 52]
        exact Nat.mul_le_mul_right _ (by rw [show (2:Nat) ^ 52 = 4503599627370496 by decide]; omega)
      · rw [show 52 + (q - 1) + K + 1 = 53 + (q - 1 + K) by omega, Nat.pow_add 2 53]
        exact Nat.mul_lt_mul_of_pos_right (by rw [show (2:Nat) ^ 53 = 9007199254740992 by decide]; omega) (Nat.two_pow_pos _)
    rw [hl]
    have e3 : 52 + (q - 1) + K - (52 + K) = q - 1 := by omega
    rw [e3]
    have e4 : (4503599627370496 + t) * 2 ^ (q - 1) * 2 ^ K = (4503599627370496 + t) * 2 ^ (K + (q - 1)) := by
      rw [Nat.mul_assoc, ← Nat.pow_add, Nat.add_comm (q - 1) K]
    rw [e4, cutE_exact]
    have : (q - 1) * 4503599627370496 + (4503599627370496 + t) = q * 4503599627370496 + t := by omega
    rw [this]
    exact Nat.min_eq_left h

theorem word_eq (neg : Bool) (r : Nat) : double.word neg r = if neg then 9223372036854775808 + r else r := by
  unfold Format.word; rw [d_sw]

theorem nearest_eq (neg : Bool) (m : Nat) (p : Int) (K k : Nat) (hp : p = -1074 - (K : Int) + (k : Int)) :
    double.nearest neg m p = double.word neg (RR K (m * 2 ^ k)) := by
  unfold Format.nearest
  by_cases hm : m = 0
  · subst hm
    rw [if_pos rfl]
    have hz : RR K (0 * 2 ^ k) = 0 := by
      unfold RR cutE
      rw [Nat.zero_mul, Nat.log2_zero, Nat.zero_sub, Nat.zero_mul, Nat.zero_div, Nat.zero_mod, Nat.zero_add]
      rw [if_neg (Nat.not_lt.2 (Nat.zero_le _)), if_neg (by rintro ⟨_, h⟩; exact absurd h (by decide))]
      exact Nat.zero_min _
    rw [hz]
  · rw [if_neg hm]
    simp only [cut_eq, d_bin, d_inf, d_lp]
    have hf : (double.fractionBits : Int) = 52 := by decide
    rw [hf]
    refine congrArg (double.word neg) ?_
    unfold RR infR
    have hk : 0 < 2 ^ k := Nat.two_pow_pos k
    have hl : (m * 2 ^ k).log2 = m.log2 + k := by
      have h0 : m * 2 ^ k ≠ 0 := Nat.mul_ne_zero hm (by omega)
      rw [Nat.log2_eq_iff h0]
      constructor
      · rw [Nat.pow_add]; exact Nat.mul_le_mul_right _ (Nat.log2_self_le hm)
      · rw [show m.log2 + k + 1 = (m.log2 + 1) + k by omega, Nat.pow_add]
        exact Nat.mul_lt_mul_of_pos_right Nat.lt_log2_self hk
    rw [hl]
    generalize hL : m.log2 = L
    have hlast : max (p + (L : Int) - 52) (-1074) = -1074 + ((L + k - (52 + K) : Nat) : Int) := by omega
    rw [hlast]
    have e1 : (-1074 + ((L + k - (52 + K) : Nat) : Int) - -1074).toNat = L + k - (52 + K) := by omega
    rw [e1]
    congr 2
    generalize he : L + k - (52 + K) = e
    rw [Nat.shiftLeft_eq]
    by_cases c : k ≤ K + e
    · have e2 : (p - (-1074 + (e : Int))).toNat = 0 := by omega
      have e3 : (-1074 + (e : Int) - p).toNat = K + e - k := by omega
      rw [e2, e3, Nat.pow_zero, Nat.mul_one]
      have := cutE_scale m (K + e - k) k
      rw [show K + e - k + k = K + e by omega] at this
      exact this.symm
    · have e2 : (p - (-1074 + (e : Int))).toNat = k - (K + e) := by omega
      have e3 : (-1074 + (e : Int) - p).toNat = 0 := by omega
      rw [e2, e3, cutE_zero]
      have : m * 2 ^ k = m * 2 ^ (k - (K + e)) * 2 ^ (K + e) := by
        rw [Nat.mul_assoc, ← Nat.pow_add, show k - (K + e) + (K + e) = k by omega]
      rw [this, cutE_exact]

/-! ### whole numbers, products, sums -/
/-- a whole number's rung -/
def rI (n : Nat) : Nat := RR 1074 (n * 2 ^ 1074 * 2 ^ 1074)
theorem ofInt_eq (n : Nat) : Go.floatOfInt .f64 (n : Int) = rI n := by
  show Format.nearest double _ _ _ = _
  rw [nearest_eq _ _ _ 1074 2148 (by omega), word_eq]
  have : decide ((n : Int) < 0) = false := by simp
  rw [this]
  simp only [Bool.false_eq_true, if_false, rI, Int.natAbs_natCast]
  have e2 : ∀ a b c : Nat, a + b = c → n * 2 ^ c = n * 2 ^ a * 2 ^ b := fun a b c h => by rw [Nat.mul_assoc, ← Nat.pow_add, h]
  rw [e2 1074 1074 2148 rfl]
theorem ofInt_lt (n : Int) : Go.floatOfInt .f64 n < 2 ^ 64 := by
  have := double.write_lt (.number (n < 0) n.natAbs 0)
  exact this
theorem rung_small (r : Nat) (h : r ≤ infR) : rung r = r := by unfold rung infR at *; omega
theorem sgn_small (r : Nat) (h : r ≤ infR) : sgn r = false := by
  unfold sgn infR at *
  have : r / 9223372036854775808 = 0 := by omega
  rw [this]; rfl
theorem key_small (r : Nat) (h : r ≤ infR) : key r = r := by unfold key; rw [sgn_small r h, rung_small r h]; simp
theorem nan_small (r : Nat) (h : r ≤ infR) : isNaN r = false := by unfold isNaN; rw [rung_small r h]; simp; omega
theorem rI_le (n : Nat) : rI n ≤ infR := RR_le _ _
theorem mul_pos (x y : Nat) (hx : x < infR) (hy : y < infR) : double.mul x y = some (RR 1074 (val x * val y)) := by
  unfold Format.mul
  rw [read_num x (by rw [rung_small x (by omega)]; exact hx), read_num y (by rw [rung_small y (by omega)]; exact hy), rung_small x (by omega), rung_small y (by omega), sgn_small x (by omega), sgn_small y (by omega)]
  unfold Datum.product
  simp only [Option.map_some]
  show some (Format.nearest double _ _ _) = _
  rw [nearest_eq _ _ _ 1074 (vpl x + vpl y) (by omega), word_eq]
  simp only [bne_self_eq_false, Bool.false_eq_true, if_false]
  congr 2
  unfold val
  rw [Nat.pow_add, Nat.mul_mul_mul_comm]

theorem sum_comm (a b : Datum) : a.sum b = b.sum a := by
  unfold Datum.sum
  cases a with
  | nan => cases b <;> rfl
  | infinity s =>
    cases b with
    | nan => rfl
    | infinity t => by_cases h : s = t
                    · subst h; rfl
                    · simp [h, Ne.symm h]
    | number => rfl
  | number s m i =>
    cases b with
    | nan => rfl
    | infinity t => rfl
    | number t n j =>
      simp only [Int.min_comm j i, Bool.and_comm t s, Int.add_comm (signed t n _)]
theorem add_comm' (x y : Nat) : double.add x y = double.add y x := by
  unfold Format.add; rw [sum_comm]

/-- a number that is no NaN, read and written, is itself -/
theorem write_read (x : Nat) (hx : x < 2 ^ 64) (h : isNaN x = false) : double.write (double.read x) = x := by
  have h' : rung x ≤ infR := by simpa [isNaN] using h
  have hw : double.word (sgn x) (rung x) = x := by
    rw [word_eq]
    unfold sgn rung
    have : x / 9223372036854775808 = 0 ∨ x / 9223372036854775808 = 1 := by omega
    rcases this with e | e <;> rw [e] <;> simp <;> omega
  by_cases c : rung x < infR
  · rw [read_num x c]
    show Format.nearest double _ _ _ = _
    rw [nearest_eq _ _ _ 0 (vpl (rung x)) (by omega)]
    have := RR_val 0 (rung x) (by omega)
    rw [Nat.pow_zero, Nat.mul_one] at this
    unfold val at this
    rw [this, hw]
  · rw [read_inf x (by omega)]
    show Format.word double _ _ = _
    rw [d_inf, show (9218868437227405312 : Nat) = rung x by unfold infR at *; omega, hw]
end Go.Proofs.Ytldeohbfhigagaa.Flo
