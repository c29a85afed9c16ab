/- The walk of FlotBits. -/
import Derived.Test.YtldeohbfhigagaaFlt3
set_option linter.unusedVariables false
set_option linter.unusedSimpArgs false
namespace Go.Proofs.Ytldeohbfhigagaa
open Go.RowKit Flo

/-- Get of what Bytes gives -/
theorem c_getOwn (A : Option Addr) (c n : Nat) (w : World) (hn : W64 n) (h : RdB w A 8 (leP n 8)) :
    Calls Try.prog 27 #[.slice A 8 c] w fun e w' => e = .returned (.int .u64 (n : Int)) ∧ w = w' :=
  (c_rGet A 8 c _ w h (by decide)).mono fun e w' ⟨he, hw⟩ => by
    rw [List.take_of_length_le (by rw [leP_length]; decide), leN_leP64 n hn] at he
    exact ⟨he, hw⟩
/-- Bytes, its answer a slice of eight -/
theorem c_bytes8 (b : Nat) (w : World) :
    Calls Try.prog 22 #[.float .f64 b] w fun e w' => ∃ A c, e = .returned (.slice A 8 c) ∧ RdB w' A 8 (leP (oneB b) 8) ∧ Below w.heap.size w w' :=
  (c_bytes b w).mono fun e w' ⟨v, he, ho, hb⟩ => by
    obtain ⟨A, c, rfl, _, _, hr⟩ := ho.form
    rw [leP_length] at he hr
    exact ⟨A, c, he, hr, hb⟩
theorem c_rPut8 (n : Nat) (w : World) :
    Calls Try.prog 29 #[.int .u64 (n : Int), .int .i64 8] w fun e w' => ∃ A c, e = .returned (.slice A 8 c) ∧ RdB w' A 8 (leP n 8) ∧ Below w.heap.size w w' :=
  (c_rPut n 8 w (by decide)).mono fun e w' ⟨v, he, ho, hb⟩ => by
    obtain ⟨A, c, rfl, _, _, hr⟩ := ho.form
    rw [leP_length] at he hr
    exact ⟨A, c, he, hr, hb⟩
theorem c_of8 (A : Option Addr) (c n : Nat) (w : World) (hn : W64 n) (h : RdB w A 8 (leP n 8)) :
    Calls Try.prog 21 #[.slice A 8 c] w fun e w' => e = .returned (.float .f64 (oneB n)) ∧ w = w' :=
  (c_of A 8 c _ w h (by decide)).mono fun e w' ⟨he, hw⟩ => by
    have : ofB (leP n 8) = oneB n := by unfold ofB; rw [if_pos (leP_length _ _), leN_leP64 n hn]
    rw [this] at he
    exact ⟨he, hw⟩
theorem w64_one (n : Nat) (h : W64 n) : W64 (oneB n) := oneB_lt h
theorem neq_w (b : Nat) : (FloatKind.f64.format.order b b != some .eq) = isNaN b := ne_self b
theorem eql_w (b : Nat) : (FloatKind.f64.format.order b b == some .eq) = !isNaN b := by
  have := neq_w b
  unfold bne at this
  rw [← this, Bool.not_not]

set_option maxHeartbeats 4000000 in
theorem w_bits_nan (a b : Nat) (w : World) (ha : W64 a) (hb : W64 b) (h : (isNaN a || isNaN b) = true) :
    Calls Try.prog 6 #[.int .u64 (a : Int), .int .u64 (b : Int)] w fun e w' => e = .returned (.bool true) ∧ Below w.heap.size w w' := by
  have hfa := r_frombits a
  have hfb := r_frombits b
  have n1 := neq_w a
  have n2 := neq_w b
  have n3 := eql_w b
  have q4 := one_z
  have m0 : W64 9221120237041090560 := by unfold W64; decide
  cases na : isNaN a
  · cases nb : isNaN b
    · rw [na, nb] at h; cases h
    · rw [na] at n1
      rw [nb] at n2 n3
      have hl := less_nan_l (y := a) nb
      clear h na nb
      go_enter Try.func6, Try.ntmps6
      go_wp2_with (first | (go_at_call 24; refine (c_less _ _ _ (by assumption) (by assumption)).mono ?_; rintro e w' ⟨rfl, rfl⟩) | (go_at_call 15; refine (c_nan _).mono ?_; rintro e w' ⟨rfl, rfl⟩) | (go_at_call 23; refine (c_awake5 _).mono ?_; rintro e w1 ⟨rfl, hb⟩) | (go_at_call 22; refine (c_bytes8 _ _).mono ?_; rintro e w1 ⟨A, c, rfl, hr, hb⟩) | (go_at_call 27; refine (c_getOwn _ _ 9221120237041090560 _ (by assumption) (by assumption)).mono ?_; rintro e w' ⟨rfl, rfl⟩))
      go_ret
      exact ⟨rfl, below_two (by assumption) (by assumption)⟩
  · cases nb : isNaN b
    · rw [na] at n1
      rw [nb] at n2 n3
      have hl := less_nan_r nb na
      clear h na nb
      go_enter Try.func6, Try.ntmps6
      go_wp2_with (first | (go_at_call 24; refine (c_less _ _ _ (by assumption) (by assumption)).mono ?_; rintro e w' ⟨rfl, rfl⟩) | (go_at_call 15; refine (c_nan _).mono ?_; rintro e w' ⟨rfl, rfl⟩) | (go_at_call 23; refine (c_awake5 _).mono ?_; rintro e w1 ⟨rfl, hb⟩) | (go_at_call 22; refine (c_bytes8 _ _).mono ?_; rintro e w1 ⟨A, c, rfl, hr, hb⟩) | (go_at_call 27; refine (c_getOwn _ _ 9221120237041090560 _ (by assumption) (by assumption)).mono ?_; rintro e w' ⟨rfl, rfl⟩))
      go_ret
      exact ⟨rfl, below_two (by assumption) (by assumption)⟩
    · rw [na] at n1
      rw [nb] at n2 n3
      have hl := less_nan_l (y := a) nb
      clear h na nb
      go_enter Try.func6, Try.ntmps6
      go_wp2_with (first | (go_at_call 24; refine (c_less _ _ _ (by assumption) (by assumption)).mono ?_; rintro e w' ⟨rfl, rfl⟩) | (go_at_call 15; refine (c_nan _).mono ?_; rintro e w' ⟨rfl, rfl⟩) | (go_at_call 23; refine (c_awake5 _).mono ?_; rintro e w1 ⟨rfl, hb⟩) | (go_at_call 22; refine (c_bytes8 _ _).mono ?_; rintro e w1 ⟨A, c, rfl, hr, hb⟩) | (go_at_call 27; refine (c_getOwn _ _ 9221120237041090560 _ (by assumption) (by assumption)).mono ?_; rintro e w' ⟨rfl, rfl⟩))
      go_ret
      exact ⟨rfl, below_two (by assumption) (by assumption)⟩
/-- the facts of two numbers that are none of them NaN -/
theorem w_bits_num (a b : Nat) (w : World) (ha : W64 a) (hb : W64 b) (na : isNaN a = false) (nb : isNaN b = false) (p q : Bool) (hp : decide (9223372036854775808 ≤ (a : Int)) = p) (hq : decide (9223372036854775808 ≤ (b : Int)) = q)
    (hl : lessB a b = if p && q then decide ((b : Int) < a) else if p then true else if q then false else decide ((a : Int) < b)) :
    Calls Try.prog 6 #[.int .u64 (a : Int), .int .u64 (b : Int)] w fun e w' => e = .returned (.bool true) ∧ Below w.heap.size w w' := by
  have hfa := r_frombits a
  have hfb := r_frombits b
  have hba := r_bits b
  have n1 := neq_w a
  have n2 := neq_w b
  have o1 := oneB_num na
  have m1 := w64_one a ha
  have o2 := oneB_num nb
  rw [na] at n1
  rw [nb] at n2
  clear na nb
  have fin : ∀ {x : Bool}, x = true → Ending.returned (.bool x) = .returned (.bool true) := fun h => by rw [h]
  cases p <;> cases q <;> simp only [Bool.and_self, Bool.and_true, Bool.and_false, Bool.true_and, Bool.false_and, Bool.false_eq_true, if_true, if_false] at hl
  all_goals
    go_enter Try.func6, Try.ntmps6
    go_wp2_with (first | (go_at_call 24; refine (c_less _ _ _ (by assumption) (by assumption)).mono ?_; rintro e w' ⟨rfl, rfl⟩) | (go_at_call 23; refine (c_awake5 _).mono ?_; rintro e w1 ⟨rfl, hb⟩) | (go_at_call 22; refine (c_bytes8 _ _).mono ?_; rintro e w1 ⟨A, c, rfl, hr, hb⟩) | (go_at_call 29; refine (c_rPut8 _ _).mono ?_; rintro e w1 ⟨A, c, rfl, hr, hb⟩) | (go_at_call 27; refine (c_getOwn _ _ (oneB a) _ (by assumption) (by assumption)).mono ?_; rintro e w' ⟨rfl, rfl⟩) | (go_at_call 21; refine (c_of8 _ _ b _ (by assumption) (by assumption)).mono ?_; rintro e w' ⟨rfl, rfl⟩))
    go_ret
    exact ⟨rfl, below3 (by assumption) (by assumption) (by assumption)⟩
theorem w_FlotBits (a b : Int) (w : World) (w0 : (Lit.int .u64 a).wf = true) (w1 : (Lit.int .u64 b).wf = true) :
    Calls Try.prog 6 #[.int .u64 a, .int .u64 b] w fun e w' => e = .returned (.bool true) ∧ Below w.heap.size w w' := by
  obtain ⟨a, rfl, ha⟩ := of_wf_u64 w0
  obtain ⟨b, rfl, hb⟩ := of_wf_u64 w1
  cases h : (isNaN a || isNaN b)
  · have na : isNaN a = false := by cases x : isNaN a <;> simp_all
    have nb : isNaN b = false := by cases x : isNaN b <;> simp_all
    refine w_bits_num a b w ha hb na nb _ _ rfl rfl ?_
    unfold W64 at ha hb
    by_cases p : 9223372036854775808 ≤ a <;> by_cases q : 9223372036854775808 ≤ b
    · rw [less_hh na nb p ha q hb, if_pos (by simp; omega)]
    · rw [less_hl na nb p ha (by omega), if_neg (by simp; omega), if_pos (by simp; omega)]
    · rw [less_lh na nb (by omega) q hb, if_neg (by simp; omega), if_neg (by simp; omega), if_pos (by simp; omega)]
    · rw [less_ll na nb (by omega) (by omega), if_neg (by simp; omega), if_neg (by simp; omega), if_neg (by simp; omega)]
  · exact w_bits_nan a b w ha hb h
end Go.Proofs.Ytldeohbfhigagaa
