/- Contracts of conf: bounds of a Config. -/
import Derived.Test.YtldeohbfhigagaaLawEdges
set_option linter.unusedVariables false
set_option linter.unusedSimpArgs false
namespace Go.Proofs.Ytldeohbfhigagaa
open Go.RowKit Flo

/-- a number within bounds -/
def win (n lo hi : Int) : Bool := decide (lo ≤ n) && decide (n ≤ hi)
theorem win_true {n lo hi : Int} : win n lo hi = true ↔ lo ≤ n ∧ n ≤ hi := by simp [win]
theorem c_within (n lo hi : Int) (b : Bool) (w : World) (h : win n lo hi = b) :
    Calls Try.prog 59 #[.int .i64 n, .int .i64 lo, .int .i64 hi] w fun e w' => e = .returned (.bool b) ∧ w = w' := by
  subst h
  by_cases h1 : lo ≤ n
  · by_cases h2 : n ≤ hi
    all_goals
      go_enter Try.func59, Try.ntmps59
      go_wp2
      go_ret
      exact ⟨by simp [win, *], rfl⟩
  · go_enter Try.func59, Try.ntmps59
    go_wp2
    go_ret
    exact ⟨by simp [win]; omega, rfl⟩
/-- a over b, rounded up -/
theorem c_up (a b : Int) (w : World) (h0 : 0 ≤ a) (h1 : a ≤ 1073741824) (h2 : 0 < b) (h3 : b ≤ 1073741824) :
    Calls Try.prog 55 #[.int .i64 a, .int .i64 b] w fun e w' => e = .returned (.int .i64 ((a + b - 1) / b)) ∧ w = w' := by
  have hq : (a + b - 1).tdiv b = (a + b - 1) / b := Int.tdiv_eq_ediv_of_nonneg (by omega)
  have hq0 : 0 ≤ (a + b - 1) / b := Int.ediv_nonneg (by omega) (by omega)
  have hq1 : (a + b - 1) / b ≤ 2147483648 := Int.le_trans (Int.ediv_le_self b (by omega)) (by omega)
  have hb : b ≠ 0 := by omega
  go_enter Try.func55, Try.ntmps55
  go_wp2
  go_ret
  rw [← hq]
  exact ⟨rfl, rfl⟩
theorem c_half (k v c f m l e x z : Int) (fl : Nat) (w : World) (h0 : 1 ≤ c) (h1 : c ≤ 64) (h2 : 1 ≤ l) (h3 : l ≤ 64) :
    Calls Try.prog 60 #[.agg #[.int .i64 k, .int .i64 v, .int .i64 c, .int .i64 f, .int .i64 m, .int .i64 l, .int .i64 e, .int .i64 x, .int .i64 z, .float .f64 fl]] w fun e w' => e = .returned (.int .i64 ((l + c + 1) / 2)) ∧ Below w.heap.size w w' := by
  go_enter Try.func60, Try.ntmps60
  go_wp2_with (go_at_call 55; refine (c_up _ _ _ (by omega) (by omega) (by omega) (by omega)).mono ?_; rintro e w' ⟨rfl, rfl⟩)
  go_ret
  exact ⟨by rw [show l + c + 1 = l + c + 2 - 1 by omega]; rfl, below_alloc (Below.refl _ _) _⟩
/-- whether a Config's whole numbers may be -/
def okNums (k v c f m l e x z : Int) : Bool :=
  win k 1 32 && win v 8 64 && win c 1 8 && win f 3 8 && win m (IntKind.i64.wrap (f * c)) 64 && win l (IntKind.i64.wrap (c + 1)) 32 && win e 1 64 && win x 1 500 && win z 1 8
theorem mul_in (f c : Int) (hf : 3 ≤ f ∧ f ≤ 8) (hc : 1 ≤ c ∧ c ≤ 8) : 3 ≤ f * c ∧ f * c ≤ 64 := by
  have : c = 1 ∨ c = 2 ∨ c = 3 ∨ c = 4 ∨ c = 5 ∨ c = 6 ∨ c = 7 ∨ c = 8 := by omega
  rcases this with h | h | h | h | h | h | h | h <;> subst h <;> omega
theorem c_numbers (k v c f m l n x z : Int) (fl : Nat) (w : World) :
    Calls Try.prog 51 #[.agg #[.int .i64 k, .int .i64 v, .int .i64 c, .int .i64 f, .int .i64 m, .int .i64 l, .int .i64 n, .int .i64 x, .int .i64 z, .float .f64 fl]] w fun e w' => e = .returned (.bool (okNums k v c f m l n x z)) ∧ Below w.heap.size w w' := by
  cases q1 : win k 1 32
  · rw [show okNums k v c f m l n x z = false by simp [okNums, *]]
    go_enter Try.func51, Try.ntmps51
    go_wp2_with (first | (go_at_call 59; refine (c_within _ _ _ _ _ (by assumption)).mono ?_; rintro e w' ⟨rfl, rfl⟩))
    go_ret
    exact ⟨rfl, below_alloc (Below.refl _ _) _⟩
  cases q2 : win v 8 64
  · rw [show okNums k v c f m l n x z = false by simp [okNums, *]]
    go_enter Try.func51, Try.ntmps51
    go_wp2_with (first | (go_at_call 59; refine (c_within _ _ _ _ _ (by assumption)).mono ?_; rintro e w' ⟨rfl, rfl⟩))
    go_ret
    exact ⟨rfl, below_alloc (Below.refl _ _) _⟩
  cases q3 : win c 1 8
  · rw [show okNums k v c f m l n x z = false by simp [okNums, *]]
    go_enter Try.func51, Try.ntmps51
    go_wp2_with (first | (go_at_call 59; refine (c_within _ _ _ _ _ (by assumption)).mono ?_; rintro e w' ⟨rfl, rfl⟩))
    go_ret
    exact ⟨rfl, below_alloc (Below.refl _ _) _⟩
  cases q4 : win f 3 8
  · rw [show okNums k v c f m l n x z = false by simp [okNums, *]]
    go_enter Try.func51, Try.ntmps51
    go_wp2_with (first | (go_at_call 59; refine (c_within _ _ _ _ _ (by assumption)).mono ?_; rintro e w' ⟨rfl, rfl⟩))
    go_ret
    exact ⟨rfl, below_alloc (Below.refl _ _) _⟩
  have b3 := win_true.1 q3
  have b4 := win_true.1 q4
  have hfc0 := mul_in f c b4 b3
  have hfc : IntKind.i64.wrap (f * c) = f * c := IntWalk.i64_in _ ⟨by omega, by omega⟩
  have hc1 : IntKind.i64.wrap (c + 1) = c + 1 := IntWalk.i64_in _ ⟨by omega, by omega⟩
  cases q5 : win m (f * c) 64
  · rw [show okNums k v c f m l n x z = false by simp [okNums, *]]
    go_enter Try.func51, Try.ntmps51
    go_wp2_with (first | (go_at_call 59; refine (c_within _ _ _ _ _ (by assumption)).mono ?_; rintro e w' ⟨rfl, rfl⟩))
    go_ret
    exact ⟨rfl, below_alloc (Below.refl _ _) _⟩
  cases q6 : win l (c + 1) 32
  · rw [show okNums k v c f m l n x z = false by simp [okNums, *]]
    go_enter Try.func51, Try.ntmps51
    go_wp2_with (first | (go_at_call 59; refine (c_within _ _ _ _ _ (by assumption)).mono ?_; rintro e w' ⟨rfl, rfl⟩))
    go_ret
    exact ⟨rfl, below_alloc (Below.refl _ _) _⟩
  cases q7 : win n 1 64
  · rw [show okNums k v c f m l n x z = false by simp [okNums, *]]
    go_enter Try.func51, Try.ntmps51
    go_wp2_with (first | (go_at_call 59; refine (c_within _ _ _ _ _ (by assumption)).mono ?_; rintro e w' ⟨rfl, rfl⟩))
    go_ret
    exact ⟨rfl, below_alloc (Below.refl _ _) _⟩
  cases q8 : win x 1 500
  · rw [show okNums k v c f m l n x z = false by simp [okNums, *]]
    go_enter Try.func51, Try.ntmps51
    go_wp2_with (first | (go_at_call 59; refine (c_within _ _ _ _ _ (by assumption)).mono ?_; rintro e w' ⟨rfl, rfl⟩))
    go_ret
    exact ⟨rfl, below_alloc (Below.refl _ _) _⟩
  cases q9 : win z 1 8
  · rw [show okNums k v c f m l n x z = false by simp [okNums, *]]
    go_enter Try.func51, Try.ntmps51
    go_wp2_with (first | (go_at_call 59; refine (c_within _ _ _ _ _ (by assumption)).mono ?_; rintro e w' ⟨rfl, rfl⟩))
    go_ret
    exact ⟨rfl, below_alloc (Below.refl _ _) _⟩
  rw [show okNums k v c f m l n x z = true by simp [okNums, *]]
  go_enter Try.func51, Try.ntmps51
  go_wp2_with (first | (go_at_call 59; refine (c_within _ _ _ _ _ (by assumption)).mono ?_; rintro e w' ⟨rfl, rfl⟩))
  go_ret
  exact ⟨rfl, below_alloc (Below.refl _ _) _⟩
end Go.Proofs.Ytldeohbfhigagaa
