/- The order of numbers, each NaN as the one. Plain mathematics. -/
import Derived.Test.YtldeohbfhigagaaFltP
namespace Go.Proofs.Ytldeohbfhigagaa
open Flo
theorem less_irr (x : Nat) : lessB x x = false := by
  unfold lessB
  cases isNaN x <;> simp
theorem less_tot {x y : Nat} (hx : oneB x = x) (hy : oneB y = y) (wx : x < 18446744073709551616) (wy : y < 18446744073709551616) (h : x ≠ y) : lessB x y = !lessB y x := by
  cases nx : isNaN x
  · cases ny : isNaN y
    · rw [less_num nx ny, less_num ny nx]
      have : lkey x ≠ lkey y := fun e => h (lkey_inj wx wy e)
      rw [← decide_not, decide_eq_decide]; omega
    · rw [less_nan_r nx ny, less_nan_l ny]; rfl
  · cases ny : isNaN y
    · rw [less_nan_l nx, less_nan_r ny nx]; rfl
    · rw [oneB_nan nx] at hx
      rw [oneB_nan ny] at hy
      exact absurd (hx.symm.trans hy) h
theorem less_trans {x y z : Nat} (h1 : lessB x y = true) (h2 : lessB y z = true) : lessB x z = true := by
  cases nx : isNaN x
  · cases nz : isNaN z
    · cases ny : isNaN y
      · rw [less_num nx ny, decide_eq_true_iff] at h1
        rw [less_num ny nz, decide_eq_true_iff] at h2
        rw [less_num nx nz, decide_eq_true_iff]; omega
      · rw [less_nan_l ny] at h2; cases h2
    · exact less_nan_r nx nz
  · rw [less_nan_l nx] at h1; cases h1
end Go.Proofs.Ytldeohbfhigagaa
