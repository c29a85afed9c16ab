/- The thousand Fills k/1000 as doubles: what is known of all of them. Plain mathematics, reckoned by the kernel. -/
import Derived.Test.YtldeohbfhigagaaFltP
namespace Go.Proofs.Ytldeohbfhigagaa
open Flo
/-- (i + 1) / 1000, as a word -/
def tblF (i : Nat) : Nat := (Ieee.double.div (floatOfInt .f64 ((i : Int) + 1)) 4652007308841189376).getD 0
def tblOk (i : Nat) : Bool := (Ieee.double.div (floatOfInt .f64 ((i : Int) + 1)) 4652007308841189376).isSome && decide (0 < tblF i) && decide (tblF i ≤ 4607182418800017408) && decide (4562254508917369340 ≤ tblF i) && (i == 0 || decide (tblF (i - 1) < tblF i))
theorem tbl_all : (List.range 1000).all tblOk = true := by decide +kernel
theorem tbl_ok {i : Nat} (h : i < 1000) : tblOk i = true := List.all_eq_true.1 tbl_all i (List.mem_range.2 h)
theorem tbl_some {i : Nat} (h : i < 1000) : Ieee.double.div (floatOfInt .f64 ((i : Int) + 1)) 4652007308841189376 = some (tblF i) := by
  have := tbl_ok h
  unfold tblOk at this
  simp only [Bool.and_eq_true] at this
  have hs := this.1.1.1.1
  unfold tblF
  cases hd : Ieee.double.div (floatOfInt .f64 ((i : Int) + 1)) 4652007308841189376 with
  | none => rw [hd] at hs; cases hs
  | some r => rfl
theorem tbl_pos {i : Nat} (h : i < 1000) : 0 < tblF i ∧ tblF i ≤ 4607182418800017408 ∧ 4562254508917369340 ≤ tblF i := by
  have := tbl_ok h
  unfold tblOk at this
  simp only [Bool.and_eq_true, decide_eq_true_iff] at this
  exact ⟨this.1.1.1.2, this.1.1.2, this.1.2⟩
theorem tbl_step {i : Nat} (h : i + 1 < 1000) : tblF i < tblF (i + 1) := by
  have := tbl_ok h
  unfold tblOk at this
  simp only [Bool.and_eq_true, Bool.or_eq_true, decide_eq_true_iff] at this
  rcases this.2 with h | h
  · simp at h
  · exact h
theorem tbl_mono {i j : Nat} (h : i ≤ j) (hj : j < 1000) : tblF i ≤ tblF j := by
  induction j with
  | zero => have : i = 0 := by omega
            subst this; exact Nat.le_refl _
  | succ j ih =>
    rcases Nat.lt_or_eq_of_le h with h | h
    · have := tbl_step hj
      have := ih (by omega) (by omega)
      omega
    · subst h; exact Nat.le_refl _
theorem tbl_w {i : Nat} (h : i < 1000) : tblF i < 18446744073709551616 := by have := (tbl_pos h).2.1; omega
end Go.Proofs.Ytldeohbfhigagaa
