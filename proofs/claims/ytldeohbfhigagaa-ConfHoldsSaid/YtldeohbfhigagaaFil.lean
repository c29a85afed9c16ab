/- The fuller, the fewer leaves: plain. -/
import Derived.Test.YtldeohbfhigagaaGrow
import Derived.Test.YtldeohbfhigagaaTbl
set_option linter.unusedVariables false
set_option linter.unusedSimpArgs false
namespace Go.Proofs.Ytldeohbfhigagaa
open Go.RowKit Flo

def fA (fl : Nat) : Cfg := ⟨4, 8, 2, 4, 16, 8, 3, 20, 4, fl⟩
theorem part_ex (n f : Nat) (hp : partOk n f = true) (hb : enB n f big = true) : ∃ k : Nat, PartIs n f (k : Int) true := by
  have h : ∀ b, b ≤ big → enB n f b = true → ∃ k : Nat, PartIs n f (k : Int) true := by
    intro b
    induction b with
    | zero => intro hb0 he; exact ⟨0, PartIs.yes hp hb hb0 he (.inl rfl)⟩
    | succ b ih =>
      intro hb0 he
      cases hq : enB n f b with
      | true => exact ih (by omega) hq
      | false => exact ⟨b + 1, PartIs.yes hp hb hb0 he (.inr hq)⟩
  exact h big (Nat.le_refl _) hb
theorem fA_nums (fl : Nat) : (fA fl).nums = true := by show okNums 4 8 2 4 16 8 3 20 4 = true; decide +kernel
theorem fA_nodes (fl : Nat) : nodesF (fA fl) = (10, 3) := by
  show halve ((4 + 1) / 2) 600 (1 + 20 / (8 + 1 - (8 + 2 + 1) / 2)) (1 + 20 / (8 + 1 - (8 + 2 + 1) / 2), 1) = (10, 3)
  decide +kernel
theorem lvF_le (k : Int) : ∀ (t : Nat) (y : Int), 1 ≤ y → lvF k t y ≤ max y (2 * k) ∧ y ≤ lvF k t y := by
  intro t
  induction t with
  | zero => intro y hy; unfold lvF; omega
  | succ t ih =>
    intro y hy
    unfold lvF
    split
    · have := ih (y * 2) (by omega); omega
    · omega
theorem lvF_mono {k l : Int} (h : k ≤ l) : ∀ (t : Nat) (y : Int), 1 ≤ y → lvF k t y ≤ lvF l t y := by
  intro t
  induction t with
  | zero => intro y hy; unfold lvF; omega
  | succ t ih =>
    intro y hy
    have i := ih (y * 2) (by omega)
    have g := (lvF_le l t (y * 2) (by omega)).2
    unfold lvF
    by_cases h1 : y < k ∧ y ≤ 65536
    · rw [if_pos h1, if_pos ⟨by omega, h1.2⟩]; exact i
    · rw [if_neg h1]
      split
      · omega
      · omega
theorem en10 : enB 10 4562254508917369340 10001 = true ∧ enB 10 4562254508917369340 big = true := by decide +kernel
/-- what Bounds answers of a Fill of thousandths -/
theorem fA_tbl (i : Nat) (h : i < 1000) : ∃ k : Nat, PartIs 10 (tblF i) (k : Int) true ∧ k ≤ 10001 ∧ bdOk (fA (tblF i)) = true ∧ bdR (fA (tblF i)) = bdC (fA (tblF i)) (lvF (k : Int) 17 1) := by
  obtain ⟨p1, p2, p3⟩ := tbl_pos h
  have hp : partOk 10 (tblF i) = true := by unfold partOk; rw [decide_eq_true_iff]; omega
  have hb := enB_mono (Nat.le_refl 10) p3 (Nat.le_refl big) en10.2
  have h1 := enB_mono (Nat.le_refl 10) p3 (Nat.le_refl 10001) en10.1
  obtain ⟨k, hk⟩ := part_ex 10 (tblF i) hp hb
  have hk' : PartIs 10 (tblF i) (k : Int) true := hk
  have hle : k ≤ 10001 := by
    rcases Nat.lt_or_ge 10001 k with c | c
    · exfalso
      obtain ⟨ho⟩ := hk'
      unfold PartIs0 at ho
      rw [if_pos ⟨hp, hb⟩] at ho
      obtain ⟨_, _, _, _, h5⟩ := ho
      rcases h5 with h5 | h5
      · omega
      · have := enB_mono (Nat.le_refl 10) (Nat.le_refl (tblF i)) (show 10001 ≤ (k : Int).toNat - 1 by omega) h1
        rw [show Int.toNat 10 = 10 from rfl, this] at h5
        cases h5
    · exact c
  have hl := (lvF_le (k : Int) 17 1 (by omega)).1
  obtain ⟨b1, b2⟩ := bd_of (a := fA (tblF i)) (k := (k : Int)) (y := lvF (k : Int) 17 1) (fA_nums _) (by rw [fA_nodes]; exact hk) rfl (by omega)
  exact ⟨k, hk, hle, b1, b2⟩
theorem fA_two (i j : Nat) (hi : i < 1000) (hj : j < 1000) :
    bdOk (fA (tblF i)) = true ∧ bdOk (fA (tblF j)) = true ∧ (bdR (fA (tblF i))).nd = (bdR (fA (tblF j))).nd ∧ (bdR (fA (tblF i))).h = (bdR (fA (tblF j))).h ∧ (¬ tblF j < tblF i → (bdR (fA (tblF j))).lv ≤ (bdR (fA (tblF i))).lv) := by
  obtain ⟨k, p1, _, o1, b1⟩ := fA_tbl i hi
  obtain ⟨l, p2, _, o2, b2⟩ := fA_tbl j hj
  rw [b1, b2]
  refine ⟨o1, o2, ?_, ?_, fun h => ?_⟩
  · show (nodesF (fA (tblF i))).1 = (nodesF (fA (tblF j))).1
    rw [fA_nodes, fA_nodes]
  · show (nodesF (fA (tblF i))).2 = (nodesF (fA (tblF j))).2
    rw [fA_nodes, fA_nodes]
  · obtain ⟨q1, q2, q3⟩ := tbl_pos hj
    have := (PartIs.le p1 p2 (by unfold partOk; rw [decide_eq_true_iff]; omega) (Int.le_refl _) (by omega)).2
    exact lvF_mono this 17 1 (by omega)
/-- the Fills that may not be -/
def nones : List Nat := [9221120237041090561, 9218868437227405312, 18442240474082181120, 0, 9223372036854775808, 13826050856027422720, 4607182419250377371, 4427038433705197568, 1]
theorem none_no : ∀ p, p < 9 → partOk 10 (nones[p]?.getD 0) = false ∨ enB 10 (nones[p]?.getD 0) big = false := by decide +kernel
theorem none_w : ∀ p, p < 9 → nones[p]?.getD 0 < 18446744073709551616 := by decide +kernel
theorem fA_none (p : Nat) (h : p < 9) : bdOk (fA (nones[p]?.getD 0)) = false := by
  rcases none_no p h with h | h
  · exact (bd_no (a := fA (nones[p]?.getD 0)) (k := 0) (by rw [fA_nodes]; exact PartIs.no h)).1
  · exact (bd_no (a := fA (nones[p]?.getD 0)) (k := 0) (by rw [fA_nodes]; exact PartIs.few h)).1
end Go.Proofs.Ytldeohbfhigagaa
