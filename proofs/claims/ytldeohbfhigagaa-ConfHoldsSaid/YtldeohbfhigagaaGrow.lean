/- More keys need no fewer nodes, leaves, blocks: plain. -/
import Derived.Test.YtldeohbfhigagaaAwk20
set_option linter.unusedVariables false
set_option linter.unusedSimpArgs false
namespace Go.Proofs.Ytldeohbfhigagaa
open Go.RowKit Flo

def gA (f x : Int) : Cfg := ⟨4, 8, 1, f, 16, 6, 3, x, 4, half⟩
def nN (hf : Int) (m : Nat) : Int × Int := halve hf 600 m (m, 1)
theorem nN_step : ∀ m, m < 130 → ((nN 2 m).1 ≤ (nN 2 (m + 1)).1 ∧ (nN 2 m).2 ≤ (nN 2 (m + 1)).2) ∧ ((nN 3 m).1 ≤ (nN 3 (m + 1)).1 ∧ (nN 3 m).2 ≤ (nN 3 (m + 1)).2) ∧ (nN 4 m).2 ≤ (nN 2 m).2 ∧ (nN 4 m).2 ≤ (nN 3 m).2 ∧
    (0 ≤ (nN 2 m).1 ∧ (nN 2 m).1 < 270) ∧ (0 ≤ (nN 3 m).1 ∧ (nN 3 m).1 < 270) ∧ (0 ≤ (nN 4 m).1 ∧ (nN 4 m).1 < 270) := by decide +kernel
theorem nN_mono (hf : Int) (hh : hf = 2 ∨ hf = 3) (m d : Nat) (h : m + d < 130) : (nN hf m).1 ≤ (nN hf (m + d)).1 ∧ (nN hf m).2 ≤ (nN hf (m + d)).2 := by
  induction d with
  | zero => simp
  | succ d ih =>
    have i := ih (by omega)
    have s := nN_step (m + d) (by omega)
    rcases hh with rfl | rfl
    · have := s.1; rw [← Nat.add_assoc]; omega
    · have := s.2.1; rw [← Nat.add_assoc]; omega
theorem part_half0 : ∀ n, n < 270 → enB n half big = true ∧ enB n half (2 * n) = true ∧ (n = 0 ∨ enB n half (2 * n - 1) = false) ∧ lvF ((2 * n : Nat) : Int) 17 1 ≤ lvF ((2 * (n + 1) : Nat) : Int) 17 1 ∧ 1 ≤ lvF ((2 * n : Nat) : Int) 17 1 ∧ lvF ((2 * n : Nat) : Int) 17 1 ≤ 1024 := by decide +kernel
theorem part_half (n : Nat) (h : n < 270) : PartIs n half ((2 * n : Nat) : Int) true := by
  obtain ⟨h1, h2, h3, _⟩ := part_half0 n h
  refine PartIs.yes ?_ h1 (by unfold big; omega) h2 ?_
  · unfold partOk half; simp; omega
  · rcases h3 with h3 | h3
    · left; omega
    · right; exact h3
theorem lv_mono (n d : Nat) (h : n + d < 270) : lvF ((2 * n : Nat) : Int) 17 1 ≤ lvF ((2 * (n + d) : Nat) : Int) 17 1 := by
  induction d with
  | zero => simp
  | succ d ih =>
    have i := ih (by omega)
    have s := (part_half0 (n + d) (by omega)).2.2.2.1
    rw [← Nat.add_assoc]
    exact Int.le_trans i s
theorem gA_nums (f x : Int) (hf : 3 ≤ f ∧ f ≤ 8) (hx : 1 ≤ x ∧ x ≤ 500) : (gA f x).nums = true := by
  unfold Cfg.nums gA okNums win
  simp only [Int.mul_one]
  rw [IntWalk.i64_in f ⟨by omega, by omega⟩, IntWalk.i64_in (1 + 1) ⟨by omega, by omega⟩]
  simp
  omega
theorem gA_g (f x : Int) : gF (gA f x) = 3 := by unfold gF gA; rfl
theorem gA_nodes (f x : Int) (m : Nat) (h : 1 + x / 3 = (m : Int)) : nodesF (gA f x) = nN ((f + 1) / 2) m := by
  unfold nodesF halfF mlF
  rw [gA_g]
  show halve ((f + 1) / 2) 600 (1 + x / 3) (1 + x / 3, 1) = _
  rw [h]; rfl
/-- what Bounds answers of such a Config -/
theorem gA_bd (f x : Int) (m : Nat) (hf : 3 ≤ f ∧ f ≤ 8) (hx : 1 ≤ x ∧ x ≤ 383) (h : 1 + x / 3 = (m : Int)) :
    ∃ nd : Nat, nd < 270 ∧ (nN ((f + 1) / 2) m).1 = (nd : Int) ∧ bdOk (gA f x) = true ∧ bdR (gA f x) = bdC (gA f x) (lvF ((2 * nd : Nat) : Int) 17 1) := by
  have hm : m < 130 := by omega
  have s := nN_step m hm
  have hh : (f + 1) / 2 = 2 ∨ (f + 1) / 2 = 3 ∨ (f + 1) / 2 = 4 := by omega
  have hb : 0 ≤ (nN ((f + 1) / 2) m).1 ∧ (nN ((f + 1) / 2) m).1 < 270 := by
    rcases hh with e | e | e <;> rw [e]
    · exact s.2.2.2.2.1
    · exact s.2.2.2.2.2.1
    · exact s.2.2.2.2.2.2
  refine ⟨(nN ((f + 1) / 2) m).1.toNat, by omega, by omega, ?_⟩
  have hn : ((nN ((f + 1) / 2) m).1.toNat : Int) = (nN ((f + 1) / 2) m).1 := by omega
  have hp := part_half (nN ((f + 1) / 2) m).1.toNat (by omega)
  rw [hn] at hp
  have hp' : PartIs (nodesF (gA f x)).1 (gA f x).fl ((2 * (nN ((f + 1) / 2) m).1.toNat : Nat) : Int) true := by rw [gA_nodes f x m h]; exact hp
  have hl := (part_half0 (nN ((f + 1) / 2) m).1.toNat (by omega)).2.2.2.2
  exact bd_of (gA_nums f x hf ⟨hx.1, by omega⟩) hp' rfl (by omega)
/-- more keys, the same width -/
theorem grow_keys (f x y : Int) (hf : 3 ≤ f ∧ f ≤ 6) (hx : 1 ≤ x) (hxy : x ≤ y) (hy : y ≤ 383) :
    bdOk (gA f x) = true ∧ bdOk (gA f y) = true ∧ (bdR (gA f x)).nd ≤ (bdR (gA f y)).nd ∧ (bdR (gA f x)).lv ≤ (bdR (gA f y)).lv ∧ (bdR (gA f x)).ml ≤ (bdR (gA f y)).ml ∧ (bdR (gA f x)).h ≤ (bdR (gA f y)).h ∧ (bdR (gA f x)).bs ≤ (bdR (gA f y)).bs := by
  have h1 : 1 + x / 3 = ((1 + x / 3).toNat : Int) := by omega
  have h2 : 1 + y / 3 = ((1 + y / 3).toNat : Int) := by omega
  obtain ⟨n, hn1, hn2, hn3, hn4⟩ := gA_bd f x _ ⟨hf.1, by omega⟩ ⟨hx, by omega⟩ h1
  obtain ⟨k, hk1, hk2, hk3, hk4⟩ := gA_bd f y _ ⟨hf.1, by omega⟩ ⟨by omega, hy⟩ h2
  obtain ⟨d, hd⟩ : ∃ d, (1 + y / 3).toNat = (1 + x / 3).toNat + d := ⟨(1 + y / 3).toNat - (1 + x / 3).toNat, by omega⟩
  have hm := nN_mono ((f + 1) / 2) (by omega) (1 + x / 3).toNat d (by omega)
  rw [← hd] at hm
  have hnk : n ≤ k := by omega
  have hl := lv_mono n (k - n) (by omega)
  rw [show n + (k - n) = k by omega] at hl
  have hl1 := (part_half0 n hn1).2.2.2.2
  have hl2 := (part_half0 k hk1).2.2.2.2
  rw [hn4, hk4]
  refine ⟨hn3, hk3, ?_⟩
  have e1 := gA_nodes f x _ h1
  have e2 := gA_nodes f y _ h2
  have hce := nodeLong_bd (k := 4) (v := 8) (c := 1) (f := f) (m := 16) (l := 6) (n := 3) (x := 1) (z := 4) ⟨by omega, by omega, by omega, by omega, by omega, by omega, by omega, by omega, by omega, by omega⟩
  generalize hlx : lvF ((2 * n : Nat) : Int) 17 1 = lx at *
  generalize hly : lvF ((2 * k : Nat) : Int) 17 1 = ly at *
  have hmx : mlF (gA f x) ≤ mlF (gA f y) := by unfold mlF; rw [gA_g, gA_g]; show 1 + x / 3 ≤ 1 + y / 3; omega
  unfold bdC
  rw [e1, e2]
  refine ⟨hm.1, hl, hmx, hm.2, ?_⟩
  simp only [gA]
  have hq : (nN ((f + 1) / 2) (1 + x / 3).toNat).1 * (8 + nodeLong 4 8 f 16 6) ≤ (nN ((f + 1) / 2) (1 + y / 3).toNat).1 * (8 + nodeLong 4 8 f 16 6) := Int.mul_le_mul_of_nonneg_right hm.1 (by omega)
  have hmm := hm.1
  generalize (nN ((f + 1) / 2) (1 + x / 3).toNat).1 = a at *
  generalize (nN ((f + 1) / 2) (1 + y / 3).toNat).1 = b at *
  generalize nodeLong 4 8 f 16 6 = ce at *
  generalize a * (8 + ce) = p at *
  generalize b * (8 + ce) = q at *
  have hbl : 0 < 22 + max (max (4 * (8 + ce)) (12 + (1 + max (4 + 8 + 5) (2 * 4 + 8)))) 16 - 22 := by omega
  generalize 22 + max (max (4 * (8 + ce)) (12 + (1 + max (4 + 8 + 5) (2 * 4 + 8)))) 16 = bl at *
  have hdiv := Int.ediv_le_ediv hbl (show 12 * a + 4 + p + (2 * lx - 1 + 7) / 8 + 1 * (4 + 8 + 5) + 45 + bl - 23 ≤ 12 * b + 4 + q + (2 * ly - 1 + 7) / 8 + 1 * (4 + 8 + 5) + 45 + bl - 23 by omega)
  omega
/-- wider nodes -/
theorem grow_wide (f y : Int) (hf : 3 ≤ f ∧ f ≤ 6) (hx : 1 ≤ y) (hy : y ≤ 383) :
    bdOk (gA 8 y) = true ∧ (bdR (gA 8 y)).h ≤ (bdR (gA f y)).h ∧ (bdR (gA 8 y)).ml = (bdR (gA f y)).ml := by
  have h1 : 1 + y / 3 = ((1 + y / 3).toNat : Int) := by omega
  obtain ⟨n, hn1, hn2, hn3, hn4⟩ := gA_bd f y _ ⟨hf.1, by omega⟩ ⟨hx, by omega⟩ h1
  obtain ⟨k, hk1, hk2, hk3, hk4⟩ := gA_bd 8 y _ ⟨by omega, by omega⟩ ⟨by omega, hy⟩ h1
  refine ⟨hk3, ?_⟩
  rw [hn4, hk4]
  have e1 := gA_nodes f y _ h1
  have e2 := gA_nodes 8 y _ h1
  unfold bdC
  rw [e1, e2]
  refine ⟨?_, ?_⟩
  · have s := nN_step (1 + y / 3).toNat (by omega)
    have hh : (f + 1) / 2 = 2 ∨ (f + 1) / 2 = 3 := by omega
    rcases hh with e | e <;> rw [e]
    · exact s.2.2.1
    · exact s.2.2.2.1
  · show mlF (gA 8 y) = mlF (gA f y)
    unfold mlF
    rw [gA_g, gA_g]
    rfl
end Go.Proofs.Ytldeohbfhigagaa
