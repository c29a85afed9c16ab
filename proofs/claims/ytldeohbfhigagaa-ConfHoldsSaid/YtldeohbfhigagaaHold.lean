/- What is known of a small Config's Bounds: plain. -/
import Derived.Test.YtldeohbfhigagaaFil
import Derived.Test.YtldeohbfhigagaaSmall
set_option linter.unusedVariables false
set_option linter.unusedSimpArgs false
namespace Go.Proofs.Ytldeohbfhigagaa
open Go.RowKit Flo

/-- the least number of leaves' parts for so many nodes, by the Fill's number -/
def kOf (nd q : Nat) : Nat := if q = 0 then nd else if q = 1 then 2 * nd else if q = 2 then (4 * nd + 2) / 3 else (5 * nd + 2) / 3
theorem part_small0 : ∀ q, q < 4 → ∀ n, n < 25 → enB n (fillF q) big = true ∧ enB n (fillF q) (kOf n q) = true ∧ (kOf n q = 0 ∨ enB n (fillF q) (kOf n q - 1) = false) ∧ kOf n q ≤ 64 ∧ partOk n (fillF q) = true ∧
    enB n (fillF q) (lvF (kOf n q : Nat) 17 1).toNat = true ∧ (lvF (kOf n q : Nat) 17 1 = 1 ∨ enB n (fillF q) ((lvF (kOf n q : Nat) 17 1) / 2).toNat = false) ∧ 1 ≤ lvF (kOf n q : Nat) 17 1 ∧ lvF (kOf n q : Nat) 17 1 ≤ 64 := by decide +kernel
theorem sm_good (a : Cfg) : (smF a).nums = true := by
  unfold smF Cfg.nums okNums win
  simp only
  have hp : ∃ p, (a.f % 2 + 3) * (a.c % 2 + 1) = p ∧ 3 ≤ p ∧ p ≤ 8 := by
    have : a.c % 2 = 0 ∨ a.c % 2 = 1 := by omega
    rcases this with h | h <;> rw [h] <;> exact ⟨_, rfl, by omega, by omega⟩
  obtain ⟨p, hp, h1, h2⟩ := hp
  rw [hp, IntWalk.i64_in p ⟨by omega, by omega⟩, IntWalk.i64_in (a.c % 2 + 1 + 1) ⟨by omega, by omega⟩]
  simp
  omega
/-- all small Configs' trees: nodes -/
theorem sm_nodes0 : ∀ m, m < 10 → 0 ≤ (nN 2 m).1 ∧ (nN 2 m).1 < 25 ∧ 1 ≤ (nN 2 m).2 ∧ (nN 2 m).2 ≤ 10 := by decide +kernel
structure SmIs (a : Cfg) (b : Bd) (nd q : Nat) : Prop where
  ok : bdOk (smF a) = true
  eq : bdR (smF a) = b
  bd : b = bdC (smF a) (lvF (kOf nd q : Nat) 17 1)
  ndI : b.nd = (nd : Int)
  ndl : nd < 25
  ql : q < 4
  fl : (smF a).fl = fillF q
  lvI : b.lv = lvF (kOf nd q : Nat) 17 1
  g1 : 1 ≤ b.g
  g2 : b.g ≤ ((smF a).l + (smF a).c + 1) / 2
  g3 : b.g = (smF a).l + 1 - ((smF a).l + (smF a).c + 1) / 2
  mlI : b.ml = 1 + (smF a).x / b.g
  hf2 : b.hf = 2
  nn : (b.nd, b.h) = halve 2 600 b.ml (b.ml, 1)
  ml1 : 1 ≤ b.ml
  ml2 : b.ml ≤ 9
theorem sm_is (a : Cfg) : ∃ nd q : Nat, SmIs a (bdR (smF a)) nd q := by
  have hc : (smF a).c = a.c % 2 + 1 := rfl
  have hl : (smF a).l = a.c % 2 + 1 + 1 + a.l % 2 := rfl
  have hx : (smF a).x = a.x % 8 + 1 := rfl
  have hff : (smF a).f = a.f % 2 + 3 := rfl
  have hg : gF (smF a) = (smF a).l + 1 - ((smF a).l + (smF a).c + 1) / 2 := rfl
  have hg1 : 1 ≤ gF (smF a) := by rw [hg, hl, hc]; omega
  have hg2 : gF (smF a) ≤ ((smF a).l + (smF a).c + 1) / 2 := by rw [hg, hl, hc]; omega
  have hm : mlF (smF a) = 1 + (smF a).x / gF (smF a) := rfl
  have hq0 : 0 ≤ (smF a).x / gF (smF a) := Int.ediv_nonneg (by rw [hx]; omega) (by omega)
  have hq1 : (smF a).x / gF (smF a) ≤ 8 := Int.le_trans (Int.ediv_le_self _ (by rw [hx]; omega)) (by rw [hx]; omega)
  have hh : halfF (smF a) = 2 := by unfold halfF; rw [hff]; omega
  obtain ⟨m, hmm⟩ : ∃ m : Nat, mlF (smF a) = (m : Int) := ⟨(mlF (smF a)).toNat, by omega⟩
  have hnn : nodesF (smF a) = nN 2 m := by unfold nodesF; rw [hh, hmm]; rfl
  have hs := sm_nodes0 m (by omega)
  obtain ⟨nd, hnd⟩ : ∃ nd : Nat, (nN 2 m).1 = (nd : Int) := ⟨(nN 2 m).1.toNat, by omega⟩
  have hfl : (smF a).fl = fillF (a.l / 16 % 4).toNat := rfl
  have hqn : (a.l / 16 % 4).toNat < 4 := by omega
  generalize (a.l / 16 % 4).toNat = q at *
  obtain ⟨e1, e2, e3, e4, e5, e6, e7, e8, e9⟩ := part_small0 q hqn nd (by omega)
  have hp : PartIs (nodesF (smF a)).1 (smF a).fl ((kOf nd q : Nat) : Int) true := by
    rw [hnn, hnd, hfl]
    exact PartIs.yes e5 e1 (by unfold big; omega) e2 e3
  obtain ⟨b1, b2⟩ := bd_of (sm_good a) hp rfl (by omega)
  refine ⟨nd, q, b1, rfl, b2, ?_, by omega, hqn, hfl, ?_, ?_, ?_, ?_, ?_, ?_, ?_, ?_, ?_⟩
  all_goals rw [b2]
  · show (nodesF (smF a)).1 = _; rw [hnn, hnd]
  · rfl
  · exact hg1
  · exact hg2
  · exact hg
  · exact hm
  · exact hh
  · show ((nodesF (smF a)).1, (nodesF (smF a)).2) = halve 2 600 (mlF (smF a)) (mlF (smF a), 1)
    unfold nodesF; rw [hh]
  · show 1 ≤ mlF (smF a); omega
  · show mlF (smF a) ≤ 9; omega
end Go.Proofs.Ytldeohbfhigagaa
