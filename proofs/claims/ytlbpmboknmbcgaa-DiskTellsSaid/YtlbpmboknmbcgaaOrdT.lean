/- The order check of DiskTells' large region, in chunks. -/
import Derived.Test.YtlbpmboknmbcgaaLin
import Derived.Test.YtlbpmboknmbcgaaBytes
import Derived.KernelRfl
namespace Go.Proofs.Ytlbpmboknmbcgaa
open Go.RowKit

def findR : Code → Nat → Option (Array Oper)
  | .region id ops _, n => if id = n then some ops else none
  | .seq a b, n => match findR a n with | some r => some r | none => findR b n
  | .cond _ a b, n => match findR a n with | some r => some r | none => findR b n
  | .block _ a, n => findR a n
  | .loop a, n => findR a n
  | .scope a, n => findR a n
  | _, _ => none
def opsOf (f : Func) (n : Nat) : Array Oper := match f.body with | some c => (findR c n).getD #[] | none => #[]
def okTo (ops : Array Oper) : List (Nat × Bool) → Array Bool → Bool
  | [], _ => true
  | (i, true) :: rest, listed => Region.free .any ops listed i && (Region.ready .any ops listed).contains i && okTo ops rest (listed.setIfInBounds i true)
  | (i, false) :: rest, listed => Region.ready .any ops listed == [i] && okTo ops rest (listed.setIfInBounds i true)
def runS : List (Nat × Bool) → Array Bool → Array Bool
  | [], l => l
  | (i, _) :: rest, l => runS rest (l.setIfInBounds i true)
theorem okOrd_app {ops : Array Oper} : ∀ (s1 s2 : List (Nat × Bool)) (l : Array Bool), okTo ops s1 l = true → okOrd ops s2 (runS s1 l) = true → okOrd ops (s1 ++ s2) l = true
  | [], _, _, _, h => h
  | (i, true) :: rest, s2, l, h1, h2 => by
    simp only [okTo, Bool.and_eq_true] at h1
    simp only [List.cons_append, okOrd, Bool.and_eq_true]
    exact ⟨h1.1, okOrd_app rest s2 _ h1.2 h2⟩
  | (i, false) :: rest, s2, l, h1, h2 => by
    simp only [okTo, Bool.and_eq_true] at h1
    simp only [List.cons_append, okOrd, Bool.and_eq_true]
    exact ⟨h1.1, okOrd_app rest s2 _ h1.2 h2⟩
def sgT (a n : Nat) : List (Nat × Bool) := (List.range' a n).map fun i => (i, true)
def litT (k n : Nat) : Array Bool := (List.replicate k true ++ List.replicate (n - k) false).toArray
noncomputable def opsT : Array Oper := opsOf Try.f5 14
theorem sizeT : opsT.size = 97 := by kernel_rfl
theorem chT0 : okTo opsT (sgT 0 6) (litT 0 97) = true := by kernel_rfl
theorem rnT0 : runS (sgT 0 6) (litT 0 97) = litT 6 97 := by kernel_rfl
theorem chT6 : okTo opsT (sgT 6 6) (litT 6 97) = true := by kernel_rfl
theorem rnT6 : runS (sgT 6 6) (litT 6 97) = litT 12 97 := by kernel_rfl
theorem chT12 : okTo opsT (sgT 12 6) (litT 12 97) = true := by kernel_rfl
theorem rnT12 : runS (sgT 12 6) (litT 12 97) = litT 18 97 := by kernel_rfl
theorem chT18 : okTo opsT (sgT 18 6) (litT 18 97) = true := by kernel_rfl
theorem rnT18 : runS (sgT 18 6) (litT 18 97) = litT 24 97 := by kernel_rfl
theorem chT24 : okTo opsT (sgT 24 6) (litT 24 97) = true := by kernel_rfl
theorem rnT24 : runS (sgT 24 6) (litT 24 97) = litT 30 97 := by kernel_rfl
theorem chT30 : okTo opsT (sgT 30 6) (litT 30 97) = true := by kernel_rfl
theorem rnT30 : runS (sgT 30 6) (litT 30 97) = litT 36 97 := by kernel_rfl
theorem chT36 : okTo opsT (sgT 36 6) (litT 36 97) = true := by kernel_rfl
theorem rnT36 : runS (sgT 36 6) (litT 36 97) = litT 42 97 := by kernel_rfl
theorem chT42 : okTo opsT (sgT 42 6) (litT 42 97) = true := by kernel_rfl
theorem rnT42 : runS (sgT 42 6) (litT 42 97) = litT 48 97 := by kernel_rfl
theorem chT48 : okTo opsT (sgT 48 6) (litT 48 97) = true := by kernel_rfl
theorem rnT48 : runS (sgT 48 6) (litT 48 97) = litT 54 97 := by kernel_rfl
theorem chT54 : okTo opsT (sgT 54 6) (litT 54 97) = true := by kernel_rfl
theorem rnT54 : runS (sgT 54 6) (litT 54 97) = litT 60 97 := by kernel_rfl
theorem chT60 : okTo opsT (sgT 60 6) (litT 60 97) = true := by kernel_rfl
theorem rnT60 : runS (sgT 60 6) (litT 60 97) = litT 66 97 := by kernel_rfl
theorem chT66 : okTo opsT (sgT 66 6) (litT 66 97) = true := by kernel_rfl
theorem rnT66 : runS (sgT 66 6) (litT 66 97) = litT 72 97 := by kernel_rfl
theorem chT72 : okTo opsT (sgT 72 6) (litT 72 97) = true := by kernel_rfl
theorem rnT72 : runS (sgT 72 6) (litT 72 97) = litT 78 97 := by kernel_rfl
theorem chT78 : okTo opsT (sgT 78 6) (litT 78 97) = true := by kernel_rfl
theorem rnT78 : runS (sgT 78 6) (litT 78 97) = litT 84 97 := by kernel_rfl
theorem chT84 : okTo opsT (sgT 84 6) (litT 84 97) = true := by kernel_rfl
theorem rnT84 : runS (sgT 84 6) (litT 84 97) = litT 90 97 := by kernel_rfl
theorem chT90 : okTo opsT (sgT 90 6) (litT 90 97) = true := by kernel_rfl
theorem rnT90 : runS (sgT 90 6) (litT 90 97) = litT 96 97 := by kernel_rfl
theorem chT96 : okTo opsT (sgT 96 1) (litT 96 97) = true := by kernel_rfl
theorem rnT96 : runS (sgT 96 1) (litT 96 97) = litT 97 97 := by kernel_rfl
theorem enT : okOrd opsT [] (litT 97 97) = true := by kernel_rfl
theorem okT : okOrd opsT (sgT 0 97) (Array.replicate 97 false) = true := by
  have e : sgT 0 97 = sgT 0 6 ++ (sgT 6 6 ++ (sgT 12 6 ++ (sgT 18 6 ++ (sgT 24 6 ++ (sgT 30 6 ++ (sgT 36 6 ++ (sgT 42 6 ++ (sgT 48 6 ++ (sgT 54 6 ++ (sgT 60 6 ++ (sgT 66 6 ++ (sgT 72 6 ++ (sgT 78 6 ++ (sgT 84 6 ++ (sgT 90 6 ++ (sgT 96 1 ++ ([]))))))))))))))))) := by kernel_rfl
  have e0 : Array.replicate 97 false = litT 0 97 := by kernel_rfl
  rw [e, e0]
  refine okOrd_app _ _ _ chT0 ?_
  rw [rnT0]
  refine okOrd_app _ _ _ chT6 ?_
  rw [rnT6]
  refine okOrd_app _ _ _ chT12 ?_
  rw [rnT12]
  refine okOrd_app _ _ _ chT18 ?_
  rw [rnT18]
  refine okOrd_app _ _ _ chT24 ?_
  rw [rnT24]
  refine okOrd_app _ _ _ chT30 ?_
  rw [rnT30]
  refine okOrd_app _ _ _ chT36 ?_
  rw [rnT36]
  refine okOrd_app _ _ _ chT42 ?_
  rw [rnT42]
  refine okOrd_app _ _ _ chT48 ?_
  rw [rnT48]
  refine okOrd_app _ _ _ chT54 ?_
  rw [rnT54]
  refine okOrd_app _ _ _ chT60 ?_
  rw [rnT60]
  refine okOrd_app _ _ _ chT66 ?_
  rw [rnT66]
  refine okOrd_app _ _ _ chT72 ?_
  rw [rnT72]
  refine okOrd_app _ _ _ chT78 ?_
  rw [rnT78]
  refine okOrd_app _ _ _ chT84 ?_
  rw [rnT84]
  refine okOrd_app _ _ _ chT90 ?_
  rw [rnT90]
  refine okOrd_app _ _ _ chT96 ?_
  rw [rnT96]
  exact enT
end Go.Proofs.Ytlbpmboknmbcgaa
