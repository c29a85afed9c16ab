/- Plain law of SealUnlike. -/
import Derived.Test.YtlbpmboknmbcgaaSealE
namespace Go.Proofs.Ytlbpmboknmbcgaa

/-- what SealUnlike needs of its three sealed words -/
structure Unl (boot seq other : Nat) (S : Nat) (a b c H : List UInt8) : Prop where
  la : a.length = S
  lb : b.length = S
  lc : c.length = S
  ab : a = b ↔ seq = other
  ac : a ≠ c
  ha : a.take 12 = H
  hc : c.take 12 = H

theorem unl_of (key : List UInt8) (boot seq other : Nat) (plain : List UInt8) (hq : seq < 18446744073709551616) (ho : other < 18446744073709551616) (hn : plain.length ≤ 300) :
    Unl boot seq other (plain.length + 30) (sealL key boot seq plain (plain.length + 30)) (sealL key boot other plain (plain.length + 30)) (sealL key boot seq (plain ++ [1]) (plain.length + 30)) (headL12 boot seq) := by
  refine ⟨sealL_length (by omega), sealL_length (by omega), sealL_length (by rw [List.length_append]; simp), ⟨fun h => ?_, fun h => by rw [h]⟩, fun h => ?_, sealL_take, sealL_take⟩
  · have h1 := congrArg (List.take 12) h
    rw [sealL_take, sealL_take] at h1
    have h2 := congrArg (List.drop 4) h1
    unfold headL12 at h2
    rw [List.drop_left' (leP_length _ _), List.drop_left' (leP_length _ _)] at h2
    have h3 := congrArg leN h2
    rw [leN_leP64 _ hq, leN_leP64 _ ho] at h3
    exact h3
  · have h1 := congrArg (List.drop 12) h
    rw [sealL_drop, sealL_drop] at h1
    have h2 := xorL_inj h1
    unfold innerL at h2
    have e1 : (padL plain (plain.length + 30 - 22)).length = plain.length + 30 - 22 + 2 := padL_length (by omega)
    have e2 : (padL (plain ++ [1]) (plain.length + 30 - 22)).length = plain.length + 30 - 22 + 2 := padL_length (by rw [List.length_append]; simp)
    have h3 := congrArg (List.take (plain.length + 30 - 22 + 2)) h2
    rw [List.take_left' e1, List.take_left' e2] at h3
    have h4 := padL_inj (by omega) (by rw [List.length_append]; simp) (by omega) h3
    have h5 := congrArg List.length h4
    rw [List.length_append] at h5
    simp at h5
end Go.Proofs.Ytlbpmboknmbcgaa
