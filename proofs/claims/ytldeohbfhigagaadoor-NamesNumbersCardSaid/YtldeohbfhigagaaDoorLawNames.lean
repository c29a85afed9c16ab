/- The walk of NamesNumbers. -/
import Derived.Test.YtldeohbfhigagaaDoorProg
import Derived.Test.YtldeohbfhigagaaDoorMem
import Derived.Test.YtldeohbfhigagaaDoorPathE
import Derived.Test.YtldeohbfhigagaaDoorLin
set_option linter.unusedVariables false
set_option linter.unusedSimpArgs false
namespace Go.Proofs.YtldeohbfhigagaaDoor
open Go.RowKit

def namesL : List Int := [0, 0, 1, 1, 2, 2, 3, 3, 4, 4, 5, 5, 6, 6, 7, 7, 8, 8, 100, 100, 100000, 100000, 60000, 60000, 1, 1, 2, 2, 3, 3, 4, 4, 0, 0, 1, 1, 2, 2, 3, 3, 1, 1, 2, 2, 3, 3, 4, 4, 5, 5, 6, 6]
theorem c_itoa8 (w : World) : Calls Tryd.prog 22 #[.int .i64 8] w fun e w' => e = .returned (.string ⟨#[101, 114, 114, 111, 114, 32, 56]⟩) ∧ Below w.heap.size w w' := by
  go_enter Tryd.func22, Tryd.ntmps22
  go_wp2
  go_ret
  exact ⟨congrArg (fun b => Ending.returned (.string b)) (by decide +kernel), Below.refl _ _⟩
theorem c_itoa0 (w : World) : Calls Tryd.prog 22 #[.int .i64 0] w fun e w' => e = .returned (.string ⟨#[101, 114, 114, 111, 114, 32, 48]⟩) ∧ Below w.heap.size w w' := by
  go_enter Tryd.func22, Tryd.ntmps22
  go_wp2
  go_ret
  exact ⟨congrArg (fun b => Ending.returned (.string b)) (by decide +kernel), Below.refl _ _⟩
set_option maxRecDepth 100000 in
set_option maxHeartbeats 4000000 in
theorem c_all (w : World) : Calls Tryd.prog 21 #[] w fun e w' => ∃ g, e = .returned (.slice (some ⟨g, 0, none⟩) 26 26) ∧ Rd w' (some ⟨g, 0, none⟩) 52 (iv namesL) ∧ Below w.heap.size w w' := by
  go_enter Tryd.func21, Tryd.ntmps21
  go_wp2
  go_ret
  exact ⟨_, rfl, rd_lit w (iv namesL) 40 (0, 0) 52 rfl, below_alloc (Below.refl _ _) _⟩
theorem names_eq : ∀ i, i < 26 → namesL[2 * i]?.getD 0 = namesL[2 * i + 1]?.getD 0 := by decide +kernel
theorem names_cells {w : World} {g : Nat} (h : Rd w (some ⟨g, 0, none⟩) 52 (iv namesL)) (i : Nat) (hi : i < 26) : ∃ x, w.cell? ⟨g, i * 2, none⟩ = some (.int .i64 x) ∧ w.cell? ⟨g, i * 2 + 1, none⟩ = some (.int .i64 x) := by
  obtain ⟨ad, e, h1⟩ := Rd.int_at h (j := 2 * i) (by omega)
  obtain ⟨ad', e', h2⟩ := Rd.int_at h (j := 2 * i + 1) (by omega)
  cases e
  cases e'
  rw [← names_eq i hi] at h2
  rw [ad_none, Nat.zero_add] at h1 h2
  rw [Nat.mul_comm] at h1
  rw [Nat.mul_comm 2 i] at h2
  exact ⟨_, h1, by rw [h2, Nat.mul_comm]⟩
theorem triv_of {p : Prop} (h : p) : True := trivial
set_option maxHeartbeats 2000000 in
theorem w_NamesNumbers (w : World) (hh : True) : Calls Tryd.prog 7 #[] w fun e w' => e = .returned (.bool true) ∧ Below w.heap.size w w' := by
  go_enter Tryd.func7, Tryd.ntmps7
  go_wp2_with (go_at_call 21; refine (c_all _).mono ?_; rintro e w1 ⟨g, rfl, hr, hb⟩)
  go_loopw [2] (fun i wr => ∃ (j q : Nat), j ≤ 26 ∧ i = .int .i64 (j : Int) ∧ wr = w1.drewN q) (fun i _ => 26 - (intOf i).toNat)
  case atStart => exact ⟨0, 0, Nat.zero_le _, rfl, rfl⟩
  case round =>
    obtain ⟨j, q, hj, rfl, rfl⟩ := hrel
    by_cases hlt : j < 26
    · obtain ⟨x, c1, c2⟩ := names_cells hr j hlt
      have c1' : (w1.drewN q).cell? ⟨g, j * 2, none⟩ = some (.int .i64 x) := c1
      have c2' : (w1.drewN q).cell? ⟨g, j * 2 + 1, none⟩ = some (.int .i64 x) := c2
      clear hr
      go_wp2
      go_quiet (fail)
      go_wp2
      exact ⟨⟨j + 1, q + nq, by omega, by go_num, by first | rfl | exact (World.drewN_drewN _ _ _).symm⟩, by simp [intOf]; omega⟩
    · obtain rfl : j = 26 := by omega
      have hB := below_drewN hb q
      clear hr
      go_wp2_with fail
      refine (c_itoa8 _).mono ?_
      rintro e w2 ⟨rfl, hb2⟩
      go_wp2_with fail
      refine (c_itoa0 _).mono ?_
      rintro e w3 ⟨rfl, hb3⟩
      go_wp2
      go_ret
      exact ⟨rfl, below_two (below_two hB hb2) hb3⟩
end Go.Proofs.YtldeohbfhigagaaDoor
