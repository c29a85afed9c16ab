/- Contracts of the device: New and the small ones. -/
import Derived.Test.YtlbpmboknmbcgaaDisk
import Derived.Outline
set_option linter.unusedVariables false
set_option linter.unusedSimpArgs false
namespace Go.Proofs.Ytlbpmboknmbcgaa
open Go.RowKit

def dkNew (bl sz : Int) : Dk := ⟨min (max bl 0) 100000, min (max sz 0) 60000, fun _ => [], fun _ => [], 0, 0, [], -1, false, []⟩
theorem diskNew_at (w : World) (B S : Int) :
    DiskAt (((w.alloc (.map #[] 0)).alloc (.map #[] 0)).alloc (.cells #[.int .i64 B, .int .i64 S, .map (some w.heap.size), .map (some (w.heap.size + 1)), .slice none 0 0, .int .i64 (-1), .bool false, .slice none 0 0] 82)) w.heap.size (w.heap.size + 2) ⟨B, S, fun _ => [], fun _ => [], 0, 0, [], -1, false, []⟩ := by
  have e1 : (w.alloc (.map #[] 0)).heap.size = w.heap.size + 1 := by simp
  have e2 : ((w.alloc (.map #[] 0)).alloc (.map #[] 0)).heap.size = w.heap.size + 2 := by simp
  have m1 := MapI.new w
  have m2 := MapI.new (w.alloc (.map #[] 0))
  rw [e1] at m2
  have r := Row.new ((w.alloc (.map #[] 0)).alloc (.map #[] 0)) #[.int .i64 B, .int .i64 S, .map (some w.heap.size), .map (some (w.heap.size + 1)), .slice none 0 0, .int .i64 (-1), .bool false, .slice none 0 0] 82
  rw [e2] at r
  generalize hX : Obj.cells #[.int .i64 B, .int .i64 S, .map (some w.heap.size), .map (some (w.heap.size + 1)), .slice none 0 0, .int .i64 (-1), .bool false, .slice none 0 0] 82 = X at *
  have m1' : MapI (((w.alloc (.map #[] 0)).alloc (.map #[] 0)).alloc X) w.heap.size 0 (fun _ => .slice none 0 0) := m1.below (by rw [heap_alloc_old _ _ (by omega), heap_alloc_old _ _ (by omega)])
  have m2' : MapI (((w.alloc (.map #[] 0)).alloc (.map #[] 0)).alloc X) (w.heap.size + 1) 0 (fun _ => .slice none 0 0) := m2.below (by rw [heap_alloc_old _ _ (by omega)])
  exact ⟨⟨w.heap.size, w.heap.size + 1, _, _, r, by omega, by omega, by omega, by omega, ⟨_, m1', fun _ => BytesAt.nil_ _ _⟩, ⟨_, m2', fun _ => BytesAt.nil_ _ _⟩,
    ⟨[], rfl, fun k u x h => by simp at h, ⟨by simp, .inl ⟨rfl, rfl⟩⟩⟩, ⟨[], rfl, fun k u x h => by simp at h, ⟨by simp, .inl ⟨rfl, rfl⟩⟩⟩⟩⟩
set_option maxHeartbeats 1000000 in
theorem c_diskNew (bl sz : Int) (w : World) (h1 : -9223372036854775808 ≤ bl ∧ bl ≤ 9223372036854775807) (h2 : -9223372036854775808 ≤ sz ∧ sz ≤ 9223372036854775807) :
    Calls Try.prog 17 #[.int .i64 bl, .int .i64 sz] w fun e w' => ∃ b, e = .returned (.pointer (some ⟨b, 0, none⟩)) ∧ DiskAt w' w.heap.size b (dkNew bl sz) ∧ Below w.heap.size w w' := by
  have hmm := @run_makeMap Try.prog
  go_enter Try.func17, Try.ntmps17
  go_wp2
  all_goals
    go_ret
    refine ⟨_, rfl, ?_, below_alloc (below_alloc (below_alloc (Below.refl _ _) _) _) _⟩
    unfold dkNew
    first
    | (rw [show min (max bl 0) 100000 = 0 by omega]) | (rw [show min (max bl 0) 100000 = 100000 by omega]) | (rw [show min (max bl 0) 100000 = bl by omega])
    first
    | (rw [show min (max sz 0) 60000 = 0 by omega]) | (rw [show min (max sz 0) 60000 = 60000 by omega]) | (rw [show min (max sz 0) 60000 = sz by omega])
    exact diskNew_at w _ _
/-- whether there is such a place -/
def Dk.has (D : Dk) (at_ : Int) : Bool := decide (0 ≤ at_) && decide (at_ < D.blocks)
theorem c_diskHas (W : World) (base b : Nat) (D : Dk) (at_ : Int) (r : Bool) (h : DiskAt W base b D) (hr : D.has at_ = r) :
    Calls Try.prog 66 #[.pointer (some ⟨b, 0, none⟩), .int .i64 at_] W fun e w' => e = .returned (.bool r) ∧ W = w' := by
  obtain ⟨mS, mN, lv, tv, hrow, -⟩ := h.out
  have c0 := hrow.cell 0 rfl
  clear hrow
  obtain ⟨B, S, _, _, _, _, _, _, _, _⟩ := D
  unfold Dk.has at hr
  simp only at hr c0
  by_cases q1 : 0 ≤ at_
  · by_cases q2 : at_ < B
    · obtain rfl : true = r := by rw [← hr]; simp [q1, q2]
      go_enter Try.func66, Try.ntmps66
      go_wp2
      go_ret
      exact ⟨rfl, rfl⟩
    · obtain rfl : false = r := by rw [← hr]; simp [q1, q2]
      go_enter Try.func66, Try.ntmps66
      go_wp2
      go_ret
      exact ⟨rfl, rfl⟩
  · obtain rfl : false = r := by rw [← hr]; simp [q1]
    go_enter Try.func66, Try.ntmps66
    go_wp2
    go_ret
    exact ⟨rfl, rfl⟩
end Go.Proofs.Ytlbpmboknmbcgaa
