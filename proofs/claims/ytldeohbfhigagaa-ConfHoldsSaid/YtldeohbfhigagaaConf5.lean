/- Contract of conf's leaves. -/
import Derived.Test.YtldeohbfhigagaaConf4
set_option linter.unusedVariables false
set_option linter.unusedSimpArgs false
namespace Go.Proofs.Ytldeohbfhigagaa
open Go.RowKit Flo

/-- what leaves answers, of what Part answered -/
structure LeavesIs (k : Int) (pk : Bool) (y : Int) (b : Bool) : Prop where
  pow : ∃ i : Nat, i ≤ 17 ∧ y = ((2 ^ i : Nat) : Int)
  least : y = 1 ∨ y < 2 * k
  far : k ≤ y ∨ 65536 < y
  ok : b = (pk && decide (y ≤ 65536))
theorem pow_tbl : ∀ i, i < 18 → 1 ≤ 2 ^ i ∧ 2 ^ i ≤ 131072 ∧ (i < 17 → 2 ^ i ≤ 65536) ∧ (2 ^ i ≤ 65536 → i < 17) := by decide
def LeavesAns (nd : Int) (fl : Nat) (w : World) (e : Ending) (w' : World) : Prop :=
  ∃ k pk y b, PartIs nd fl k pk ∧ LeavesIs k pk y b ∧ e = .returned (.tuple #[.int .i64 y, .bool b]) ∧ Below w.heap.size w w'
theorem c_leaves (nd : Int) (fl : Nat) (w : World) (hf : W64 fl) (hn : -9223372036854775808 ≤ nd ∧ nd ≤ 9223372036854775807) :
    Calls Try.prog 53 #[.int .i64 nd, .float .f64 fl] w (LeavesAns nd fl w) := by
  go_enter Try.func53, Try.ntmps53
  go_wp2_with (go_at_call 25; refine (c_part _ _ _ hf hn).mono ?_; rintro e w1 ⟨k, pk, rfl, hp, hb⟩)
  go_loopw [8] (fun s8 wr => ∃ (i : Nat) (y : Int), i ≤ 17 ∧ y = ((2 ^ i : Nat) : Int) ∧ (y = 1 ∨ y < 2 * k) ∧ s8 = .int .i64 y ∧ wr = w1) (fun s8 _ => (131072 - intOf s8).toNat)
  case atStart => exact ⟨0, 1, by omega, rfl, .inl rfl, rfl, by first | trivial | rfl⟩
  case round =>
    obtain ⟨i, y, hi, hy, hl, rfl, rfl⟩ := hrel
    obtain ⟨p1, p2, p3, p4⟩ := pow_tbl i (by omega)
    have y1 : 1 ≤ y := by omega
    have y2 : y ≤ 131072 := by omega
    by_cases h1 : y < k
    · by_cases h2 : y ≤ 65536
      · have hi2 : i < 17 := p4 (by omega)
        have hy3 : Hid (y * 2 = ((2 ^ (i + 1) : Nat) : Int)) := show y * 2 = ((2 ^ (i + 1) : Nat) : Int) by rw [Nat.pow_succ]; omega
        clear hy p1 p2 p3 p4
        go_wp2
        go_roundw
        case rel => exact ⟨i + 1, y * 2, by omega, hy3.out, by omega, by go_num, by first | trivial | rfl⟩
        case measure => simp [intOf]; omega
      · have HL : LeavesIs k pk y false := ⟨⟨i, hi, hy⟩, hl, by omega, by simp [h2]⟩
        clear hy p1 p2 p3 p4
        cases pk
        all_goals
          go_wp2
          go_ret2
          exact ⟨_, _, _, _, hp, HL, rfl, hb⟩
    · have HL : LeavesIs k pk y (pk && decide (y ≤ 65536)) := ⟨⟨i, hi, hy⟩, hl, by omega, rfl⟩
      clear hy p1 p2 p3 p4
      cases pk
      · go_wp2
        go_ret2
        exact ⟨_, _, _, _, hp, HL, rfl, hb⟩
      · by_cases h2 : y ≤ 65536
        all_goals
          go_wp2
          go_ret2
          exact ⟨_, _, _, _, hp, HL, by simp [h2], hb⟩
end Go.Proofs.Ytldeohbfhigagaa
