/- Padded texts and sums: the walks of le and of the reference. -/
import Derived.Test.YtmdmhjcdaejlkaaSealP
import Derived.Lib.Hide
import Derived.Test.YtmdmhjcdaejlkaaLe
set_option linter.unusedVariables false
set_option linter.unusedSimpArgs false
namespace Go.Proofs.Ytmdmhjcdaejlkaa
open Go.RowKit

theorem zeroL_snoc (xs : List UInt8) (k : Nat) (h : k < xs.length) : zeroL (xs.take (k + 1)) = (zeroL (xs.take k) && (xs.getD k 0 == 0)) := by
  unfold zeroL
  rw [List.take_succ_eq_append_getElem h, List.all_append, List.getD_eq_getElem?_getD, List.getElem?_eq_getElem h]
  simp
theorem zeroL_part {xs : List UInt8} {k : Nat} (h : k < xs.length) (hk : xs.getD k 0 ≠ 0) : zeroL xs = false := by
  unfold zeroL
  rw [List.all_eq_false]
  refine ⟨xs[k], List.getElem_mem h, ?_⟩
  rw [List.getD_eq_getElem?_getD, List.getElem?_eq_getElem h] at hk
  simpa using hk
theorem c_leZero (A : Option Addr) (n c : Nat) (xs : List UInt8) (w : World) (hR : RdB w A n xs) (hm : n ≤ maxLen) (r : Bool) (hr : zeroL xs = r) :
    Calls Try.prog 94 #[.slice A n c] w fun e w' => e = .returned (.bool r) ∧ w = w' := by
  unfold maxLen at hm
  have HL := Lib.hid (RdB.len hR)
  have HR := Lib.hid hr
  clear hr
  go_enter Try.func94, Try.ntmps94
  go_wp2
  go_loop [7] (fun i => ∃ k : Nat, k ≤ n ∧ i = .int .i64 (k : Int) ∧ zeroL (xs.take k) = true) (fun i => n - (intOf i).toNat)
  case atStart => exact ⟨0, by omega, rfl, rfl⟩
  case round =>
    obtain ⟨k, hk, rfl, hz⟩ := hrel
    have HZ := Lib.hid hz
    clear hz
    by_cases hlt : k < n
    · have hlt2 : (k : Int) < (n : Int) := by omega
      obtain ⟨ad, rfl, hc⟩ := RdB.at_ hR (j := k) hlt
      rw [← List.getD_eq_getElem?_getD] at hc
      have hs := zeroL_snoc xs k (by rw [HL.out]; exact hlt)
      by_cases h0 : xs.getD k 0 = 0
      · rw [HZ.out, h0] at hs
        rw [h0] at hc
        simp only [show ((0 : UInt8).toNat : Int) = 0 from rfl] at hc
        have HS := Lib.hid hs
        clear hs h0
        go_wp2
        go_round
        case rel => exact ⟨k + 1, by omega, by go_num, HS.out⟩
        case measure => simp [intOf]; omega
      · have h0' : ¬ ((xs.getD k 0).toNat : Int) = 0 := by
          intro h
          have h' : (xs.getD k 0).toNat = 0 := by omega
          exact h0 (UInt8.toNat_inj.1 (by rw [h']; rfl))
        have hf := zeroL_part (by rw [HL.out]; exact hlt) h0
        rw [HR.out] at hf
        subst hf
        clear hs h0
        generalize xs.getD k 0 = x at *
        have hne : (((x.toNat : Int)) != 0) = true := by simpa using h0'
        go_wp2
        go_ret
        exact ⟨rfl, rfl⟩
    · obtain rfl : k = n := by omega
      have hq := HZ.out
      rw [List.take_of_length_le (by rw [HL.out]; exact Nat.le_refl _), HR.out] at hq
      subst hq
      go_wp2
      go_ret
      exact ⟨rfl, rfl⟩
theorem sumI_take (xs : List UInt8) (k : Nat) (h : k < xs.length) : sumI (xs.take (k + 1)) = sumStep (sumI (xs.take k)) (xs.getD k 0) := by
  rw [List.take_succ_eq_append_getElem h, sumI_snoc, List.getD_eq_getElem?_getD, List.getElem?_eq_getElem h]
  rfl
theorem c_rSum (A : Option Addr) (n c : Nat) (xs : List UInt8) (w : World) (hR : RdB w A n xs) (hm : n ≤ maxLen) :
    Calls Try.prog 68 #[.slice A n c] w fun e w' => e = .returned (.int .u64 (sumN xs : Nat)) ∧ w = w' := by
  unfold maxLen at hm
  have HL := Lib.hid (RdB.len hR)
  go_enter Try.func68, Try.ntmps68
  go_wp2
  go_loop [3, 4] (fun h i => ∃ k : Nat, k ≤ n ∧ i = .int .i64 (k : Int) ∧ h = .int .u64 (sumI (xs.take k))) (fun _ i => n - (intOf i).toNat)
  case atStart => exact ⟨0, by omega, rfl, rfl⟩
  case round =>
    obtain ⟨k, hk, rfl, rfl⟩ := hrel
    by_cases hlt : k < n
    · have hlt2 : (k : Int) < (n : Int) := by omega
      obtain ⟨ad, rfl, hc⟩ := RdB.at_ hR (j := k) hlt
      rw [← List.getD_eq_getElem?_getD] at hc
      have hs := sumI_take xs k (by rw [HL.out]; exact hlt)
      have HS := Lib.hid hs
      clear hs
      generalize sumI (xs.take k) = h0 at *
      generalize xs.getD k 0 = x at *
      have hx := x.toNat_lt
      have hx2 : (x.toNat : Int) < 256 := by omega
      go_wp2
      go_round
      case rel => exact ⟨k + 1, by omega, by go_num, by rw [HS.out]; rfl⟩
      case measure => simp [intOf]; omega
    · obtain rfl : k = n := by omega
      rw [List.take_of_length_le (by rw [HL.out]; exact Nat.le_refl _), ← sumN_cast]
      go_wp2
      go_ret
      exact ⟨rfl, rfl⟩
end Go.Proofs.Ytmdmhjcdaejlkaa
