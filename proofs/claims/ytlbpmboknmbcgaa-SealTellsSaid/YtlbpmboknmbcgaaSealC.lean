/- The reference's Unpad; le.Sum of its parts. -/
import Derived.Test.YtlbpmboknmbcgaaSealB
import Derived.Test.YtlbpmboknmbcgaaClone
set_option linter.unusedVariables false
set_option linter.unusedSimpArgs false
namespace Go.Proofs.Ytlbpmboknmbcgaa
open Go.RowKit

theorem drop_zero {b : List UInt8} {l k : Nat} (h : zeroL (b.drop l) = true) (h1 : l ≤ k) (h2 : k < b.length) : b.getD k 0 = 0 := by
  have := List.all_eq_true.1 h b[k] (by rw [List.mem_drop_iff_getElem]; exact ⟨k - l, by omega, by congr 1; try omega⟩)
  rw [List.getD_eq_getElem?_getD, List.getElem?_eq_getElem h2]
  simpa using this
set_option maxHeartbeats 1000000 in
set_option maxRecDepth 100000 in
theorem c_rUnpad (A : Option Addr) (n c : Nat) (b p : List UInt8) (m : Nat) (w : World) (hR : RdB w A n b) (hc : n ≤ c) (h2 : m ≤ 60000) (hu : unpadL b m = some p) :
    Calls Try.prog 47 #[.slice A n c, .int .i64 (m : Int)] w fun e w' => ∃ v, e = .returned (.tuple #[v, .bool true]) ∧ OwnB w' w.heap.size 5 v p ∧ Below w.heap.size w w' := by
  obtain ⟨u1, u2, u3, rfl⟩ := unpadL_yes hu
  have hlen := hR.len
  have hnm : n = m + 2 := by omega
  subst hnm
  clear hu u1
  have HL := Lib.hid hlen
  have hlt := le2_lt b
  obtain ⟨A1, e1, r1⟩ := cut_to hR hc 2 2 rfl (by omega)
  have ht8 : leN ((b.take 2).take 8) = leN (b.take 2) := by rw [List.take_of_length_le (l := b.take 2) (by rw [List.length_take]; omega)]
  have H8 := Lib.hid ht8
  clear ht8
  generalize hN : leN (b.take 2) = N at *
  have HN := Lib.hid hN
  clear hN
  obtain ⟨A3, e3, r3⟩ := cut_lh hR hc 2 (2 + (N : Int)) 2 (2 + N) rfl (by omega) (by omega) (by omega)
  rw [show 2 + N - 2 = N by omega] at e3 r3
  have q1 : ¬ (m : Int) < 0 := by omega
  have q2 : (m : Int) ≤ 60000 := by omega
  have q3 : (N : Int) ≤ (m : Int) := by omega
  have hl1 : ([] : List UInt8).length + N ≤ 140737488355328 := by simp; omega
  have HZ := Lib.hid u3
  have HO := own_empty w 5
  have hB := below_alloc (Below.refl w.heap.size w) (.cells #[] 5)
  have r3' := r3.below hB (Nat.le_refl _)
  have hsz : w.heap.size ≤ (w.alloc (.cells #[] 5)).heap.size := by simp
  clear u3 hlen hlt u2
  go_enter Try.func47, Try.ntmps47
  go_wp2_with (go_at_call 48; refine (c_rGet _ _ _ _ _ r1 (by decide)).mono ?_; rintro e w' ⟨rfl, rfl⟩; rw [H8.out])
  go_loop [7] (fun s7 => ∃ k : Nat, 2 + N ≤ k ∧ k ≤ m + 2 ∧ s7 = .int .i64 (k : Int)) (fun i => m + 2 - (intOf i).toNat)
  case atStart => exact ⟨2 + N, by omega, by omega, by congr 1; try omega⟩
  case round =>
    obtain ⟨k, hk1, hk2, rfl⟩ := hrel
    by_cases hlt : k < m + 2
    · have hlt2 : (k : Int) < ((m + 2 : Nat) : Int) := by omega
      have hlt3 : (k : Int) < (m : Int) + 2 := by omega
      obtain ⟨ad, rfl, hcc⟩ := RdB.at_ hR (j := k) hlt
      rw [← List.getD_eq_getElem?_getD, drop_zero HZ.out hk1 (by rw [HL.out]; exact hlt)] at hcc
      simp only [show ((0 : UInt8).toNat : Int) = 0 from rfl] at hcc
      go_wp2
      go_round
      case rel => exact ⟨k + 1, by omega, by omega, by go_num⟩
      case measure => simp [intOf]; omega
    · obtain rfl : k = m + 2 := by omega
      have hlt3 : ¬ ((m + 2 : Nat) : Int) < (m : Int) + 2 := by omega
      go_wp2_with (at_builtin; refine wpl_cat (w0 := w) rfl _ _ 22 rfl w.heap.size 5 Try.underlying22 info_u8 HO rfl r3' rfl hB hsz hl1 ?_; intro v2 w2 ho2 hb2 hg2 hv2)
      go_ret2
      exact ⟨_, rfl, ho2, hb2⟩
set_option maxHeartbeats 1000000 in
set_option maxRecDepth 100000 in
theorem c_rUnpadNo (A : Option Addr) (n c : Nat) (b : List UInt8) (m : Nat) (w : World) (hR : RdB w A n b) (hc : n ≤ c) (hn : n = m + 2) (hm : m ≤ 1000000) (hu : 60000 < m ∨ unpadL b m = none) :
    Calls Try.prog 47 #[.slice A n c, .int .i64 (m : Int)] w fun e w' => e = .returned (.tuple #[.slice none 0 0, .bool false]) ∧ w = w' := by
  have hlen := hR.len
  subst hn
  have q1 : ¬ (m : Int) < 0 := by omega
  by_cases h6 : 60000 < m
  · have q2 : 60000 < (m : Int) := by omega
    clear hu
    go_enter Try.func47, Try.ntmps47
    go_wp2
    go_ret2
    exact ⟨rfl, rfl⟩
  · have q2 : (m : Int) ≤ 60000 := by omega
    have hu' := unpadL_none (hu.resolve_left h6) hlen
    clear hu
    have hlt := le2_lt b
    obtain ⟨A1, e1, r1⟩ := cut_to hR hc 2 2 rfl (by omega)
    have ht8 : leN ((b.take 2).take 8) = leN (b.take 2) := by rw [List.take_of_length_le (l := b.take 2) (by rw [List.length_take]; omega)]
    have H8 := Lib.hid ht8
    have HL := Lib.hid hlen
    clear ht8 hlen h6
    generalize leN (b.take 2) = N at *
    have q4 : (N : Int) ≤ 70000 := by omega
    clear hlt
    rcases hu' with h | ⟨h, hz⟩
    · have q3 : ¬ (N : Int) ≤ (m : Int) := by omega
      go_enter Try.func47, Try.ntmps47
      go_wp2_with (go_at_call 48; refine (c_rGet _ _ _ _ _ r1 (by decide)).mono ?_; rintro e w' ⟨rfl, rfl⟩; rw [H8.out])
      go_ret2
      exact ⟨rfl, rfl⟩
    · have q3 : (N : Int) ≤ (m : Int) := by omega
      have HZ := Lib.hid hz
      clear hz
      go_enter Try.func47, Try.ntmps47
      go_wp2_with (go_at_call 48; refine (c_rGet _ _ _ _ _ r1 (by decide)).mono ?_; rintro e w' ⟨rfl, rfl⟩; rw [H8.out])
      go_loop [7] (fun s7 => ∃ k : Nat, k ≤ m - N ∧ s7 = .int .i64 (2 + (N : Int) + (k : Int)) ∧ zeroL ((b.drop (2 + N)).take k) = true) (fun i => m + 2 - (intOf i).toNat)
      case atStart => exact ⟨0, by omega, (by congr 1; try omega), rfl⟩
      case round =>
        obtain ⟨k, hk, rfl, hzk⟩ := hrel
        by_cases hlt : k < m - N
        · have hlt3 : 2 + (N : Int) + (k : Int) < (m : Int) + 2 := by omega
          obtain ⟨ad, rfl, hcc⟩ := RdB.at_ hR (j := 2 + N + k) (by omega)
          rw [← List.getD_eq_getElem?_getD] at hcc
          have hs := zeroL_snoc (b.drop (2 + N)) k (by rw [List.length_drop, HL.out]; omega)
          have he : (b.drop (2 + N)).getD k 0 = b.getD (2 + N + k) 0 := by simp [List.getD_eq_getElem?_getD, List.getElem?_drop]
          rw [he, hzk] at hs
          clear he hzk
          have hn1 : (2 + (N : Int) + (k : Int)).toNat = 2 + N + k := by omega
          by_cases h0 : b.getD (2 + N + k) 0 = 0
          · rw [h0] at hcc hs
            simp only [show ((0 : UInt8).toNat : Int) = 0 from rfl] at hcc
            have HS := Lib.hid hs
            clear hs h0
            go_wp2
            go_round
            case rel => exact ⟨k + 1, by omega, (by congr 1; try omega), HS.out⟩
            case measure => simp [intOf]; omega
          · have h0' : ¬ ((b.getD (2 + N + k) 0).toNat : Int) = 0 := by
              intro h
              have h' : (b.getD (2 + N + k) 0).toNat = 0 := by omega
              exact h0 (UInt8.toNat_inj.1 (by rw [h']; rfl))
            clear hs h0
            generalize b.getD (2 + N + k) 0 = x at *
            have hne : (((x.toNat : Int)) != 0) = true := by simpa using h0'
            go_wp2
            go_ret2
            exact ⟨rfl, rfl⟩
        · exfalso
          obtain rfl : k = m - N := by omega
          rw [List.take_of_length_le (by rw [List.length_drop, HL.out]; omega), HZ.out] at hzk
          cases hzk
end Go.Proofs.Ytlbpmboknmbcgaa
