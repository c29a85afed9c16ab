/- Padded texts: le.Pad, le.Unpad, and the reference's. -/
import Derived.Test.YtlbpmboknmbcgaaSealA
import Derived.Test.YtlbpmboknmbcgaaCutS
set_option linter.unusedVariables false
set_option linter.unusedSimpArgs false
namespace Go.Proofs.Ytlbpmboknmbcgaa
open Go.RowKit

set_option maxHeartbeats 1000000 in
set_option maxRecDepth 100000 in
theorem c_lePad (A : Option Addr) (n c : Nat) (xs : List UInt8) (m : Nat) (w : World) (hR : RdB w A n xs) (h1 : n ≤ m) (h2 : m ≤ 60000) :
    Calls Try.prog 69 #[.slice A n c, .int .i64 (m : Int)] w fun e w' => ∃ v, e = .returned (.tuple #[v, .bool true]) ∧ OwnB w' w.heap.size 5 v (padL xs m) ∧ Below w.heap.size w w' := by
  have HL := Lib.hid (RdB.len hR)
  have q1 : ¬ (m : Int) < 0 := by omega
  have q2 : (m : Int) ≤ 60000 := by omega
  have q3 : (n : Int) ≤ (m : Int) := by omega
  have hx : ((m - n : Nat) : Int) = (m : Int) - (n : Int) := by omega
  have HX := Lib.hid hx
  have hpl : padL xs m = leP n 2 ++ xs ++ List.replicate (m - n) 0 := by unfold padL; rw [HL.out]
  have HP := Lib.hid hpl
  clear hx hpl
  go_enter Try.func69, Try.ntmps69
  go_wp2_with fail
  refine (c_lePut n 2 _ (by decide)).mono ?_
  rintro e w1 ⟨v1, rfl, ho1, hb1⟩
  have hr1 := hR.below hb1 (Nat.le_refl _)
  have hl1 : (leP n 2).length + n ≤ 140737488355328 := by rw [leP_length]; omega
  go_upto_region 4 with (at_builtin; refine wpl_cat (w0 := w) rfl _ _ 22 rfl w.heap.size 5 Try.underlying22 info_u8 ho1 rfl hr1 rfl hb1 hb1.size hl1 ?_; intro v2 w2 ho2 hb2 hg2 hv2)
  have hl2 : 0 < (leP n 2 ++ xs).length := by rw [List.length_append, leP_length]; omega
  have hl3 : (leP n 2 ++ xs).length + (m - n) ≤ 1000000 := by rw [List.length_append, leP_length, HL.out]; omega
  go_wp2_with (at_builtin; refine wpl_zeros (k := m - n) rfl rfl rfl (by rw [HX.out]; rfl) ho2 hl2 hl3 hb2.size hb2 ?_; intro v3 w3 ho3 hb3)
  go_ret2
  exact ⟨_, rfl, by rw [HP.out]; exact ho3, hb3⟩
set_option maxHeartbeats 1000000 in
set_option maxRecDepth 100000 in
theorem c_lePadNo (A : Option Addr) (n c : Nat) (m : Int) (w : World) (h : m < 0 ∨ 60000 < m ∨ m < (n : Int)) :
    Calls Try.prog 69 #[.slice A n c, .int .i64 m] w fun e w' => e = .returned (.tuple #[.slice none 0 0, .bool false]) ∧ w = w' := by
  have h3 : m < 0 ∨ (0 ≤ m ∧ 60000 < m) ∨ (0 ≤ m ∧ m ≤ 60000 ∧ m < (n : Int)) := by omega
  rcases h3 with h | ⟨h1, h2⟩ | ⟨h1, h2, h3⟩
  all_goals
    go_enter Try.func69, Try.ntmps69
    go_wp2
    go_ret2
    exact ⟨rfl, rfl⟩
set_option maxHeartbeats 1000000 in
set_option maxRecDepth 100000 in
theorem c_rPad (A : Option Addr) (n c : Nat) (xs : List UInt8) (m : Nat) (w : World) (hR : RdB w A n xs) (h1 : n ≤ m) (h2 : m ≤ 60000) :
    Calls Try.prog 76 #[.slice A n c, .int .i64 (m : Int)] w fun e w' => ∃ v, e = .returned (.tuple #[v, .bool true]) ∧ OwnB w' w.heap.size 5 v (padL xs m) ∧ Below w.heap.size w w' := by
  have HL := Lib.hid (RdB.len hR)
  have q1 : ¬ (m : Int) < 0 := by omega
  have q2 : (m : Int) ≤ 60000 := by omega
  have q3 : (n : Int) ≤ (m : Int) := by omega
  have hpl : padL xs m = leP n 2 ++ xs ++ List.replicate (m - n) 0 := by unfold padL; rw [HL.out]
  have HP := Lib.hid hpl
  clear hpl
  go_enter Try.func76, Try.ntmps76
  go_wp2_with fail
  refine (c_rPut n 2 _ (by decide)).mono ?_
  rintro e w1 ⟨v1, rfl, ho1, hb1⟩
  have hr1 := hR.below hb1 (Nat.le_refl _)
  have hl1 : (leP n 2).length + n ≤ 140737488355328 := by rw [leP_length]; omega
  go_wp2_with (at_builtin; refine wpl_cat (w0 := w) rfl _ _ 22 rfl w.heap.size 5 Try.underlying22 info_u8 ho1 rfl hr1 rfl hb1 hb1.size hl1 ?_; intro v2 w2 ho2 hb2 hg2 hv2)
  go_loopw [6] (fun s6 wr => ∃ k : Nat, k ≤ m - n ∧ OwnB wr w.heap.size 5 s6 (leP n 2 ++ xs ++ List.replicate k 0) ∧ Below w.heap.size w wr) (fun s6 _ => m + 2 - (match s6 with | .slice _ l _ => l | _ => 0))
  case atStart => exact ⟨0, by omega, by simpa using ho2, hb2⟩
  case round =>
    obtain ⟨k, hk, ho, hB⟩ := hrel
    have hll : (leP n 2 ++ xs ++ List.replicate k 0).length = n + 2 + k := by simp [leP_length, HL.out]; omega
    obtain ⟨A6, c6, rfl, lc6, -, -⟩ := ho.form
    rw [hll] at lc6
    have hle' : (leP n 2 ++ xs ++ List.replicate k 0).length + 1 ≤ 140737488355328 := by omega
    have HLL := Lib.hid hll
    clear hll
    rw [HLL.out] at ho ⊢
    by_cases hlt : k < m - n
    · have hlt2 : ((n + 2 + k : Nat) : Int) < (m : Int) + 2 := by omega
      have hst : leP n 2 ++ xs ++ List.replicate k 0 ++ [0] = leP n 2 ++ xs ++ List.replicate (k + 1) 0 := by rw [List.replicate_succ', List.append_assoc]
      have HST := Lib.hid hst
      clear hst
      go_wp2_with (at_builtin; refine wpl_push (w0 := w) (b := 0) rfl _ _ 22 rfl w.heap.size 5 Try.underlying22 info_u8 ho rfl rfl rfl hB hB.size hle' ?_; intro v1 w1 hown1 hB1 _)
      rw [HST.out] at hown1
      have hf1 := hown1.form
      go_roundw
      case rel => exact ⟨k + 1, by omega, hown1, hB1⟩
      case measure =>
        obtain ⟨A7, c7, e, -⟩ := hf1
        have hl7 : (leP n 2 ++ xs ++ List.replicate (k + 1) 0).length = n + 2 + k + 1 := by simp [leP_length, HL.out]; try omega
        rw [hl7] at e
        subst e
        simp
        omega
    · obtain rfl : k = m - n := by omega
      have hlt2 : ¬ ((n + 2 + (m - n) : Nat) : Int) < (m : Int) + 2 := by omega
      go_wp2
      go_ret2
      exact ⟨_, rfl, by rw [HP.out]; exact ho, hB⟩
theorem c_rPadNo (A : Option Addr) (n c : Nat) (m : Int) (w : World) (h : m < 0 ∨ 60000 < m ∨ m < (n : Int)) :
    Calls Try.prog 76 #[.slice A n c, .int .i64 m] w fun e w' => e = .returned (.tuple #[.slice none 0 0, .bool false]) ∧ w = w' := by
  have h3 : m < 0 ∨ (0 ≤ m ∧ 60000 < m) ∨ (0 ≤ m ∧ m ≤ 60000 ∧ m < (n : Int)) := by omega
  rcases h3 with h | ⟨h1, h2⟩ | ⟨h1, h2, h3⟩
  all_goals
    go_enter Try.func76, Try.ntmps76
    go_wp2
    go_ret2
    exact ⟨rfl, rfl⟩
theorem unpadL_none {b : List UInt8} {m : Nat} (h : unpadL b m = none) (hl : b.length = m + 2) : m < leN (b.take 2) ∨ (leN (b.take 2) ≤ m ∧ zeroL (b.drop (2 + leN (b.take 2))) = false) := by
  unfold unpadL at h
  split at h
  · cases h
  · rename_i hc
    rcases Nat.lt_or_ge m (leN (b.take 2)) with h1 | h1
    · exact .inl h1
    · refine .inr ⟨h1, ?_⟩
      cases hz : zeroL (b.drop (2 + leN (b.take 2))) with
      | false => rfl
      | true => exact absurd ⟨hl, h1, hz⟩ hc
theorem unpadL_yes {b p : List UInt8} {m : Nat} (h : unpadL b m = some p) : b.length = m + 2 ∧ leN (b.take 2) ≤ m ∧ zeroL (b.drop (2 + leN (b.take 2))) = true ∧ p = (b.drop 2).take (leN (b.take 2)) := by
  unfold unpadL at h
  split at h
  · rename_i hc
    exact ⟨hc.1, hc.2.1, hc.2.2, (Option.some.inj h).symm⟩
  · cases h
theorem le2_lt (b : List UInt8) : leN (b.take 2) < 65536 := by
  have h := leN_lt (b.take 2)
  have h2 : 256 ^ (b.take 2).length ≤ 256 ^ 2 := Nat.pow_le_pow_right (by decide) (List.length_take_le _ _)
  have h3 : (256 : Nat) ^ 2 = 65536 := rfl
  omega
set_option maxHeartbeats 1000000 in
set_option maxRecDepth 100000 in
theorem c_leUnpad (A : Option Addr) (n c : Nat) (b p : List UInt8) (m : Nat) (w : World) (hR : RdB w A n b) (hc : n ≤ c) (h2 : m ≤ 60000) (hu : unpadL b m = some p) :
    Calls Try.prog 73 #[.slice A n c, .int .i64 (m : Int)] w fun e w' => ∃ v, e = .returned (.tuple #[v, .bool true]) ∧ OwnB w' w.heap.size 5 v p ∧ Below w.heap.size w w' := by
  obtain ⟨u1, u2, u3, rfl⟩ := unpadL_yes hu
  have hlen := hR.len
  have hnm : n = m + 2 := by omega
  subst hnm
  clear hu u1
  have hlt := le2_lt b
  obtain ⟨A1, e1, r1⟩ := cut_to hR hc 2 2 rfl (by omega)
  have ht8 : leN ((b.take 2).take 8) = leN (b.take 2) := by rw [List.take_of_length_le (l := b.take 2) (by rw [List.length_take]; omega)]
  have H8 := Lib.hid ht8
  clear ht8
  generalize hN : leN (b.take 2) = N at *
  have HN := Lib.hid hN
  clear hN
  obtain ⟨A2, e2, r2⟩ := cut_from hR hc (2 + (N : Int)) (2 + N) (by omega) (by omega)
  obtain ⟨A3, e3, r3⟩ := cut_lh hR hc 2 (2 + (N : Int)) 2 (2 + N) rfl (by omega) (by omega) (by omega)
  rw [show 2 + N - 2 = N by omega] at e3 r3
  have q1 : ¬ (m : Int) < 0 := by omega
  have q2 : (m : Int) ≤ 60000 := by omega
  have q3 : (N : Int) ≤ (m : Int) := by omega
  have hl1 : ([] : List UInt8).length + N ≤ 140737488355328 := by simp; omega
  have HZ := c_leZero A2 (m + 2 - (2 + N)) (c - (2 + N)) _ w r2 (by unfold maxLen; omega) true u3
  have HO := OwnB.nil_ w w.heap.size 5
  clear u3 hlen hlt u2
  go_enter Try.func73, Try.ntmps73
  go_wp2_with (first | (go_at_call 75; refine (c_leGet _ _ _ _ _ r1 (by decide)).mono ?_; rintro e w' ⟨rfl, rfl⟩; rw [H8.out]) | (go_at_call 80; refine HZ.mono ?_; rintro e w' ⟨rfl, rfl⟩) | (at_builtin; refine wpl_cat (w0 := w) rfl _ _ 22 rfl w.heap.size 5 Try.underlying22 info_u8 HO rfl r3 rfl (Below.refl _ _) (Nat.le_refl _) hl1 ?_; intro v2 w2 ho2 hb2 hg2 hv2))
  go_ret2
  exact ⟨_, rfl, ho2, hb2⟩
set_option maxHeartbeats 1000000 in
set_option maxRecDepth 100000 in
theorem c_leUnpadNo (A : Option Addr) (n c : Nat) (b : List UInt8) (m : Nat) (w : World) (hR : RdB w A n b) (hc : n ≤ c) (hn : n = m + 2) (hm : m ≤ 1000000) (hu : 60000 < m ∨ unpadL b m = none) :
    Calls Try.prog 73 #[.slice A n c, .int .i64 (m : Int)] w fun e w' => e = .returned (.tuple #[.slice none 0 0, .bool false]) ∧ w = w' := by
  have hlen := hR.len
  subst hn
  have q1 : ¬ (m : Int) < 0 := by omega
  by_cases h6 : 60000 < m
  · have q2 : 60000 < (m : Int) := by omega
    clear hu
    go_enter Try.func73, Try.ntmps73
    go_wp2
    go_ret2
    exact ⟨rfl, rfl⟩
  · have q2 : (m : Int) ≤ 60000 := by omega
    have hu' := unpadL_none (hu.resolve_left h6) hlen
    clear hu
    have hlt := le2_lt b
    obtain ⟨A1, e1, r1⟩ := cut_to hR hc 2 2 rfl (by omega)
    have ht8 : leN ((b.take 2).take 8) = leN (b.take 2) := by rw [List.take_of_length_le (l := b.take 2) (by rw [List.length_take]; omega)]
    have H8 := Lib.hid ht8
    clear ht8 hlen h6
    generalize leN (b.take 2) = N at *
    have q4 : (N : Int) ≤ 70000 := by omega
    clear hlt
    rcases hu' with h | ⟨h, hz⟩
    · have q3 : ¬ (N : Int) ≤ (m : Int) := by omega
      go_enter Try.func73, Try.ntmps73
      go_wp2_with (go_at_call 75; refine (c_leGet _ _ _ _ _ r1 (by decide)).mono ?_; rintro e w' ⟨rfl, rfl⟩; rw [H8.out])
      go_ret2
      exact ⟨rfl, rfl⟩
    · have q3 : (N : Int) ≤ (m : Int) := by omega
      obtain ⟨A2, e2, r2⟩ := cut_from hR hc (2 + (N : Int)) (2 + N) (by omega) (by omega)
      have HZ := c_leZero A2 (m + 2 - (2 + N)) (c - (2 + N)) _ w r2 (by unfold maxLen; omega) false hz
      clear hz
      go_enter Try.func73, Try.ntmps73
      go_wp2_with (first | (go_at_call 75; refine (c_leGet _ _ _ _ _ r1 (by decide)).mono ?_; rintro e w' ⟨rfl, rfl⟩; rw [H8.out]) | (go_at_call 80; refine HZ.mono ?_; rintro e w' ⟨rfl, rfl⟩))
      go_ret2
      exact ⟨rfl, rfl⟩
end Go.Proofs.Ytlbpmboknmbcgaa
