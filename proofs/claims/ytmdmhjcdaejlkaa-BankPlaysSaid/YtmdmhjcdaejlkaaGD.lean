/- Padded texts: le.Pad, le.Unpad, and the reference's. -/
import Derived.Test.YtmdmhjcdaejlkaaSealA
import Derived.Test.YtmdmhjcdaejlkaaCutS
import Derived.Test.YtmdmhjcdaejlkaaClone
import Derived.Test.YtmdmhjcdaejlkaaGC
import Derived.Test.YtmdmhjcdaejlkaaParts
import Derived.Test.YtmdmhjcdaejlkaaGB
import Derived.Deep.AppendSrc
import Derived.Test.YtmdmhjcdaejlkaaEqB
import Derived.Laws.Cover3
set_option linter.unusedVariables false
set_option linter.unusedSimpArgs false
namespace Go.Proofs.Ytmdmhjcdaejlkaa
open Go.RowKit

set_option maxHeartbeats 1000000 in
set_option maxRecDepth 100000 in
theorem c_lePad (A : Option Addr) (n c : Nat) (xs : List UInt8) (m : Nat) (w : World) (hR : RdB w A n xs) (h1 : n ≤ m) (h2 : m ≤ 60000) :
    Calls Try.prog 83 #[.slice A n c, .int .i64 (m : Int)] w fun e w' => ∃ v, e = .returned (.tuple #[v, .bool true]) ∧ OwnB w' w.heap.size 5 v (padL xs m) ∧ Below w.heap.size w w' := by
  have HL := Lib.hid (RdB.len hR)
  have q1 : ¬ (m : Int) < 0 := by omega
  have q2 : (m : Int) ≤ 60000 := by omega
  have q3 : (n : Int) ≤ (m : Int) := by omega
  have hx : ((m - n : Nat) : Int) = (m : Int) - (n : Int) := by omega
  have HX := Lib.hid hx
  have hpl : padL xs m = leP n 2 ++ xs ++ List.replicate (m - n) 0 := by unfold padL; rw [HL.out]
  have HP := Lib.hid hpl
  clear hx hpl
  go_enter Try.func83, Try.ntmps83
  go_wp2_with fail
  refine (c_lePut n 2 _ (by decide)).mono ?_
  rintro e w1 ⟨v1, rfl, ho1, hb1⟩
  have hr1 := hR.below hb1 (Nat.le_refl _)
  have hl1 : (leP n 2).length + n ≤ 140737488355328 := by rw [leP_length]; omega
  go_upto_region 4 with (at_builtin; refine wpl_cat (w0 := w) rfl _ _ 24 rfl w.heap.size 5 Try.underlying24 info_u8 ho1 rfl hr1 rfl hb1 hb1.size hl1 ?_; intro v2 w2 ho2 hb2 hg2 hv2)
  have hl2 : 0 < (leP n 2 ++ xs).length := by rw [List.length_append, leP_length]; omega
  have hl3 : (leP n 2 ++ xs).length + (m - n) ≤ 1000000 := by rw [List.length_append, leP_length, HL.out]; omega
  go_wp2_with (at_builtin; refine wpl_zeros (k := m - n) rfl rfl rfl (by rw [HX.out]; rfl) ho2 hl2 hl3 hb2.size hb2 ?_; intro v3 w3 ho3 hb3)
  go_ret2
  exact ⟨_, rfl, by rw [HP.out]; exact ho3, hb3⟩
set_option maxHeartbeats 1000000 in
set_option maxRecDepth 100000 in
theorem c_lePadNo (A : Option Addr) (n c : Nat) (m : Int) (w : World) (h : m < 0 ∨ 60000 < m ∨ m < (n : Int)) :
    Calls Try.prog 83 #[.slice A n c, .int .i64 m] w fun e w' => e = .returned (.tuple #[.slice none 0 0, .bool false]) ∧ w = w' := by
  have h3 : m < 0 ∨ (0 ≤ m ∧ 60000 < m) ∨ (0 ≤ m ∧ m ≤ 60000 ∧ m < (n : Int)) := by omega
  rcases h3 with h | ⟨h1, h2⟩ | ⟨h1, h2, h3⟩
  all_goals
    go_enter Try.func83, Try.ntmps83
    go_wp2
    go_ret2
    exact ⟨rfl, rfl⟩
theorem unpadL_none {b : List UInt8} {m : Nat} (h : unpadL b m = none) (hl : b.length = m + 2) : m < leN (b.take 2) ∨ (leN (b.take 2) ≤ m ∧ zeroL (b.drop (2 + leN (b.take 2))) = false) := by
  unfold unpadL at h
  split at h
  · cases h
  · rename_i hc
    rcases Nat.lt_or_ge m (leN (b.take 2)) with h1 | h1
    · exact .inl h1
    · refine .inr ⟨h1, ?_⟩
      cases hz : zeroL (b.drop (2 + leN (b.take 2))) with
      | false => rfl
      | true => exact absurd ⟨hl, h1, hz⟩ hc
theorem unpadL_yes {b p : List UInt8} {m : Nat} (h : unpadL b m = some p) : b.length = m + 2 ∧ leN (b.take 2) ≤ m ∧ zeroL (b.drop (2 + leN (b.take 2))) = true ∧ p = (b.drop 2).take (leN (b.take 2)) := by
  unfold unpadL at h
  split at h
  · rename_i hc
    exact ⟨hc.1, hc.2.1, hc.2.2, (Option.some.inj h).symm⟩
  · cases h
theorem le2_lt (b : List UInt8) : leN (b.take 2) < 65536 := by
  have h := leN_lt (b.take 2)
  have h2 : 256 ^ (b.take 2).length ≤ 256 ^ 2 := Nat.pow_le_pow_right (by decide) (List.length_take_le _ _)
  have h3 : (256 : Nat) ^ 2 = 65536 := rfl
  omega
set_option maxHeartbeats 1000000 in
set_option maxRecDepth 100000 in
theorem c_leUnpad (A : Option Addr) (n c : Nat) (b p : List UInt8) (m : Nat) (w : World) (hR : RdB w A n b) (hc : n ≤ c) (h2 : m ≤ 60000) (hu : unpadL b m = some p) :
    Calls Try.prog 88 #[.slice A n c, .int .i64 (m : Int)] w fun e w' => ∃ v, e = .returned (.tuple #[v, .bool true]) ∧ OwnB w' w.heap.size 5 v p ∧ Below w.heap.size w w' := by
  obtain ⟨u1, u2, u3, rfl⟩ := unpadL_yes hu
  have hlen := hR.len
  have hnm : n = m + 2 := by omega
  subst hnm
  clear hu u1
  have hlt := le2_lt b
  obtain ⟨A1, e1, r1⟩ := cut_to hR hc 2 2 rfl (by omega)
  have ht8 : leN ((b.take 2).take 8) = leN (b.take 2) := by rw [List.take_of_length_le (l := b.take 2) (by rw [List.length_take]; omega)]
  have H8 := Lib.hid ht8
  clear ht8
  generalize hN : leN (b.take 2) = N at *
  have HN := Lib.hid hN
  clear hN
  obtain ⟨A2, e2, r2⟩ := cut_from hR hc (2 + (N : Int)) (2 + N) (by omega) (by omega)
  obtain ⟨A3, e3, r3⟩ := cut_lh hR hc 2 (2 + (N : Int)) 2 (2 + N) rfl (by omega) (by omega) (by omega)
  rw [show 2 + N - 2 = N by omega] at e3 r3
  have q1 : ¬ (m : Int) < 0 := by omega
  have q2 : (m : Int) ≤ 60000 := by omega
  have q3 : (N : Int) ≤ (m : Int) := by omega
  have hl1 : ([] : List UInt8).length + N ≤ 140737488355328 := by simp; omega
  have HZ := c_leZero A2 (m + 2 - (2 + N)) (c - (2 + N)) _ w r2 (by unfold maxLen; omega) true u3
  have HO := OwnB.nil_ w w.heap.size 5
  clear u3 hlen hlt u2
  go_enter Try.func88, Try.ntmps88
  go_wp2_with (first | (go_at_call 71; refine (c_leGet _ _ _ _ _ r1 (by decide)).mono ?_; rintro e w' ⟨rfl, rfl⟩; rw [H8.out]) | (go_at_call 94; refine HZ.mono ?_; rintro e w' ⟨rfl, rfl⟩) | (at_builtin; refine wpl_cat (w0 := w) rfl _ _ 24 rfl w.heap.size 5 Try.underlying24 info_u8 HO rfl r3 rfl (Below.refl _ _) (Nat.le_refl _) hl1 ?_; intro v2 w2 ho2 hb2 hg2 hv2))
  go_ret2
  exact ⟨_, rfl, ho2, hb2⟩
set_option maxHeartbeats 1000000 in
set_option maxRecDepth 100000 in
theorem c_leUnpadNo (A : Option Addr) (n c : Nat) (b : List UInt8) (m : Nat) (w : World) (hR : RdB w A n b) (hc : n ≤ c) (hn : n = m + 2) (hm : m ≤ 1000000) (hu : 60000 < m ∨ unpadL b m = none) :
    Calls Try.prog 88 #[.slice A n c, .int .i64 (m : Int)] w fun e w' => e = .returned (.tuple #[.slice none 0 0, .bool false]) ∧ w = w' := by
  have hlen := hR.len
  subst hn
  have q1 : ¬ (m : Int) < 0 := by omega
  by_cases h6 : 60000 < m
  · have q2 : 60000 < (m : Int) := by omega
    clear hu
    go_enter Try.func88, Try.ntmps88
    go_wp2
    go_ret2
    exact ⟨rfl, rfl⟩
  · have q2 : (m : Int) ≤ 60000 := by omega
    have hu' := unpadL_none (hu.resolve_left h6) hlen
    clear hu
    have hlt := le2_lt b
    obtain ⟨A1, e1, r1⟩ := cut_to hR hc 2 2 rfl (by omega)
    have ht8 : leN ((b.take 2).take 8) = leN (b.take 2) := by rw [List.take_of_length_le (l := b.take 2) (by rw [List.length_take]; omega)]
    have H8 := Lib.hid ht8
    clear ht8 hlen h6
    generalize leN (b.take 2) = N at *
    have q4 : (N : Int) ≤ 70000 := by omega
    clear hlt
    rcases hu' with h | ⟨h, hz⟩
    · have q3 : ¬ (N : Int) ≤ (m : Int) := by omega
      go_enter Try.func88, Try.ntmps88
      go_wp2_with (go_at_call 71; refine (c_leGet _ _ _ _ _ r1 (by decide)).mono ?_; rintro e w' ⟨rfl, rfl⟩; rw [H8.out])
      go_ret2
      exact ⟨rfl, rfl⟩
    · have q3 : (N : Int) ≤ (m : Int) := by omega
      obtain ⟨A2, e2, r2⟩ := cut_from hR hc (2 + (N : Int)) (2 + N) (by omega) (by omega)
      have HZ := c_leZero A2 (m + 2 - (2 + N)) (c - (2 + N)) _ w r2 (by unfold maxLen; omega) false hz
      clear hz
      go_enter Try.func88, Try.ntmps88
      go_wp2_with (first | (go_at_call 71; refine (c_leGet _ _ _ _ _ r1 (by decide)).mono ?_; rintro e w' ⟨rfl, rfl⟩; rw [H8.out]) | (go_at_call 94; refine HZ.mono ?_; rintro e w' ⟨rfl, rfl⟩))
      go_ret2
      exact ⟨rfl, rfl⟩
end Go.Proofs.Ytmdmhjcdaejlkaa

/- The reference's Unpad; le.Sum of its parts. -/
set_option linter.unusedVariables false
set_option linter.unusedSimpArgs false
namespace Go.Proofs.Ytmdmhjcdaejlkaa
open Go.RowKit

theorem drop_zero {b : List UInt8} {l k : Nat} (h : zeroL (b.drop l) = true) (h1 : l ≤ k) (h2 : k < b.length) : b.getD k 0 = 0 := by
  have := List.all_eq_true.1 h b[k] (by rw [List.mem_drop_iff_getElem]; exact ⟨k - l, by omega, by congr 1; try omega⟩)
  rw [List.getD_eq_getElem?_getD, List.getElem?_eq_getElem h2]
  simpa using this
set_option maxHeartbeats 1000000 in
set_option maxRecDepth 100000 in
theorem c_rUnpad (A : Option Addr) (n c : Nat) (b p : List UInt8) (m : Nat) (w : World) (hR : RdB w A n b) (hc : n ≤ c) (h2 : m ≤ 60000) (hu : unpadL b m = some p) :
    Calls Try.prog 66 #[.slice A n c, .int .i64 (m : Int)] w fun e w' => ∃ v, e = .returned (.tuple #[v, .bool true]) ∧ OwnB w' w.heap.size 5 v p ∧ Below w.heap.size w w' := by
  obtain ⟨u1, u2, u3, rfl⟩ := unpadL_yes hu
  have hlen := hR.len
  have hnm : n = m + 2 := by omega
  subst hnm
  clear hu u1
  have HL := Lib.hid hlen
  have hlt := le2_lt b
  obtain ⟨A1, e1, r1⟩ := cut_to hR hc 2 2 rfl (by omega)
  have ht8 : leN ((b.take 2).take 8) = leN (b.take 2) := by rw [List.take_of_length_le (l := b.take 2) (by rw [List.length_take]; omega)]
  have H8 := Lib.hid ht8
  clear ht8
  generalize hN : leN (b.take 2) = N at *
  have HN := Lib.hid hN
  clear hN
  obtain ⟨A3, e3, r3⟩ := cut_lh hR hc 2 (2 + (N : Int)) 2 (2 + N) rfl (by omega) (by omega) (by omega)
  rw [show 2 + N - 2 = N by omega] at e3 r3
  have q1 : ¬ (m : Int) < 0 := by omega
  have q2 : (m : Int) ≤ 60000 := by omega
  have q3 : (N : Int) ≤ (m : Int) := by omega
  have hl1 : ([] : List UInt8).length + N ≤ 140737488355328 := by simp; omega
  have HZ := Lib.hid u3
  have HO := own_empty w 5
  have hB := below_alloc (Below.refl w.heap.size w) (.cells #[] 5)
  have r3' := r3.below hB (Nat.le_refl _)
  have hsz : w.heap.size ≤ (w.alloc (.cells #[] 5)).heap.size := by simp
  clear u3 hlen hlt u2
  go_enter Try.func66, Try.ntmps66
  go_wp2_with (go_at_call 67; refine (c_rGet _ _ _ _ _ r1 (by decide)).mono ?_; rintro e w' ⟨rfl, rfl⟩; rw [H8.out])
  go_loop [7] (fun s7 => ∃ k : Nat, 2 + N ≤ k ∧ k ≤ m + 2 ∧ s7 = .int .i64 (k : Int)) (fun i => m + 2 - (intOf i).toNat)
  case atStart => exact ⟨2 + N, by omega, by omega, by congr 1; try omega⟩
  case round =>
    obtain ⟨k, hk1, hk2, rfl⟩ := hrel
    by_cases hlt : k < m + 2
    · have hlt2 : (k : Int) < ((m + 2 : Nat) : Int) := by omega
      have hlt3 : (k : Int) < (m : Int) + 2 := by omega
      obtain ⟨ad, rfl, hcc⟩ := RdB.at_ hR (j := k) hlt
      rw [← List.getD_eq_getElem?_getD, drop_zero HZ.out hk1 (by rw [HL.out]; exact hlt)] at hcc
      simp only [show ((0 : UInt8).toNat : Int) = 0 from rfl] at hcc
      go_wp2
      go_round
      case rel => exact ⟨k + 1, by omega, by omega, by go_num⟩
      case measure => simp [intOf]; omega
    · obtain rfl : k = m + 2 := by omega
      have hlt3 : ¬ ((m + 2 : Nat) : Int) < (m : Int) + 2 := by omega
      go_wp2_with (at_builtin; refine wpl_cat (w0 := w) rfl _ _ 24 rfl w.heap.size 5 Try.underlying24 info_u8 HO rfl r3' rfl hB hsz hl1 ?_; intro v2 w2 ho2 hb2 hg2 hv2)
      go_ret2
      exact ⟨_, rfl, ho2, hb2⟩
set_option maxHeartbeats 1000000 in
set_option maxRecDepth 100000 in
theorem c_rUnpadNo (A : Option Addr) (n c : Nat) (b : List UInt8) (m : Nat) (w : World) (hR : RdB w A n b) (hc : n ≤ c) (hn : n = m + 2) (hm : m ≤ 1000000) (hu : 60000 < m ∨ unpadL b m = none) :
    Calls Try.prog 66 #[.slice A n c, .int .i64 (m : Int)] w fun e w' => e = .returned (.tuple #[.slice none 0 0, .bool false]) ∧ w = w' := by
  have hlen := hR.len
  subst hn
  have q1 : ¬ (m : Int) < 0 := by omega
  by_cases h6 : 60000 < m
  · have q2 : 60000 < (m : Int) := by omega
    clear hu
    go_enter Try.func66, Try.ntmps66
    go_wp2
    go_ret2
    exact ⟨rfl, rfl⟩
  · have q2 : (m : Int) ≤ 60000 := by omega
    have hu' := unpadL_none (hu.resolve_left h6) hlen
    clear hu
    have hlt := le2_lt b
    obtain ⟨A1, e1, r1⟩ := cut_to hR hc 2 2 rfl (by omega)
    have ht8 : leN ((b.take 2).take 8) = leN (b.take 2) := by rw [List.take_of_length_le (l := b.take 2) (by rw [List.length_take]; omega)]
    have H8 := Lib.hid ht8
    have HL := Lib.hid hlen
    clear ht8 hlen h6
    generalize leN (b.take 2) = N at *
    have q4 : (N : Int) ≤ 70000 := by omega
    clear hlt
    rcases hu' with h | ⟨h, hz⟩
    · have q3 : ¬ (N : Int) ≤ (m : Int) := by omega
      go_enter Try.func66, Try.ntmps66
      go_wp2_with (go_at_call 67; refine (c_rGet _ _ _ _ _ r1 (by decide)).mono ?_; rintro e w' ⟨rfl, rfl⟩; rw [H8.out])
      go_ret2
      exact ⟨rfl, rfl⟩
    · have q3 : (N : Int) ≤ (m : Int) := by omega
      have HZ := Lib.hid hz
      clear hz
      go_enter Try.func66, Try.ntmps66
      go_wp2_with (go_at_call 67; refine (c_rGet _ _ _ _ _ r1 (by decide)).mono ?_; rintro e w' ⟨rfl, rfl⟩; rw [H8.out])
      go_loop [7] (fun s7 => ∃ k : Nat, k ≤ m - N ∧ s7 = .int .i64 (2 + (N : Int) + (k : Int)) ∧ zeroL ((b.drop (2 + N)).take k) = true) (fun i => m + 2 - (intOf i).toNat)
      case atStart => exact ⟨0, by omega, (by congr 1; try omega), rfl⟩
      case round =>
        obtain ⟨k, hk, rfl, hzk⟩ := hrel
        by_cases hlt : k < m - N
        · have hlt3 : 2 + (N : Int) + (k : Int) < (m : Int) + 2 := by omega
          obtain ⟨ad, rfl, hcc⟩ := RdB.at_ hR (j := 2 + N + k) (by omega)
          rw [← List.getD_eq_getElem?_getD] at hcc
          have hs := zeroL_snoc (b.drop (2 + N)) k (by rw [List.length_drop, HL.out]; omega)
          have he : (b.drop (2 + N)).getD k 0 = b.getD (2 + N + k) 0 := by simp [List.getD_eq_getElem?_getD, List.getElem?_drop]
          rw [he, hzk] at hs
          clear he hzk
          have hn1 : (2 + (N : Int) + (k : Int)).toNat = 2 + N + k := by omega
          by_cases h0 : b.getD (2 + N + k) 0 = 0
          · rw [h0] at hcc hs
            simp only [show ((0 : UInt8).toNat : Int) = 0 from rfl] at hcc
            have HS := Lib.hid hs
            clear hs h0
            go_wp2
            go_round
            case rel => exact ⟨k + 1, by omega, (by congr 1; try omega), HS.out⟩
            case measure => simp [intOf]; omega
          · have h0' : ¬ ((b.getD (2 + N + k) 0).toNat : Int) = 0 := by
              intro h
              have h' : (b.getD (2 + N + k) 0).toNat = 0 := by omega
              exact h0 (UInt8.toNat_inj.1 (by rw [h']; rfl))
            clear hs h0
            generalize b.getD (2 + N + k) 0 = x at *
            have hne : (((x.toNat : Int)) != 0) = true := by simpa using h0'
            go_wp2
            go_ret2
            exact ⟨rfl, rfl⟩
        · exfalso
          obtain rfl : k = m - N := by omega
          rw [List.take_of_length_le (by rw [List.length_drop, HL.out]; omega), HZ.out] at hzk
          cases hzk
end Go.Proofs.Ytmdmhjcdaejlkaa

/- le.Sum of parts; the head of a sealed block. -/
set_option linter.unusedVariables false
set_option linter.unusedSimpArgs false
namespace Go.Proofs.Ytmdmhjcdaejlkaa
open Go.RowKit

structure IsHd (boot seq : Nat) (H : List UInt8) : Prop where
  out : headL12 boot seq = H
set_option maxHeartbeats 1000000 in
set_option maxRecDepth 100000 in
theorem c_head (boot seq : Nat) (hb : boot < 4294967296) (w : World) :
    Calls Try.prog 82 #[.int .u32 (boot : Int), .int .u64 (seq : Int)] w fun e w' => e = .returned (.agg (bv (headL12 boot seq)).toArray) ∧ Below w.heap.size w w' := by
  obtain ⟨h4, h5, hz, hB⟩ := alloc2 w #[.int .u8 0, .int .u8 0, .int .u8 0, .int .u8 0, .int .u8 0, .int .u8 0, .int .u8 0, .int .u8 0, .int .u8 0, .int .u8 0, .int .u8 0, .int .u8 0] 43 #[.int .u8 0, .int .u8 0, .int .u8 0, .int .u8 0, .int .u8 0, .int .u8 0, .int .u8 0, .int .u8 0, .int .u8 0, .int .u8 0, .int .u8 0, .int .u8 0] 43
  have hw6 : IntKind.u64.wrap (boot : Int) = (boot : Int) := IntWalk.u64_in _ ⟨by omega, by omega⟩
  have hb1 : (boot : Int) < 4294967296 := by omega
  go_enter Try.func82, Try.ntmps82
  go_upto_region 2 with fail
  generalize (w.alloc (.cells #[.int .u8 0, .int .u8 0, .int .u8 0, .int .u8 0, .int .u8 0, .int .u8 0, .int .u8 0, .int .u8 0, .int .u8 0, .int .u8 0, .int .u8 0, .int .u8 0] 43)).alloc (.cells #[.int .u8 0, .int .u8 0, .int .u8 0, .int .u8 0, .int .u8 0, .int .u8 0, .int .u8 0, .int .u8 0, .int .u8 0, .int .u8 0, .int .u8 0, .int .u8 0] 43) = W1 at *
  have k4 : Row W1 w.heap.size (bv (List.replicate 12 0)).toArray 43 := h4
  have k5 : Row W1 (w.heap.size + 1) (bv (List.replicate 12 0)).toArray 43 := h5
  have hz1 : w.heap.size + 1 < W1.heap.size := by omega
  generalize hgO : w.heap.size + 1 = gO at *
  clear h4 h5 hz
  (refine wp_region_linN (Below W1.heap.size) (Below W1.heap.size) (wayB _) (wayB _) (fun _ _ h => h) (.free 0 (.free 1 (.hot 2 (.op 3 [(2, 3)] [] [] (.op 4 [] [] [] .nil))))) rfl (by kernel_rfl) (by kernel_rfl) (fun _ _ _ _ _ h => h) ?_; (first | (apply linN_free; (simp only [List.getElem?_toArray, List.getElem?_cons_succ, List.getElem?_cons_zero]; rfl); (rfl); (intro w'; (first | (go_simp; done) | (go_simp; with_reducible rfl) | (go_simp; go_bits; with_reducible rfl) | (go_simp; go_bits; done))); try simp only [Act.put, List.setIfInBounds_toArray, List.set_cons_zero, List.set_cons_succ]) | (apply linN_freeSkip; (simp only [List.getElem?_toArray, List.getElem?_cons_succ, List.getElem?_cons_zero]; rfl); (rfl); try simp only [Act.put, List.setIfInBounds_toArray, List.set_cons_zero, List.set_cons_succ])); (first | (apply linN_free; (simp only [List.getElem?_toArray, List.getElem?_cons_succ, List.getElem?_cons_zero]; rfl); (rfl); (intro w'; (first | (go_simp; done) | (go_simp; with_reducible rfl) | (go_simp; go_bits; with_reducible rfl) | (go_simp; go_bits; done))); try simp only [Act.put, List.setIfInBounds_toArray, List.set_cons_zero, List.set_cons_succ]) | (apply linN_freeSkip; (simp only [List.getElem?_toArray, List.getElem?_cons_succ, List.getElem?_cons_zero]; rfl); (rfl); try simp only [Act.put, List.setIfInBounds_toArray, List.set_cons_zero, List.set_cons_succ])); (first | (apply linN_hot; (simp only [List.getElem?_toArray, List.getElem?_cons_succ, List.getElem?_cons_zero]; rfl); (rfl); (intro w' hb'; (first | (go_simp; done) | (go_simp; with_reducible rfl) | (go_simp; go_bits; with_reducible rfl) | (go_simp; go_bits; done))); try simp only [Act.put, List.setIfInBounds_toArray, List.set_cons_zero, List.set_cons_succ]) | (apply linN_hotSkip; (simp only [List.getElem?_toArray, List.getElem?_cons_succ, List.getElem?_cons_zero]; rfl); (rfl); try simp only [Act.put, List.setIfInBounds_toArray, List.set_cons_zero, List.set_cons_succ])); (first | (apply linN_pass (wayB _) (wayB _); (simp only [List.getElem?_toArray, List.getElem?_cons_succ, List.getElem?_cons_zero]; rfl); (rfl); try simp only [Act.put, List.setIfInBounds_toArray, List.set_cons_zero, List.set_cons_succ]) | (apply linN_op; (simp only [List.getElem?_toArray, List.getElem?_cons_succ, List.getElem?_cons_zero]; rfl); (rfl); intro K hK; (first | (refine wp_copyP (g := gO) (off := 0) (n := 12) (m := 4) (T := 43) (cur := (bv (List.replicate 12 0)).toArray) (ys := leP boot 4) rfl (by first | rfl | (go_simp; rfl)) (by first | rfl | (go_simp; rfl)) R11 hq5 (by decide) ?_; intro W2 y2 hu2) | (go_simp; (first | (go_at_call 85; refine (c_lePut boot 4 _ (by decide)).mono ?_; rintro e w5 ⟨v5, rfl, ho5, hb5⟩; obtain ⟨A5, ca5, rfl, lc5, -, hq5⟩ := ho5.form; rw [leP_length] at hq5 lc5; simp only [leP_length]; have R11 := Row.below (show Row W1.drew _ _ _ from k5) hb5 hz1) | skip))); refine hK _ _ ?_ ?_; (exact trivial); clear hK; try simp only [Act.put, List.setIfInBounds_toArray, List.set_cons_zero, List.set_cons_succ])); (first | (apply linN_pass (wayB _) (wayB _); (simp only [List.getElem?_toArray, List.getElem?_cons_succ, List.getElem?_cons_zero]; rfl); (rfl); try simp only [Act.put, List.setIfInBounds_toArray, List.set_cons_zero, List.set_cons_succ]) | (apply linN_op; (simp only [List.getElem?_toArray, List.getElem?_cons_succ, List.getElem?_cons_zero]; rfl); (rfl); intro K hK; (first | (refine wp_copyP (g := gO) (off := 0) (n := 12) (m := 4) (T := 43) (cur := (bv (List.replicate 12 0)).toArray) (ys := leP boot 4) rfl (by first | rfl | (go_simp; rfl)) (by first | rfl | (go_simp; rfl)) R11 hq5 (by decide) ?_; intro W2 y2 hu2) | (go_simp; (first | (go_at_call 85; refine (c_lePut boot 4 _ (by decide)).mono ?_; rintro e w5 ⟨v5, rfl, ho5, hb5⟩; obtain ⟨A5, ca5, rfl, lc5, -, hq5⟩ := ho5.form; rw [leP_length] at hq5 lc5; simp only [leP_length]; have R11 := Row.below (show Row W1.drew _ _ _ from k5) hb5 hz1) | skip))); refine hK _ _ ?_ ?_; (exact trivial); clear hK; try simp only [Act.put, List.setIfInBounds_toArray, List.set_cons_zero, List.set_cons_succ])); refine linN_end ?_)
  have k6 : Row W2 gO _ _ := hu2.row
  rw [copy_row] at k6
  have e6 : (List.replicate 12 (0 : UInt8)).take 0 ++ ((leP boot 4).take (min 4 12) ++ (List.replicate 12 0).drop (0 + min 4 12)) = leP boot 4 ++ List.replicate 8 0 := by
    rw [List.take_zero, List.nil_append, List.take_of_length_le (by rw [leP_length]; decide)]
    rfl
  rw [e6] at k6
  have k4' := (Row.below (show Row W1.drew _ _ _ from k4) hb5 (show _ < W1.heap.size by omega)).upd hu2 (by omega)
  have hB6 := (below_drew hB).trans ((hb5.mono (show _ ≤ W1.heap.size by omega)).trans (hu2.below (by omega)))
  have hz6 : gO < W2.heap.size := k6.lt
  clear e6 hu2 hb5 ho5 hq5 R11 k4 k5 hB hz1
  go_upto_region 3 with fail
  have hsl := slice_arr_from (P := Try.prog) (t := 43) Try.underlying43 (by kernel_rfl) gO 4 4 rfl (by decide)
  (refine wp_region_linN (Below W2.heap.size) (Below W2.heap.size) (wayB _) (wayB _) (fun _ _ h => h) (.free 0 (.free 1 (.op 2 [] [] [] (.op 3 [] [] [] .nil)))) rfl (by kernel_rfl) (by kernel_rfl) (fun _ _ _ _ _ h => h) ?_; (first | (apply linN_free; (simp only [List.getElem?_toArray, List.getElem?_cons_succ, List.getElem?_cons_zero]; rfl); (rfl); (intro w'; (first | (go_simp; done) | (go_simp; with_reducible rfl) | (go_simp; go_bits; with_reducible rfl) | (go_simp; go_bits; done))); try simp only [Act.put, List.setIfInBounds_toArray, List.set_cons_zero, List.set_cons_succ]) | (apply linN_freeSkip; (simp only [List.getElem?_toArray, List.getElem?_cons_succ, List.getElem?_cons_zero]; rfl); (rfl); try simp only [Act.put, List.setIfInBounds_toArray, List.set_cons_zero, List.set_cons_succ])); (first | (apply linN_free; (simp only [List.getElem?_toArray, List.getElem?_cons_succ, List.getElem?_cons_zero]; rfl); (rfl); (intro w'; (first | (go_simp; done) | (go_simp; with_reducible rfl) | (go_simp; go_bits; with_reducible rfl) | (go_simp; go_bits; done))); try simp only [Act.put, List.setIfInBounds_toArray, List.set_cons_zero, List.set_cons_succ]) | (apply linN_freeSkip; (simp only [List.getElem?_toArray, List.getElem?_cons_succ, List.getElem?_cons_zero]; rfl); (rfl); try simp only [Act.put, List.setIfInBounds_toArray, List.set_cons_zero, List.set_cons_succ])); (first | (apply linN_pass (wayB _) (wayB _); (simp only [List.getElem?_toArray, List.getElem?_cons_succ, List.getElem?_cons_zero]; rfl); (rfl); try simp only [Act.put, List.setIfInBounds_toArray, List.set_cons_zero, List.set_cons_succ]) | (apply linN_op; (simp only [List.getElem?_toArray, List.getElem?_cons_succ, List.getElem?_cons_zero]; rfl); (rfl); intro K hK; (first | (refine wp_copyP (g := gO) (off := 4) (n := 8) (m := 8) (T := 43) (cur := (bv (leP boot 4 ++ List.replicate 8 0)).toArray) (ys := leP seq 8) rfl (by first | rfl | (go_simp; rfl)) (by first | rfl | (go_simp; rfl)) R12 hq6 (by simp [bv_length, leP_length]) ?_; intro W3 y3 hu3) | (go_simp; (first | (go_at_call 85; refine (c_lePut seq 8 _ (by decide)).mono ?_; rintro e w6 ⟨v6, rfl, ho6, hb6⟩; obtain ⟨A6, ca6, rfl, lc6, -, hq6⟩ := ho6.form; rw [leP_length] at hq6 lc6; simp only [leP_length]; have R12 := Row.below (show Row W2.drew _ _ _ from k6) hb6 hz6) | skip))); refine hK _ _ ?_ ?_; (exact trivial); clear hK; try simp only [Act.put, List.setIfInBounds_toArray, List.set_cons_zero, List.set_cons_succ])); (first | (apply linN_pass (wayB _) (wayB _); (simp only [List.getElem?_toArray, List.getElem?_cons_succ, List.getElem?_cons_zero]; rfl); (rfl); try simp only [Act.put, List.setIfInBounds_toArray, List.set_cons_zero, List.set_cons_succ]) | (apply linN_op; (simp only [List.getElem?_toArray, List.getElem?_cons_succ, List.getElem?_cons_zero]; rfl); (rfl); intro K hK; (first | (refine wp_copyP (g := gO) (off := 4) (n := 8) (m := 8) (T := 43) (cur := (bv (leP boot 4 ++ List.replicate 8 0)).toArray) (ys := leP seq 8) rfl (by first | rfl | (go_simp; rfl)) (by first | rfl | (go_simp; rfl)) R12 hq6 (by simp [bv_length, leP_length]) ?_; intro W3 y3 hu3) | (go_simp; (first | (go_at_call 85; refine (c_lePut seq 8 _ (by decide)).mono ?_; rintro e w6 ⟨v6, rfl, ho6, hb6⟩; obtain ⟨A6, ca6, rfl, lc6, -, hq6⟩ := ho6.form; rw [leP_length] at hq6 lc6; simp only [leP_length]; have R12 := Row.below (show Row W2.drew _ _ _ from k6) hb6 hz6) | skip))); refine hK _ _ ?_ ?_; (exact trivial); clear hK; try simp only [Act.put, List.setIfInBounds_toArray, List.set_cons_zero, List.set_cons_succ])); refine linN_end ?_)
  have k7 := hu3.row
  rw [copy_row] at k7
  have e7 : (leP boot 4 ++ List.replicate 8 (0 : UInt8)).take 4 ++ ((leP seq 8).take (min 8 8) ++ (leP boot 4 ++ List.replicate 8 0).drop (4 + min 8 8)) = headL12 boot seq := by
    rw [List.take_append_of_le_length (by rw [leP_length]; exact Nat.le_refl _), List.take_of_length_le (by rw [leP_length]; exact Nat.le_refl _), List.take_of_length_le (by rw [leP_length]; decide), List.drop_of_length_le (by simp [leP_length]), List.append_nil]
    rfl
  rw [e7] at k7
  have k4'' := (Row.below (show Row W2.drew _ _ _ from k4') hb6 (show _ < W2.heap.size by omega)).upd hu3 (by omega)
  have hB7 := (below_drew hB6).trans ((hb6.mono (show _ ≤ W2.heap.size by omega)).trans (hu3.below (by omega)))
  have hln := headL12_length boot seq
  have HLN := Lib.hid hln
  have hall := bv_all (headL12 boot seq)
  clear e7 hu3 hb6 ho6 hq6 R12 k4' k6 hB6 hz6 hsl hln hw6
  have HHD : IsHd boot seq (headL12 boot seq) := ⟨rfl⟩
  generalize headL12 boot seq = H at *
  go_wp2_with (first | (apply wpl_loadS (ty := 43); rfl; rfl; rfl; kernel_rfl; exact k7; (simp only [List.size_toArray, bv_length, HLN.out]; kernel_rfl); simp only [Act.put, List.setIfInBounds_toArray, List.set_cons_zero, List.set_cons_succ]) | (apply wpl_storeX; rfl; rfl; rfl; rfl; exact k4''; (simp only [List.size_toArray, bv_length, HLN.out]; kernel_rfl); (simp only [List.size_toArray, bv_length, HLN.out]; rfl); exact hall; intro W6 hW6; simp only [Act.put]))
  refine bodyPost_ret (results_cell1 rfl rfl (run_loadRow _ _ _ _ _ 0 hW6.row (by simp only [List.size_toArray, bv_length, HLN.out]; kernel_rfl) (by kernel_rfl))) rfl ⟨?_, hB7.trans (hW6.below (by omega))⟩
  rw [HHD.out]
set_option maxHeartbeats 1000000 in
set_option maxRecDepth 100000 in
theorem c_rHead (boot seq : Nat) (hb : boot < 4294967296) (w : World) :
    Calls Try.prog 27 #[.int .u32 (boot : Int), .int .u64 (seq : Int)] w fun e w' => e = .returned (.agg (bv (headL12 boot seq)).toArray) ∧ Below w.heap.size w w' := by
  obtain ⟨h4, h5, hz, hB⟩ := alloc2 w #[.int .u8 0, .int .u8 0, .int .u8 0, .int .u8 0, .int .u8 0, .int .u8 0, .int .u8 0, .int .u8 0, .int .u8 0, .int .u8 0, .int .u8 0, .int .u8 0] 43 #[.int .u8 0, .int .u8 0, .int .u8 0, .int .u8 0, .int .u8 0, .int .u8 0, .int .u8 0, .int .u8 0, .int .u8 0, .int .u8 0, .int .u8 0, .int .u8 0] 43
  have hw6 : IntKind.u64.wrap (boot : Int) = (boot : Int) := IntWalk.u64_in _ ⟨by omega, by omega⟩
  have hb1 : (boot : Int) < 4294967296 := by omega
  go_enter Try.func27, Try.ntmps27
  go_upto_region 2 with fail
  generalize (w.alloc (.cells #[.int .u8 0, .int .u8 0, .int .u8 0, .int .u8 0, .int .u8 0, .int .u8 0, .int .u8 0, .int .u8 0, .int .u8 0, .int .u8 0, .int .u8 0, .int .u8 0] 43)).alloc (.cells #[.int .u8 0, .int .u8 0, .int .u8 0, .int .u8 0, .int .u8 0, .int .u8 0, .int .u8 0, .int .u8 0, .int .u8 0, .int .u8 0, .int .u8 0, .int .u8 0] 43) = W1 at *
  have k4 : Row W1 w.heap.size (bv (List.replicate 12 0)).toArray 43 := h4
  have k5 : Row W1 (w.heap.size + 1) (bv (List.replicate 12 0)).toArray 43 := h5
  have hz1 : w.heap.size + 1 < W1.heap.size := by omega
  generalize hgO : w.heap.size + 1 = gO at *
  clear h4 h5 hz
  have hhl : leP boot 4 ++ leP seq 8 = headL12 boot seq := rfl
  have HHL := Lib.hid hhl
  have hln := headL12_length boot seq
  have HLN := Lib.hid hln
  clear hhl hln
  have HHD : IsHd boot seq (headL12 boot seq) := ⟨rfl⟩
  generalize headL12 boot seq = H at *
  have hl48 : (leP boot 4).length + 8 ≤ 140737488355328 := by rw [leP_length]; decide
  (refine wp_region_linN (Below W1.heap.size) (Below W1.heap.size) (wayB _) (wayB _) (fun _ _ h => h) (.free 0 (.free 1 (.hot 2 (.free 4 (.op 3 [(2, 3)] [] [] (.op 5 [] [] [] (.op 6 [] [] [] (.op 7 [] [] [] .nil)))))))) rfl (by kernel_rfl) (by kernel_rfl) (fun _ _ _ _ _ h => h) ?_; (first | (apply linN_free; (simp only [List.getElem?_toArray, List.getElem?_cons_succ, List.getElem?_cons_zero]; rfl); (rfl); (intro w'; (first | (go_simp; done) | (go_simp; with_reducible rfl) | (go_simp; go_bits; with_reducible rfl) | (go_simp; go_bits; done))); try simp only [Act.put, List.setIfInBounds_toArray, List.set_cons_zero, List.set_cons_succ]) | (apply linN_freeSkip; (simp only [List.getElem?_toArray, List.getElem?_cons_succ, List.getElem?_cons_zero]; rfl); (rfl); try simp only [Act.put, List.setIfInBounds_toArray, List.set_cons_zero, List.set_cons_succ])); (first | (apply linN_free; (simp only [List.getElem?_toArray, List.getElem?_cons_succ, List.getElem?_cons_zero]; rfl); (rfl); (intro w'; (first | (go_simp; done) | (go_simp; with_reducible rfl) | (go_simp; go_bits; with_reducible rfl) | (go_simp; go_bits; done))); try simp only [Act.put, List.setIfInBounds_toArray, List.set_cons_zero, List.set_cons_succ]) | (apply linN_freeSkip; (simp only [List.getElem?_toArray, List.getElem?_cons_succ, List.getElem?_cons_zero]; rfl); (rfl); try simp only [Act.put, List.setIfInBounds_toArray, List.set_cons_zero, List.set_cons_succ])); (first | (apply linN_hot; (simp only [List.getElem?_toArray, List.getElem?_cons_succ, List.getElem?_cons_zero]; rfl); (rfl); (intro w' hb'; (first | (go_simp; done) | (go_simp; with_reducible rfl) | (go_simp; go_bits; with_reducible rfl) | (go_simp; go_bits; done))); try simp only [Act.put, List.setIfInBounds_toArray, List.set_cons_zero, List.set_cons_succ]) | (apply linN_hotSkip; (simp only [List.getElem?_toArray, List.getElem?_cons_succ, List.getElem?_cons_zero]; rfl); (rfl); try simp only [Act.put, List.setIfInBounds_toArray, List.set_cons_zero, List.set_cons_succ])); (first | (apply linN_free; (simp only [List.getElem?_toArray, List.getElem?_cons_succ, List.getElem?_cons_zero]; rfl); (rfl); (intro w'; (first | (go_simp; done) | (go_simp; with_reducible rfl) | (go_simp; go_bits; with_reducible rfl) | (go_simp; go_bits; done))); try simp only [Act.put, List.setIfInBounds_toArray, List.set_cons_zero, List.set_cons_succ]) | (apply linN_freeSkip; (simp only [List.getElem?_toArray, List.getElem?_cons_succ, List.getElem?_cons_zero]; rfl); (rfl); try simp only [Act.put, List.setIfInBounds_toArray, List.set_cons_zero, List.set_cons_succ])); (first | (apply linN_pass (wayB _) (wayB _); (simp only [List.getElem?_toArray, List.getElem?_cons_succ, List.getElem?_cons_zero]; rfl); (rfl); try simp only [Act.put, List.setIfInBounds_toArray, List.set_cons_zero, List.set_cons_succ]) | (apply linN_op; (simp only [List.getElem?_toArray, List.getElem?_cons_succ, List.getElem?_cons_zero]; rfl); (rfl); intro K hK; (first | (refine wp_cat (w0 := W1.drew) (m := 8) _ _ 24 rfl W1.heap.size 5 Try.underlying24 info_u8 (ho5.below hb6) (by first | rfl | (go_simp; rfl)) hq6 (by first | rfl | (go_simp; rfl)) (hb5.trans (hb6.mono hb5.size)) (Nat.le_trans hb5.size hb6.size) hl48 ?_; intro v7 w7 ho7 hb7 hg7 hv7; rw [HHL.out] at ho7; obtain ⟨A7, ca7, rfl, lc7, -, hq7⟩ := ho7.form; rw [HLN.out] at hq7 lc7; simp only [HLN.out]; have R13 := Row.below (show Row W1.drew _ _ _ from k5) hb7 hz1) | (refine wp_copyP (g := gO) (off := 0) (n := 12) (m := 12) (T := 43) (cur := (bv (List.replicate 12 0)).toArray) (ys := H) rfl (by first | rfl | (go_simp; rfl)) (by first | rfl | (go_simp; rfl)) R13 hq7 (by decide) ?_; intro W2 y2 hu2) | (go_simp; (first | (go_at_call 33; (with_reducible refine (c_rPut4 boot _).mono ?_); rintro e w5 ⟨A5, ca5, rfl, lc5, ho5, hq5, hb5⟩) | (go_at_call 33; (with_reducible refine (c_rPut8 seq _).mono ?_); rintro e w6 ⟨A6, ca6, rfl, lc6, ho6, hq6, hb6⟩) | skip))); refine hK _ _ ?_ ?_; (exact trivial); clear hK; try simp only [Act.put, List.setIfInBounds_toArray, List.set_cons_zero, List.set_cons_succ])); (first | (apply linN_pass (wayB _) (wayB _); (simp only [List.getElem?_toArray, List.getElem?_cons_succ, List.getElem?_cons_zero]; rfl); (rfl); try simp only [Act.put, List.setIfInBounds_toArray, List.set_cons_zero, List.set_cons_succ]) | (apply linN_op; (simp only [List.getElem?_toArray, List.getElem?_cons_succ, List.getElem?_cons_zero]; rfl); (rfl); intro K hK; (first | (refine wp_cat (w0 := W1.drew) (m := 8) _ _ 24 rfl W1.heap.size 5 Try.underlying24 info_u8 (ho5.below hb6) (by first | rfl | (go_simp; rfl)) hq6 (by first | rfl | (go_simp; rfl)) (hb5.trans (hb6.mono hb5.size)) (Nat.le_trans hb5.size hb6.size) hl48 ?_; intro v7 w7 ho7 hb7 hg7 hv7; rw [HHL.out] at ho7; obtain ⟨A7, ca7, rfl, lc7, -, hq7⟩ := ho7.form; rw [HLN.out] at hq7 lc7; simp only [HLN.out]; have R13 := Row.below (show Row W1.drew _ _ _ from k5) hb7 hz1) | (refine wp_copyP (g := gO) (off := 0) (n := 12) (m := 12) (T := 43) (cur := (bv (List.replicate 12 0)).toArray) (ys := H) rfl (by first | rfl | (go_simp; rfl)) (by first | rfl | (go_simp; rfl)) R13 hq7 (by decide) ?_; intro W2 y2 hu2) | (go_simp; (first | (go_at_call 33; (with_reducible refine (c_rPut4 boot _).mono ?_); rintro e w5 ⟨A5, ca5, rfl, lc5, ho5, hq5, hb5⟩) | (go_at_call 33; (with_reducible refine (c_rPut8 seq _).mono ?_); rintro e w6 ⟨A6, ca6, rfl, lc6, ho6, hq6, hb6⟩) | skip))); refine hK _ _ ?_ ?_; (exact trivial); clear hK; try simp only [Act.put, List.setIfInBounds_toArray, List.set_cons_zero, List.set_cons_succ])); (first | (apply linN_pass (wayB _) (wayB _); (simp only [List.getElem?_toArray, List.getElem?_cons_succ, List.getElem?_cons_zero]; rfl); (rfl); try simp only [Act.put, List.setIfInBounds_toArray, List.set_cons_zero, List.set_cons_succ]) | (apply linN_op; (simp only [List.getElem?_toArray, List.getElem?_cons_succ, List.getElem?_cons_zero]; rfl); (rfl); intro K hK; (first | (refine wp_cat (w0 := W1.drew) (m := 8) _ _ 24 rfl W1.heap.size 5 Try.underlying24 info_u8 (ho5.below hb6) (by first | rfl | (go_simp; rfl)) hq6 (by first | rfl | (go_simp; rfl)) (hb5.trans (hb6.mono hb5.size)) (Nat.le_trans hb5.size hb6.size) hl48 ?_; intro v7 w7 ho7 hb7 hg7 hv7; rw [HHL.out] at ho7; obtain ⟨A7, ca7, rfl, lc7, -, hq7⟩ := ho7.form; rw [HLN.out] at hq7 lc7; simp only [HLN.out]; have R13 := Row.below (show Row W1.drew _ _ _ from k5) hb7 hz1) | (refine wp_copyP (g := gO) (off := 0) (n := 12) (m := 12) (T := 43) (cur := (bv (List.replicate 12 0)).toArray) (ys := H) rfl (by first | rfl | (go_simp; rfl)) (by first | rfl | (go_simp; rfl)) R13 hq7 (by decide) ?_; intro W2 y2 hu2) | (go_simp; (first | (go_at_call 33; (with_reducible refine (c_rPut4 boot _).mono ?_); rintro e w5 ⟨A5, ca5, rfl, lc5, ho5, hq5, hb5⟩) | (go_at_call 33; (with_reducible refine (c_rPut8 seq _).mono ?_); rintro e w6 ⟨A6, ca6, rfl, lc6, ho6, hq6, hb6⟩) | skip))); refine hK _ _ ?_ ?_; (exact trivial); clear hK; try simp only [Act.put, List.setIfInBounds_toArray, List.set_cons_zero, List.set_cons_succ])); (first | (apply linN_pass (wayB _) (wayB _); (simp only [List.getElem?_toArray, List.getElem?_cons_succ, List.getElem?_cons_zero]; rfl); (rfl); try simp only [Act.put, List.setIfInBounds_toArray, List.set_cons_zero, List.set_cons_succ]) | (apply linN_op; (simp only [List.getElem?_toArray, List.getElem?_cons_succ, List.getElem?_cons_zero]; rfl); (rfl); intro K hK; (first | (refine wp_cat (w0 := W1.drew) (m := 8) _ _ 24 rfl W1.heap.size 5 Try.underlying24 info_u8 (ho5.below hb6) (by first | rfl | (go_simp; rfl)) hq6 (by first | rfl | (go_simp; rfl)) (hb5.trans (hb6.mono hb5.size)) (Nat.le_trans hb5.size hb6.size) hl48 ?_; intro v7 w7 ho7 hb7 hg7 hv7; rw [HHL.out] at ho7; obtain ⟨A7, ca7, rfl, lc7, -, hq7⟩ := ho7.form; rw [HLN.out] at hq7 lc7; simp only [HLN.out]; have R13 := Row.below (show Row W1.drew _ _ _ from k5) hb7 hz1) | (refine wp_copyP (g := gO) (off := 0) (n := 12) (m := 12) (T := 43) (cur := (bv (List.replicate 12 0)).toArray) (ys := H) rfl (by first | rfl | (go_simp; rfl)) (by first | rfl | (go_simp; rfl)) R13 hq7 (by decide) ?_; intro W2 y2 hu2) | (go_simp; (first | (go_at_call 33; (with_reducible refine (c_rPut4 boot _).mono ?_); rintro e w5 ⟨A5, ca5, rfl, lc5, ho5, hq5, hb5⟩) | (go_at_call 33; (with_reducible refine (c_rPut8 seq _).mono ?_); rintro e w6 ⟨A6, ca6, rfl, lc6, ho6, hq6, hb6⟩) | skip))); refine hK _ _ ?_ ?_; (exact trivial); clear hK; try simp only [Act.put, List.setIfInBounds_toArray, List.set_cons_zero, List.set_cons_succ])); refine linN_end ?_)
  have k6 : Row W2 gO _ _ := hu2.row
  rw [copy_row] at k6
  have e6 : (List.replicate 12 (0 : UInt8)).take 0 ++ (H.take (min 12 12) ++ (List.replicate 12 0).drop (0 + min 12 12)) = H := by
    rw [List.take_zero, List.nil_append, List.take_of_length_le (by rw [HLN.out]; decide)]
    simp
  rw [e6] at k6
  have k4' := (Row.below (show Row W1.drew _ _ _ from k4) hb7 (show _ < W1.heap.size by omega)).upd hu2 (by omega)
  have hB6 := (below_drew hB).trans ((hb7.mono (show _ ≤ W1.heap.size by omega)).trans (hu2.below (by omega)))
  have hall := bv_all H
  clear e6 hu2 hb7 ho7 hq7 R13 k4 k5 hB hz1 hw6 ho5 hb5 hq5 ho6 hb6 hq6
  go_wp2_with (first | (apply wpl_loadS (ty := 43); rfl; rfl; rfl; kernel_rfl; exact k6; (simp only [List.size_toArray, bv_length, HLN.out]; kernel_rfl); simp only [Act.put, List.setIfInBounds_toArray, List.set_cons_zero, List.set_cons_succ]) | (apply wpl_storeX; rfl; rfl; rfl; rfl; exact k4'; (simp only [List.size_toArray, bv_length, HLN.out]; kernel_rfl); (simp only [List.size_toArray, bv_length, HLN.out]; rfl); exact hall; intro W6 hW6; simp only [Act.put]))
  refine bodyPost_ret (results_cell1 rfl rfl (run_loadRow _ _ _ _ _ 0 hW6.row (by simp only [List.size_toArray, bv_length, HLN.out]; kernel_rfl) (by kernel_rfl))) rfl ⟨by rw [HHD.out], hB6.trans (hW6.below (by omega))⟩
end Go.Proofs.Ytmdmhjcdaejlkaa

/- The walk of seal.Seal. -/
set_option linter.unusedVariables false
set_option linter.unusedSimpArgs false
namespace Go.Proofs.Ytmdmhjcdaejlkaa
open Go.RowKit

/-- append(s, x...) where s has no room: a row of the call's own -/
theorem run_growB (W : World) (ty : TypeId) (A B : Option Addr) (n m c : Nat) (xs ys : List UInt8) (hr : RdB W A n xs) (hr2 : RdB W B m ys) (hm : 0 < m) (hl : n + m ≤ 10000000) :
    ∃ v1 w1, (Builtin.append_ #[24, 24] ty #[.slice A n n, .slice B m c]).run Try.prog W = .ok v1 w1 ∧ OwnB w1 W.heap.size 5 v1 (xs ++ ys) ∧ Below W.heap.size W w1 := by
  obtain ⟨i, hi, hz, hs, hby⟩ := info_parts8
  have hx := hr.len
  have hy := hr2.len
  have hold : (Builtin.firstCells i.size n (.slice A n n)).run Try.prog W.drew = .ok (bv xs).toArray W.drew := by
    rw [hs]
    cases A with
    | none =>
      have : n = 0 := by
        rcases Nat.eq_zero_or_pos n with h | h
        · exact h
        · obtain ⟨ad, e, _⟩ := hr.2 h; cases e
      subst this
      have : xs = [] := List.eq_nil_of_length_eq_zero hx
      subst this
      rfl
    | some ad =>
      have hc : ∀ j v, (bv xs)[j]? = some v → W.drew.cell? (ad.add j) = some v := by
        intro j v hv
        have hj : j < n := by rw [← hx, ← bv_length]; exact (List.getElem?_eq_some_iff.1 hv).1
        obtain ⟨ad', e, hcc⟩ := hr.2 (by omega)
        cases e
        exact hcc j v hv
      have := run_loadCells_list (P := Try.prog) W.drew ad (bv xs) hc
      rw [bv_length, hx] at this
      simp only [Builtin.firstCells, Nat.mul_one]
      exact this
  obtain ⟨adB, rfl, hcB⟩ := hr2.2 hm
  have hsrc := Src.ofSlice (P := Try.prog) W (size := i.size) (tx := 24) Try.underlying24 adB m c (bv ys) (by rw [bv_length, hs, Nat.mul_one, hy]) hcB (bv_cells ys)
  have hrun := run_append_grow_src (P := Try.prog) W 24 24 ty 5 i (.int .u8 0) Try.underlying24 hi hz A n n (bv xs) hold (.slice (some adB) m c) m (bv ys) hsrc (by omega) (by omega) (by
    have := nextslicecap_le (need := n + m) (old := n) (by omega)
    rw [hby]; omega)
  refine ⟨_, _, hrun, ?_, ⟨rfl, rfl, rfl, by simp, fun j hj => heap_alloc_old W.drew _ hj⟩⟩
  have hlen : (xs ++ ys).length = n + m := by rw [List.length_append, hx, hy]
  have hge := grownCap_ge W (n + m) n 5
  have hcm2 := grownCap_le_maxLen W (n + m) n 5 (by unfold maxLen; omega)
  unfold OwnB
  rw [hlen]
  refine ⟨by rw [bv_length, hlen, Nat.mul_one], .inr ⟨W.heap.size, _, _, rfl, Nat.le_refl _, heap_alloc_new W.drew _, hge, hcm2, ?_, ?_⟩⟩
  · simp [Builtin.zeroCells, Value.cells, bv_length, hx, hy]; omega
  · simp only [Array.toList_append, List.toList_toArray, zc_list, Nat.mul_one]
    rw [bv_append, List.take_append_of_le_length (by simp [bv_length, hx, hy]), List.take_of_length_le (by simp [bv_length, hx, hy])]
theorem wpl_growB {ops : Array Oper} {rest : List Oper} {o : Oper} {a : Act} {Q : Exit → Act → World → Prop} {W : World} {s x : Operand} {A B : Option Addr} {n m c : Nat} {xs ys : List UInt8} (hgd : o.guard = none)
    (ho : o.op = .call { callee := .builtin .append, args := #[s, x], argTypes := #[24, 24] }) (hs : a.eval s = .slice A n n) (hx : a.eval x = .slice B m c)
    (hr : RdB W A n xs) (hr2 : RdB W B m ys) (hm : 0 < m) (hl : n + m ≤ 10000000)
    (hK : ∀ v1 w1, OwnB w1 W.heap.size 5 v1 (xs ++ ys) → Below W.heap.size W w1 → wpList Try.prog ops Q rest (a.put o.dst v1) w1) : wpList Try.prog ops Q (o :: rest) a W := by
  obtain ⟨v1, w1, hrun, ho1, hb1⟩ := run_growB W o.type A B n m c xs ys hr hr2 hm hl
  exact Go.Lib.wpList_append_run W hgd s x _ _ ho _ _ hs hx v1 w1 hrun (hK v1 w1 ho1 hb1)
structure IsPad (xs : List UInt8) (m : Nat) (p : List UInt8) : Prop where
  out : padL xs m = p
structure IsSum (xs : List UInt8) (n : Nat) : Prop where
  out : sumN xs = n
structure IsXor (key h xs ys : List UInt8) : Prop where
  out : xorL key h xs = ys
theorem parts2 {W : World} {g : Nat} {T : TypeId} {A B : Option Addr} {c d : Nat} {xs ys : List UInt8} (h : Row W g #[.slice A xs.length c, .slice B ys.length d] T) (hx : RdB W A xs.length xs) (hy : RdB W B ys.length ys) (h1 : xs.length ≤ 1000000) (h2 : ys.length ≤ 1000000) :
    PartsAt W ⟨g, 0, none⟩ [xs, ys] := by
  intro i zs hz
  match i, hz with
  | 0, hz => cases hz; exact ⟨A, c, by rw [ad_none]; exact h.cell 0 rfl, hx, h1⟩
  | 1, hz => cases hz; exact ⟨B, d, by rw [ad_none]; exact h.cell 1 rfl, hy, h2⟩
  | i + 2, hz => simp at hz
theorem c_roomN (S : Nat) (h : 22 ≤ S) (hm : S ≤ 1000000) (w : World) : Calls Try.prog 84 #[.int .i64 (S : Int)] w fun e w' => e = .returned (.int .i64 ((S - 22 : Nat) : Int)) ∧ w = w' := by
  have e : ((S - 22 : Nat) : Int) = (S : Int) - 22 := by omega
  rw [e]
  clear e
  go_enter Try.func84, Try.ntmps84
  go_wp2
  go_ret
  exact ⟨rfl, rfl⟩
theorem c_room (s : Int) (h1 : -100 ≤ s) (hm : s ≤ 1000000) (w : World) : Calls Try.prog 84 #[.int .i64 s] w fun e w' => e = .returned (.int .i64 (s - 22)) ∧ w = w' := by
  go_enter Try.func84, Try.ntmps84
  go_wp2
  go_ret
  exact ⟨rfl, rfl⟩
set_option maxHeartbeats 2000000 in
set_option maxRecDepth 100000 in
theorem c_seal (key : List UInt8) (hk : key.length = 32) (boot seq : Nat) (hb : boot < 4294967296) (A : Option Addr) (n c : Nat) (plain : List UInt8) (S : Nat) (w : World) (hR : RdB w A n plain) (h1 : n + 22 ≤ S) (h2 : S ≤ 60022) :
    Calls Try.prog 58 #[.agg (bv key).toArray, .int .u32 (boot : Int), .int .u64 (seq : Int), .slice A n c, .int .i64 (S : Int)] w fun e w' => ∃ v, e = .returned (.tuple #[v, .bool true]) ∧ OwnB w' w.heap.size 5 v (sealL key boot seq plain S) ∧ Below w.heap.size w w' := by
  have HK := Lib.hid hk
  clear hk
  have r0 := Row.new w (bv key).toArray 22
  have hB0 := below_alloc (Below.refl w.heap.size w) (.cells (bv key).toArray 22)
  have hR0 := hR.below hB0 (Nat.le_refl _)
  have hz0 : (w.alloc (.cells (bv key).toArray 22)).heap.size = w.heap.size + 1 := by simp
  have hS : 22 ≤ (S : Int) := by omega
  go_enter Try.func58, Try.ntmps58
  go_upto_region 1 with fail
  generalize w.alloc (.cells (bv key).toArray 22) = w0 at *
  have hln := headL12_length boot seq
  have HLN := Lib.hid hln
  have hall := bv_all (headL12 boot seq)
  have HHD : IsHd boot seq (headL12 boot seq) := ⟨rfl⟩
  have HC := Lib.hid (c_head boot seq hb w0)
  clear hln
  generalize headL12 boot seq = H at *
  go_upto_region 2 with (first | (go_at_call 82; refine HC.out.mono ?_; rintro e w1 ⟨rfl, hb1⟩) | (apply wpl_storeN; rfl; rfl; rfl; (first | rfl | simp); rfl; (simp only [List.size_toArray, bv_length, HLN.out]; kernel_rfl); (simp only [List.size_toArray, bv_length, HLN.out]; rfl); exact hall; simp only [Act.put]))
  have r1 := Row.new w1 (bv H).toArray 43
  have q0 := (r0.below hb1 r0.lt).alloc (.cells (bv H).toArray 43)
  have hR1 := (hR0.below hb1 (Nat.le_refl _)).below (below_alloc (Below.refl w1.heap.size w1) (.cells (bv H).toArray 43)) (Nat.le_refl _)
  have hB1 := below_alloc (below_two hB0 hb1) (.cells (bv H).toArray 43)
  have hg1 : w.heap.size < w1.heap.size := by have := hb1.size; omega
  clear r0 hR0 hB0 hb1 HC hz0 hR
  generalize w1.alloc (.cells (bv H).toArray 43) = w2 at *
  generalize w1.heap.size = g1 at *
  have HCP := Lib.hid (c_lePad A n c plain (S - 22) w2 hR1 (by omega) (by omega))
  have hpl := padL_length (xs := plain) (most := S - 22) (by have := RdB.len hR1; omega)
  have HPL := Lib.hid hpl
  have HPD : IsPad plain (S - 22) (padL plain (S - 22)) := ⟨rfl⟩
  clear hpl
  generalize padL plain (S - 22) = P at *
  go_upto_region 7 with (first | (go_at_call 84; refine (c_roomN S (by omega) (by omega) _).mono ?_; rintro e w' ⟨rfl, rfl⟩) | (go_at_call 83; refine HCP.out.mono ?_; rintro e w3 ⟨v3, rfl, ho3, hb3⟩))
  obtain ⟨A3, c3, rfl, lc3, -, hr3⟩ := ho3.form
  have k0 := q0.below hb3 q0.lt
  have k1 := r1.below hb3 r1.lt
  have hB3 := below_two hB1 hb3
  have hz3 := hb3.size
  clear HCP hR1
  have hpn : P.length = S - 20 := by rw [HPL.out]; omega
  have hps : P.length ≤ 1000000 := by omega
  have HPN := Lib.hid hpn
  clear hpn
  go_wp2_with fail
  have hb4 := below_alloc (Below.refl w3.heap.size w3) (.cells #[.slice (some ⟨g1, 0, none⟩) 12 12, .slice A3 P.length c3] 24)
  have rp := Row.new w3 #[.slice (some ⟨g1, 0, none⟩) 12 12, .slice A3 P.length c3] 24
  have ho4 := ho3.below hb4
  have hr4 := hr3.below hb4 (Nat.le_refl _)
  have k0' := k0.below hb4 k0.lt
  have k1' := k1.below hb4 k1.lt
  have hbb4 := hb3.trans (hb4.mono hz3)
  generalize w3.alloc (.cells #[.slice (some ⟨g1, 0, none⟩) 12 12, .slice A3 P.length c3] 24) = w4 at *
  generalize w3.heap.size = g3 at *
  have hpa : PartsAt w4 ⟨g3, 0, none⟩ [H, P] := parts2 (c := 12) (d := c3) (by rw [HLN.out]; exact rp) (by rw [HLN.out]; exact row_all k1' HLN.out) hr4 (by rw [HLN.out]; decide) hps
  have HSC := c_leSum ⟨g3, 0, none⟩ 2 [H, P] w4 hpa (by show 2 ≤ 1000; omega)
  have hfl : [H, P].flatten = H ++ P := by simp
  rw [hfl] at HSC
  have HSS : IsSum (H ++ P) (sumN (H ++ P)) := ⟨rfl⟩
  have hsl := sumN_lt (H ++ P)
  generalize sumN (H ++ P) = sm at *
  refine HSC.mono ?_
  rintro e w' ⟨rfl, rfl⟩
  clear HSC hpa rp hfl ho3 hr3 k0 k1 hb4
  have hin : P ++ leP sm 8 = innerL H P := by unfold innerL; rw [HSS.out]
  have HIN := Lib.hid hin
  have hil : (innerL H P).length = S - 12 := by rw [← HIN.out, List.length_append, leP_length, HPN.out]; omega
  have HIL := Lib.hid hil
  clear hin hil
  go_wp2_with fail
  refine (c_lePut8 sm _).mono ?_
  rintro e w5 ⟨A5, c5, rfl, lc5, ho5, hr5, hb5⟩
  have ho6 := ho4.below hb5
  have k0 := k0'.below hb5 k0'.lt
  have k1 := k1'.below hb5 k1'.lt
  have hsz4 := hbb4.size
  have hbb5 := hbb4.trans (hb5.mono hsz4)
  have hlp : P.length + 8 ≤ 140737488355328 := by omega
  generalize innerL H P = I at *
  clear ho4 hr4 k0' k1' hb5 ho5
  go_upto_region 8 with (at_builtin; refine wpl_cat (w0 := w2) rfl _ _ 24 rfl w2.heap.size 5 Try.underlying24 info_u8 ho6 rfl hr5 rfl hbb5 hbb5.size hlp ?_; intro v6 w6 ho7 hbb6 hg6 hv6)
  rw [HIN.out] at ho7
  obtain ⟨A7, c7, rfl, lc7, -, hr7⟩ := ho7.form
  have j0 := q0.below hbb6 q0.lt
  have j1 := r1.below hbb6 r1.lt
  have hxl : (xorL key H I).length = S - 12 := by rw [xorL_length, HIL.out]
  have HXL := Lib.hid hxl
  have HXC := Lib.hid (c_xor key H HK.out HLN.out A7 c7 I w6 hr7 (by rw [HIL.out]; omega))
  have HXX : IsXor key H I (xorL key H I) := ⟨rfl⟩
  clear hxl k0 k1 q0 r1 ho6 hr5 hbb5 hg6 hv6 hbb4 hb3
  generalize xorL key H I = X at *
  go_upto_region 9 with (first | (apply wpl_loadS (ty := 22); rfl; rfl; rfl; kernel_rfl; exact j0; (simp only [List.size_toArray, bv_length, HK.out]; kernel_rfl); simp only [Act.put, List.setIfInBounds_toArray, List.set_cons_zero, List.set_cons_succ]) | (apply wpl_loadS (ty := 43); rfl; rfl; rfl; kernel_rfl; exact j1; (simp only [List.size_toArray, bv_length, HLN.out]; kernel_rfl); simp only [Act.put, List.setIfInBounds_toArray, List.set_cons_zero, List.set_cons_succ]) | (go_at_call 87; refine HXC.out.mono ?_; rintro e w8 ⟨v8, rfl, ho8, hb8⟩))
  obtain ⟨A8, c8, rfl, lc8, -, hr8⟩ := ho8.form
  have j2 := row_all (j1.below hb8 j1.lt) HLN.out
  have hB8 := (below_two hB1 hbb6).trans (hb8.mono (Nat.le_trans hB1.size hbb6.size))
  have hs8 := Nat.le_trans (Nat.le_trans hB1.size hbb6.size) hb8.size
  have hx0 : 0 < X.length := by rw [HXL.out]; omega
  have hx1 : 12 + X.length ≤ 10000000 := by rw [HXL.out]; omega
  have hfin : H ++ X = sealL key boot seq plain S := by
    unfold sealL
    rw [← HXX.out, ← HIN.out, ← HSS.out, ← HPD.out, ← HHD.out]
    rfl
  have HF := Lib.hid hfin
  clear hfin j0 j1 hr7 ho7 hb8 HXC
  go_wp2_with (at_builtin; refine wpl_growB (xs := H) (ys := X) rfl rfl rfl rfl j2 hr8 hx0 hx1 ?_; intro v9 w9 ho9 hb9)
  go_ret2
  exact ⟨_, rfl, by rw [← HF.out]; exact OwnB.mono ho9 hs8, hB8.trans (hb9.mono hs8)⟩
set_option maxHeartbeats 2000000 in
set_option maxRecDepth 100000 in
/-- what does not fit is not sealed -/
theorem c_sealNo (key : List UInt8) (boot seq : Nat) (hb : boot < 4294967296) (A : Option Addr) (n c : Nat) (plain : List UInt8) (S : Int) (w : World) (hR : RdB w A n plain) (h1 : -100 ≤ S) (h2 : S ≤ 1000000) (hn : 0 ≤ n) (hf : fitsB n S = false) :
    Calls Try.prog 58 #[.agg (bv key).toArray, .int .u32 (boot : Int), .int .u64 (seq : Int), .slice A n c, .int .i64 S] w fun e w' => e = .returned (.tuple #[.slice none 0 0, .bool false]) ∧ Below w.heap.size w w' := by
  have hB0 := below_alloc (Below.refl w.heap.size w) (.cells (bv key).toArray 22)
  have hR0 := hR.below hB0 (Nat.le_refl _)
  have hff : S < 22 ∨ (22 ≤ S ∧ (60000 < S - 22 ∨ S - 22 < (n : Int))) := by
    have : ¬ (fitsB n S = true) := by rw [hf]; decide
    rw [fitsB_iff] at this
    omega
  clear hf
  generalize hw0 : w.alloc (.cells (bv key).toArray 22) = w0 at *
  have HW0 := Lib.hid hw0
  clear hw0
  have hln := headL12_length boot seq
  have HLN := Lib.hid hln
  have hall := bv_all (headL12 boot seq)
  have HC := Lib.hid (c_head boot seq hb w0)
  clear hln
  generalize headL12 boot seq = H at *
  rcases hff with hS | ⟨hS, hff⟩
  all_goals
    go_enter Try.func58, Try.ntmps58
    go_upto_region 1 with fail
    rw [HW0.out]
    go_upto_region 2 with (first | (go_at_call 82; refine HC.out.mono ?_; rintro e w1 ⟨rfl, hb1⟩) | (apply wpl_storeN; rfl; rfl; rfl; (first | rfl | simp); rfl; (simp only [List.size_toArray, bv_length, HLN.out]; kernel_rfl); (simp only [List.size_toArray, bv_length, HLN.out]; rfl); exact hall; simp only [Act.put]))
    have hB1 := below_alloc (below_two hB0 hb1) (.cells (bv H).toArray 43)
    generalize w1.alloc (.cells (bv H).toArray 43) = w2 at *
    clear HC hR0 hB0 hb1 hR
    go_wp2_with (first | (go_at_call 84; refine (c_room S (by omega) (by omega) _).mono ?_; rintro e w' ⟨rfl, rfl⟩) | (go_at_call 83; refine (c_lePadNo A n c (S - 22) _ (.inr hff)).mono ?_; rintro e w' ⟨rfl, rfl⟩))
    go_ret2
    exact ⟨rfl, hB1⟩
end Go.Proofs.Ytmdmhjcdaejlkaa

/- The walk of seal.Open. -/
set_option linter.unusedVariables false
set_option linter.unusedSimpArgs false
namespace Go.Proofs.Ytmdmhjcdaejlkaa
open Go.RowKit

theorem linN_hotLoad {P : Program} {R0 R1 : World → World → Prop} {ops : Array Oper} {Q : Exit → Act → World → Prop} {i : Nat} {t : ON} {a : Act} {w : World} {o : Oper} {ty : TypeId} {x : Operand} {ad : Addr} {vs : List Value} (hi : ops[i]? = some o) (hw : Region.wanted o (yielded ops a.tmps) = true)
    (ho : o.op = .load ty x) (hx : a.eval x = .pointer (some ad)) (ha : ∀ w', (isAgg ty).run P w' = .ok true w') (hsz : (P.info? ty).map (·.size) = some vs.length) (hc : ∀ w', R1 w w' → ∀ j v, vs[j]? = some v → w'.cell? (ad.add j) = some v)
    (h : LinN P R0 R1 ops Q t (a.put o.dst (.agg vs.toArray)) w) : LinN P R0 R1 ops Q (.hot i t) a w :=
  linN_hot hi hw (fun w' hR => run_loadO ho hx (ha w') hsz (hc w' hR)) h
/-- what Open answers -/
def OpenRes (key b : List UInt8) (B : Nat) (e : Ending) (w' : World) : Prop :=
  (∀ p, openL key b = some p → ∃ v, e = .returned (.tuple #[v, .int .u32 (bootN b : Nat), .int .u64 (seqN b : Nat), .bool true]) ∧ OwnB w' B 5 v p) ∧
  (openL key b = none → e = .returned (.tuple #[.slice none 0 0, .int .u32 0, .int .u64 0, .bool false]))
theorem openL_short {key b : List UInt8} (h : b.length < 22) : openL key b = none := by unfold openL; rw [if_neg (by omega)]
theorem openL_off {key b : List UInt8} (h : 60000 < b.length - 22 ∨ unpadL (openP key b) (b.length - 22) = none) : openL key b = none := by
  unfold openL
  split
  · rename_i hc
    rcases h with h | h
    · omega
    · exact h
  · rfl
theorem openL_unmet {key b : List UInt8} (h : metB key b = false) : openL key b = none := by unfold openL; rw [if_neg (by rw [h]; simp)]
theorem openL_met {key b p : List UInt8} (h1 : 22 ≤ b.length) (h2 : b.length - 22 ≤ 60000) (h3 : metB key b = true) (h4 : unpadL (openP key b) (b.length - 22) = some p) : openL key b = some p := by
  unfold openL
  rw [if_pos ⟨h1, by omega, h3⟩, h4]
theorem openRes_no {key b : List UInt8} {B : Nat} {w' : World} (h : openL key b = none) : OpenRes key b B (.returned (.tuple #[.slice none 0 0, .int .u32 0, .int .u64 0, .bool false])) w' :=
  ⟨fun p hp => (by rw [h] at hp; cases hp), fun _ => rfl⟩
theorem openRes_yes {key b p : List UInt8} {B : Nat} {w' : World} {v : Value} (h : openL key b = some p) (ho : OwnB w' B 5 v p) : OpenRes key b B (.returned (.tuple #[v, .int .u32 (bootN b : Nat), .int .u64 (seqN b : Nat), .bool true])) w' :=
  ⟨fun q hq => (by rw [h] at hq; cases hq; exact ⟨v, rfl, ho⟩), fun hn => (by rw [h] at hn; cases hn)⟩
structure IsOpen (key b h P S : List UInt8) : Prop where
  hd : b.take 12 = h
  p : openP key b = P
  s : openS key b = S
set_option maxHeartbeats 2000000 in
set_option maxRecDepth 100000 in
theorem c_open (key : List UInt8) (hk : key.length = 32) (A : Option Addr) (n c : Nat) (b : List UInt8) (w : World) (hR : RdB w A n b) (hc : n ≤ c) (hn : n ≤ 1000000) :
    Calls Try.prog 60 #[.agg (bv key).toArray, .slice A n c] w fun e w' => OpenRes key b w.heap.size e w' ∧ Below w.heap.size w w' := by
  have HK := Lib.hid hk
  clear hk
  have r0 := Row.new w (bv key).toArray 22
  have hB0 := below_alloc (Below.refl w.heap.size w) (.cells (bv key).toArray 22)
  have hR0 := hR.below hB0 (Nat.le_refl _)
  have hz0 : (w.alloc (.cells (bv key).toArray 22)).heap.size = w.heap.size + 1 := by simp
  have hbl := hR.len
  by_cases h22 : n < 22
  · have h22' : (n : Int) < 22 := by omega
    have hno := openL_short (key := key) (b := b) (by omega)
    have HNO := Lib.hid (openRes_no (B := w.heap.size) (w' := w.alloc (.cells (bv key).toArray 22)) hno)
    clear hno r0 hR0 hz0 hbl
    go_enter Try.func60, Try.ntmps60
    go_wp2
    refine bodyPost_ret (v := .tuple #[.slice none 0 0, .int .u32 0, .int .u64 0, .bool false]) (by simp [results, Try.results60]) rfl ⟨HNO.out, hB0⟩
  · have h22' : ¬ (n : Int) < 22 := by omega
    obtain ⟨ad, rfl, hcell⟩ := hR0.2 (by omega)
    obtain ⟨A1, e1, r1⟩ := cut_to hR0 hc 12 12 rfl (by omega)
    obtain ⟨A2, e2, r2⟩ := cut_from hR0 hc 12 12 rfl (by omega)
    have HBL := Lib.hid hbl
    clear hR hbl
    go_enter Try.func60, Try.ntmps60
    go_upto_region 3 with fail
    generalize w.alloc (.cells (bv key).toArray 22) = w0 at *
    have hh : (b.take 12).length = 12 := by rw [List.length_take, HBL.out]; omega
    have HH := Lib.hid hh
    have hall := bv_all (b.take 12)
    have harr := run_arrayAt (P := Try.prog) w0 43 5 12 A1 12 c Try.underlying43 (Nat.le_refl _)
    obtain ⟨ad1, rfl, hc1⟩ := r1.2 (by decide)
    have HD : IsOpen key b (b.take 12) (openP key b) (openS key b) := ⟨rfl, rfl, rfl⟩
    have hdp : (b.drop 12).length = n - 12 := by rw [List.length_drop, HBL.out]
    have HDP := Lib.hid hdp
    clear hh hdp
    generalize b.take 12 = H at *
    go_upto_region 4 with (first | (apply wpl_loadR (ty := 43) (bv H); rfl; rfl; rfl; kernel_rfl; (rw [bv_length, HH.out]; kernel_rfl); exact hc1; simp only [Act.put, List.setIfInBounds_toArray, List.set_cons_zero, List.set_cons_succ]) | (apply wpl_storeN; rfl; rfl; rfl; (first | rfl | exact hz0); rfl; (simp only [List.size_toArray, bv_length, HH.out]; kernel_rfl); (simp only [List.size_toArray, bv_length, HH.out]; rfl); exact hall; simp only [Act.put]))
    have r8 := Row.new w0 (bv H).toArray 43
    rw [hz0] at r8
    have hb1 := below_alloc (Below.refl w0.heap.size w0) (.cells (bv H).toArray 43)
    have k0 := r0.below hb1 r0.lt
    have hr2 := r2.below hb1 (Nat.le_refl _)
    have hB1 := below_two hB0 hb1
    have hz1 : w.heap.size + 1 < (w0.alloc (.cells (bv H).toArray 43)).heap.size := r8.lt
    clear r0 r1 r2 hB0 hR0 hb1 harr hcell hc1 hz0 e1
    generalize w0.alloc (.cells (bv H).toArray 43) = w1 at *
    generalize w.heap.size + 1 = g8 at *
    have hxl : (xorL key H (b.drop 12)).length = n - 12 := by rw [xorL_length, HDP.out]
    have HXL := Lib.hid hxl
    have HXC := c_xor key H HK.out HH.out A2 (c - 12) (b.drop 12) w1.drew (by rw [HDP.out]; exact hr2) (by rw [HDP.out]; omega)
    rw [HDP.out] at HXC
    have HX2 := Lib.hid HXC
    have hop : (xorL key H (b.drop 12)).take (n - 20) = openP key b := by unfold openP; rw [HD.hd, HBL.out]
    have hos : (xorL key H (b.drop 12)).drop (n - 20) = openS key b := by unfold openS; rw [HD.hd, HBL.out]
    have HOP := Lib.hid hop
    have HOS := Lib.hid hos
    clear hxl HXC hop hos
    generalize xorL key H (b.drop 12) = X at *
    (refine wp_region_linN (Below w1.heap.size) (Below w1.heap.size) (wayB _) (wayB _) (fun _ _ h => h) (.hot 0 (.hot 1 (.free 2 (.free 3 (.op 4 [(0, 4), (1, 4)] [] [] (.free 5 (.free 6 (.free 7 (.free 8 (.free 9 .nil)))))))))) rfl (by kernel_rfl) (by kernel_rfl) (fun _ _ _ _ _ h => h) ?_; (first | (apply linN_hotLoad (ty := 22) (vs := bv key); (simp only [List.getElem?_toArray, List.getElem?_cons_succ, List.getElem?_cons_zero]; rfl); (rfl); (rfl); (rfl); (intro _; kernel_rfl); (rw [bv_length, HK.out]; kernel_rfl); (intro w' hR; exact row_cells ((show Row w1.drew _ _ _ from k0).below hR k0.lt)); try simp only [Act.put, List.setIfInBounds_toArray, List.set_cons_zero, List.set_cons_succ]) | (apply linN_hotLoad (ty := 43) (vs := bv H); (simp only [List.getElem?_toArray, List.getElem?_cons_succ, List.getElem?_cons_zero]; rfl); (rfl); (rfl); (rfl); (intro _; kernel_rfl); (rw [bv_length, HH.out]; kernel_rfl); (intro w' hR; exact row_cells ((show Row w1.drew _ _ _ from r8).below hR r8.lt)); try simp only [Act.put, List.setIfInBounds_toArray, List.set_cons_zero, List.set_cons_succ]) | (apply linN_hot; (simp only [List.getElem?_toArray, List.getElem?_cons_succ, List.getElem?_cons_zero]; rfl); (rfl); (intro w' hb'; (first | (go_simp; done) | (go_simp; with_reducible rfl) | (go_simp; go_bits; with_reducible rfl) | (go_simp; go_bits; done))); try simp only [Act.put, List.setIfInBounds_toArray, List.set_cons_zero, List.set_cons_succ]) | (apply linN_hotSkip; (simp only [List.getElem?_toArray, List.getElem?_cons_succ, List.getElem?_cons_zero]; rfl); (rfl); try simp only [Act.put, List.setIfInBounds_toArray, List.set_cons_zero, List.set_cons_succ])); (first | (apply linN_hotLoad (ty := 22) (vs := bv key); (simp only [List.getElem?_toArray, List.getElem?_cons_succ, List.getElem?_cons_zero]; rfl); (rfl); (rfl); (rfl); (intro _; kernel_rfl); (rw [bv_length, HK.out]; kernel_rfl); (intro w' hR; exact row_cells ((show Row w1.drew _ _ _ from k0).below hR k0.lt)); try simp only [Act.put, List.setIfInBounds_toArray, List.set_cons_zero, List.set_cons_succ]) | (apply linN_hotLoad (ty := 43) (vs := bv H); (simp only [List.getElem?_toArray, List.getElem?_cons_succ, List.getElem?_cons_zero]; rfl); (rfl); (rfl); (rfl); (intro _; kernel_rfl); (rw [bv_length, HH.out]; kernel_rfl); (intro w' hR; exact row_cells ((show Row w1.drew _ _ _ from r8).below hR r8.lt)); try simp only [Act.put, List.setIfInBounds_toArray, List.set_cons_zero, List.set_cons_succ]) | (apply linN_hot; (simp only [List.getElem?_toArray, List.getElem?_cons_succ, List.getElem?_cons_zero]; rfl); (rfl); (intro w' hb'; (first | (go_simp; done) | (go_simp; with_reducible rfl) | (go_simp; go_bits; with_reducible rfl) | (go_simp; go_bits; done))); try simp only [Act.put, List.setIfInBounds_toArray, List.set_cons_zero, List.set_cons_succ]) | (apply linN_hotSkip; (simp only [List.getElem?_toArray, List.getElem?_cons_succ, List.getElem?_cons_zero]; rfl); (rfl); try simp only [Act.put, List.setIfInBounds_toArray, List.set_cons_zero, List.set_cons_succ])); (first | (apply linN_hotLoad (ty := 22) (vs := bv key); (simp only [List.getElem?_toArray, List.getElem?_cons_succ, List.getElem?_cons_zero]; rfl); (rfl); (rfl); (rfl); (intro _; kernel_rfl); (rw [bv_length, HK.out]; kernel_rfl); (intro w' hR; exact row_cells ((show Row w1.drew _ _ _ from k0).below hR k0.lt)); try simp only [Act.put, List.setIfInBounds_toArray, List.set_cons_zero, List.set_cons_succ]) | (apply linN_hotLoad (ty := 43) (vs := bv H); (simp only [List.getElem?_toArray, List.getElem?_cons_succ, List.getElem?_cons_zero]; rfl); (rfl); (rfl); (rfl); (intro _; kernel_rfl); (rw [bv_length, HH.out]; kernel_rfl); (intro w' hR; exact row_cells ((show Row w1.drew _ _ _ from r8).below hR r8.lt)); try simp only [Act.put, List.setIfInBounds_toArray, List.set_cons_zero, List.set_cons_succ]) | (apply linN_free; (simp only [List.getElem?_toArray, List.getElem?_cons_succ, List.getElem?_cons_zero]; rfl); (rfl); (intro w'; (first | (go_simp; done) | (go_simp; with_reducible rfl) | (go_simp; go_bits; with_reducible rfl) | (go_simp; go_bits; done))); try simp only [Act.put, List.setIfInBounds_toArray, List.set_cons_zero, List.set_cons_succ]) | (apply linN_freeSkip; (simp only [List.getElem?_toArray, List.getElem?_cons_succ, List.getElem?_cons_zero]; rfl); (rfl); try simp only [Act.put, List.setIfInBounds_toArray, List.set_cons_zero, List.set_cons_succ])); (first | (apply linN_hotLoad (ty := 22) (vs := bv key); (simp only [List.getElem?_toArray, List.getElem?_cons_succ, List.getElem?_cons_zero]; rfl); (rfl); (rfl); (rfl); (intro _; kernel_rfl); (rw [bv_length, HK.out]; kernel_rfl); (intro w' hR; exact row_cells ((show Row w1.drew _ _ _ from k0).below hR k0.lt)); try simp only [Act.put, List.setIfInBounds_toArray, List.set_cons_zero, List.set_cons_succ]) | (apply linN_hotLoad (ty := 43) (vs := bv H); (simp only [List.getElem?_toArray, List.getElem?_cons_succ, List.getElem?_cons_zero]; rfl); (rfl); (rfl); (rfl); (intro _; kernel_rfl); (rw [bv_length, HH.out]; kernel_rfl); (intro w' hR; exact row_cells ((show Row w1.drew _ _ _ from r8).below hR r8.lt)); try simp only [Act.put, List.setIfInBounds_toArray, List.set_cons_zero, List.set_cons_succ]) | (apply linN_free; (simp only [List.getElem?_toArray, List.getElem?_cons_succ, List.getElem?_cons_zero]; rfl); (rfl); (intro w'; (first | (go_simp; done) | (go_simp; with_reducible rfl) | (go_simp; go_bits; with_reducible rfl) | (go_simp; go_bits; done))); try simp only [Act.put, List.setIfInBounds_toArray, List.set_cons_zero, List.set_cons_succ]) | (apply linN_freeSkip; (simp only [List.getElem?_toArray, List.getElem?_cons_succ, List.getElem?_cons_zero]; rfl); (rfl); try simp only [Act.put, List.setIfInBounds_toArray, List.set_cons_zero, List.set_cons_succ])); (first | (apply linN_pass (wayB _) (wayB _); (simp only [List.getElem?_toArray, List.getElem?_cons_succ, List.getElem?_cons_zero]; rfl); (rfl); try simp only [Act.put, List.setIfInBounds_toArray, List.set_cons_zero, List.set_cons_succ]) | (apply linN_op; (simp only [List.getElem?_toArray, List.getElem?_cons_succ, List.getElem?_cons_zero]; rfl); (rfl); intro K hK; (first | (go_simp; (first | (go_at_call 87; (with_reducible refine HX2.out.mono ?_); rintro e w2 ⟨v2, rfl, ho2, hb2⟩) | skip))); refine hK _ _ ?_ ?_; (exact trivial); clear hK; try simp only [Act.put, List.setIfInBounds_toArray, List.set_cons_zero, List.set_cons_succ])); (first | (apply linN_hotLoad (ty := 22) (vs := bv key); (simp only [List.getElem?_toArray, List.getElem?_cons_succ, List.getElem?_cons_zero]; rfl); (rfl); (rfl); (rfl); (intro _; kernel_rfl); (rw [bv_length, HK.out]; kernel_rfl); (intro w' hR; exact row_cells ((show Row w1.drew _ _ _ from k0).below hR k0.lt)); try simp only [Act.put, List.setIfInBounds_toArray, List.set_cons_zero, List.set_cons_succ]) | (apply linN_hotLoad (ty := 43) (vs := bv H); (simp only [List.getElem?_toArray, List.getElem?_cons_succ, List.getElem?_cons_zero]; rfl); (rfl); (rfl); (rfl); (intro _; kernel_rfl); (rw [bv_length, HH.out]; kernel_rfl); (intro w' hR; exact row_cells ((show Row w1.drew _ _ _ from r8).below hR r8.lt)); try simp only [Act.put, List.setIfInBounds_toArray, List.set_cons_zero, List.set_cons_succ]) | (apply linN_free; (simp only [List.getElem?_toArray, List.getElem?_cons_succ, List.getElem?_cons_zero]; rfl); (rfl); (intro w'; (first | (go_simp; done) | (go_simp; with_reducible rfl) | (go_simp; go_bits; with_reducible rfl) | (go_simp; go_bits; done))); try simp only [Act.put, List.setIfInBounds_toArray, List.set_cons_zero, List.set_cons_succ]) | (apply linN_freeSkip; (simp only [List.getElem?_toArray, List.getElem?_cons_succ, List.getElem?_cons_zero]; rfl); (rfl); try simp only [Act.put, List.setIfInBounds_toArray, List.set_cons_zero, List.set_cons_succ])); (first | (apply linN_hotLoad (ty := 22) (vs := bv key); (simp only [List.getElem?_toArray, List.getElem?_cons_succ, List.getElem?_cons_zero]; rfl); (rfl); (rfl); (rfl); (intro _; kernel_rfl); (rw [bv_length, HK.out]; kernel_rfl); (intro w' hR; exact row_cells ((show Row w1.drew _ _ _ from k0).below hR k0.lt)); try simp only [Act.put, List.setIfInBounds_toArray, List.set_cons_zero, List.set_cons_succ]) | (apply linN_hotLoad (ty := 43) (vs := bv H); (simp only [List.getElem?_toArray, List.getElem?_cons_succ, List.getElem?_cons_zero]; rfl); (rfl); (rfl); (rfl); (intro _; kernel_rfl); (rw [bv_length, HH.out]; kernel_rfl); (intro w' hR; exact row_cells ((show Row w1.drew _ _ _ from r8).below hR r8.lt)); try simp only [Act.put, List.setIfInBounds_toArray, List.set_cons_zero, List.set_cons_succ]) | (apply linN_free; (simp only [List.getElem?_toArray, List.getElem?_cons_succ, List.getElem?_cons_zero]; rfl); (rfl); (intro w'; (first | (go_simp; done) | (go_simp; with_reducible rfl) | (go_simp; go_bits; with_reducible rfl) | (go_simp; go_bits; done))); try simp only [Act.put, List.setIfInBounds_toArray, List.set_cons_zero, List.set_cons_succ]) | (apply linN_freeSkip; (simp only [List.getElem?_toArray, List.getElem?_cons_succ, List.getElem?_cons_zero]; rfl); (rfl); try simp only [Act.put, List.setIfInBounds_toArray, List.set_cons_zero, List.set_cons_succ])); (first | (apply linN_hotLoad (ty := 22) (vs := bv key); (simp only [List.getElem?_toArray, List.getElem?_cons_succ, List.getElem?_cons_zero]; rfl); (rfl); (rfl); (rfl); (intro _; kernel_rfl); (rw [bv_length, HK.out]; kernel_rfl); (intro w' hR; exact row_cells ((show Row w1.drew _ _ _ from k0).below hR k0.lt)); try simp only [Act.put, List.setIfInBounds_toArray, List.set_cons_zero, List.set_cons_succ]) | (apply linN_hotLoad (ty := 43) (vs := bv H); (simp only [List.getElem?_toArray, List.getElem?_cons_succ, List.getElem?_cons_zero]; rfl); (rfl); (rfl); (rfl); (intro _; kernel_rfl); (rw [bv_length, HH.out]; kernel_rfl); (intro w' hR; exact row_cells ((show Row w1.drew _ _ _ from r8).below hR r8.lt)); try simp only [Act.put, List.setIfInBounds_toArray, List.set_cons_zero, List.set_cons_succ]) | (apply linN_free; (simp only [List.getElem?_toArray, List.getElem?_cons_succ, List.getElem?_cons_zero]; rfl); (rfl); (intro w'; (first | (go_simp; done) | (go_simp; with_reducible rfl) | (go_simp; go_bits; with_reducible rfl) | (go_simp; go_bits; done))); try simp only [Act.put, List.setIfInBounds_toArray, List.set_cons_zero, List.set_cons_succ]) | (apply linN_freeSkip; (simp only [List.getElem?_toArray, List.getElem?_cons_succ, List.getElem?_cons_zero]; rfl); (rfl); try simp only [Act.put, List.setIfInBounds_toArray, List.set_cons_zero, List.set_cons_succ])); (first | (apply linN_hotLoad (ty := 22) (vs := bv key); (simp only [List.getElem?_toArray, List.getElem?_cons_succ, List.getElem?_cons_zero]; rfl); (rfl); (rfl); (rfl); (intro _; kernel_rfl); (rw [bv_length, HK.out]; kernel_rfl); (intro w' hR; exact row_cells ((show Row w1.drew _ _ _ from k0).below hR k0.lt)); try simp only [Act.put, List.setIfInBounds_toArray, List.set_cons_zero, List.set_cons_succ]) | (apply linN_hotLoad (ty := 43) (vs := bv H); (simp only [List.getElem?_toArray, List.getElem?_cons_succ, List.getElem?_cons_zero]; rfl); (rfl); (rfl); (rfl); (intro _; kernel_rfl); (rw [bv_length, HH.out]; kernel_rfl); (intro w' hR; exact row_cells ((show Row w1.drew _ _ _ from r8).below hR r8.lt)); try simp only [Act.put, List.setIfInBounds_toArray, List.set_cons_zero, List.set_cons_succ]) | (apply linN_free; (simp only [List.getElem?_toArray, List.getElem?_cons_succ, List.getElem?_cons_zero]; rfl); (rfl); (intro w'; (first | (go_simp; done) | (go_simp; with_reducible rfl) | (go_simp; go_bits; with_reducible rfl) | (go_simp; go_bits; done))); try simp only [Act.put, List.setIfInBounds_toArray, List.set_cons_zero, List.set_cons_succ]) | (apply linN_freeSkip; (simp only [List.getElem?_toArray, List.getElem?_cons_succ, List.getElem?_cons_zero]; rfl); (rfl); try simp only [Act.put, List.setIfInBounds_toArray, List.set_cons_zero, List.set_cons_succ])); (first | (apply linN_hotLoad (ty := 22) (vs := bv key); (simp only [List.getElem?_toArray, List.getElem?_cons_succ, List.getElem?_cons_zero]; rfl); (rfl); (rfl); (rfl); (intro _; kernel_rfl); (rw [bv_length, HK.out]; kernel_rfl); (intro w' hR; exact row_cells ((show Row w1.drew _ _ _ from k0).below hR k0.lt)); try simp only [Act.put, List.setIfInBounds_toArray, List.set_cons_zero, List.set_cons_succ]) | (apply linN_hotLoad (ty := 43) (vs := bv H); (simp only [List.getElem?_toArray, List.getElem?_cons_succ, List.getElem?_cons_zero]; rfl); (rfl); (rfl); (rfl); (intro _; kernel_rfl); (rw [bv_length, HH.out]; kernel_rfl); (intro w' hR; exact row_cells ((show Row w1.drew _ _ _ from r8).below hR r8.lt)); try simp only [Act.put, List.setIfInBounds_toArray, List.set_cons_zero, List.set_cons_succ]) | (apply linN_free; (simp only [List.getElem?_toArray, List.getElem?_cons_succ, List.getElem?_cons_zero]; rfl); (rfl); (intro w'; (first | (go_simp; done) | (go_simp; with_reducible rfl) | (go_simp; go_bits; with_reducible rfl) | (go_simp; go_bits; done))); try simp only [Act.put, List.setIfInBounds_toArray, List.set_cons_zero, List.set_cons_succ]) | (apply linN_freeSkip; (simp only [List.getElem?_toArray, List.getElem?_cons_succ, List.getElem?_cons_zero]; rfl); (rfl); try simp only [Act.put, List.setIfInBounds_toArray, List.set_cons_zero, List.set_cons_succ])); refine linN_end ?_)
    obtain ⟨A3, c3, rfl, lc3, -, hr3⟩ := ho2.form
    rw [HXL.out] at hr3 lc3 ⊢
    have hd1 : w1.drew.heap.size = w1.heap.size := rfl
    have hB2 := below_two (below_drew hB1) hb2
    have k8 := (show Row w1.drew _ _ _ from r8).below hb2 hz1
    have hsz2 := hb2.size
    clear hd1 k0 r8 hr2 hB1 ho2 hb2 HX2 e2
    have hi1 : IntKind.i64.wrap (((n - 12 : Nat) : Int) - 8) = ((n - 12 : Nat) : Int) - 8 := IntWalk.i64_in _ (by omega)
    have hi2 : 0 ≤ ((n - 12 : Nat) : Int) - 8 := by omega
    obtain ⟨A4, e4, r4⟩ := cut_to hr3 lc3 (((n - 12 : Nat) : Int) - 8) (n - 20) (by omega) (by omega)
    obtain ⟨A5, e5, r5⟩ := cut_from hr3 lc3 (((n - 12 : Nat) : Int) - 8) (n - 20) (by omega) (by omega)
    rw [show n - 12 - (n - 20) = 8 by omega] at e5 r5
    rw [HOP.out] at r4
    rw [HOS.out] at r5
    have hpl : (openP key b).length = n - 20 := by rw [← HOP.out, List.length_take, HXL.out]; omega
    have HPL := Lib.hid hpl
    clear hpl hr3
    go_upto_region 5 with fail
    (refine wp_region_linN (Below w2.heap.size) (Below w2.heap.size) (wayB _) (wayB _) (fun _ _ h => h) (.free 0 (.free 1 (.free 2 (.free 3 (.free 4 (.free 5 (.free 6 (.free 7 (.free 8 (.free 9 (.free 10 (.free 11 .nil)))))))))))) rfl (by kernel_rfl) (by kernel_rfl) (fun _ _ _ _ _ h => h) ?_; (first | (apply linN_free; (simp only [List.getElem?_toArray, List.getElem?_cons_succ, List.getElem?_cons_zero]; rfl); (rfl); (intro w'; (first | (go_simp; done) | (go_simp; with_reducible rfl) | (go_simp; go_bits; with_reducible rfl) | (go_simp; go_bits; done))); try simp only [Act.put, List.setIfInBounds_toArray, List.set_cons_zero, List.set_cons_succ]) | (apply linN_freeSkip; (simp only [List.getElem?_toArray, List.getElem?_cons_succ, List.getElem?_cons_zero]; rfl); (rfl); try simp only [Act.put, List.setIfInBounds_toArray, List.set_cons_zero, List.set_cons_succ])); (first | (apply linN_free; (simp only [List.getElem?_toArray, List.getElem?_cons_succ, List.getElem?_cons_zero]; rfl); (rfl); (intro w'; (first | (go_simp; done) | (go_simp; with_reducible rfl) | (go_simp; go_bits; with_reducible rfl) | (go_simp; go_bits; done))); try simp only [Act.put, List.setIfInBounds_toArray, List.set_cons_zero, List.set_cons_succ]) | (apply linN_freeSkip; (simp only [List.getElem?_toArray, List.getElem?_cons_succ, List.getElem?_cons_zero]; rfl); (rfl); try simp only [Act.put, List.setIfInBounds_toArray, List.set_cons_zero, List.set_cons_succ])); (first | (apply linN_free; (simp only [List.getElem?_toArray, List.getElem?_cons_succ, List.getElem?_cons_zero]; rfl); (rfl); (intro w'; (first | (go_simp; done) | (go_simp; with_reducible rfl) | (go_simp; go_bits; with_reducible rfl) | (go_simp; go_bits; done))); try simp only [Act.put, List.setIfInBounds_toArray, List.set_cons_zero, List.set_cons_succ]) | (apply linN_freeSkip; (simp only [List.getElem?_toArray, List.getElem?_cons_succ, List.getElem?_cons_zero]; rfl); (rfl); try simp only [Act.put, List.setIfInBounds_toArray, List.set_cons_zero, List.set_cons_succ])); (first | (apply linN_free; (simp only [List.getElem?_toArray, List.getElem?_cons_succ, List.getElem?_cons_zero]; rfl); (rfl); (intro w'; (first | (go_simp; done) | (go_simp; with_reducible rfl) | (go_simp; go_bits; with_reducible rfl) | (go_simp; go_bits; done))); try simp only [Act.put, List.setIfInBounds_toArray, List.set_cons_zero, List.set_cons_succ]) | (apply linN_freeSkip; (simp only [List.getElem?_toArray, List.getElem?_cons_succ, List.getElem?_cons_zero]; rfl); (rfl); try simp only [Act.put, List.setIfInBounds_toArray, List.set_cons_zero, List.set_cons_succ])); (first | (apply linN_free; (simp only [List.getElem?_toArray, List.getElem?_cons_succ, List.getElem?_cons_zero]; rfl); (rfl); (intro w'; (first | (go_simp; done) | (go_simp; with_reducible rfl) | (go_simp; go_bits; with_reducible rfl) | (go_simp; go_bits; done))); try simp only [Act.put, List.setIfInBounds_toArray, List.set_cons_zero, List.set_cons_succ]) | (apply linN_freeSkip; (simp only [List.getElem?_toArray, List.getElem?_cons_succ, List.getElem?_cons_zero]; rfl); (rfl); try simp only [Act.put, List.setIfInBounds_toArray, List.set_cons_zero, List.set_cons_succ])); (first | (apply linN_free; (simp only [List.getElem?_toArray, List.getElem?_cons_succ, List.getElem?_cons_zero]; rfl); (rfl); (intro w'; (first | (go_simp; done) | (go_simp; with_reducible rfl) | (go_simp; go_bits; with_reducible rfl) | (go_simp; go_bits; done))); try simp only [Act.put, List.setIfInBounds_toArray, List.set_cons_zero, List.set_cons_succ]) | (apply linN_freeSkip; (simp only [List.getElem?_toArray, List.getElem?_cons_succ, List.getElem?_cons_zero]; rfl); (rfl); try simp only [Act.put, List.setIfInBounds_toArray, List.set_cons_zero, List.set_cons_succ])); (first | (apply linN_free; (simp only [List.getElem?_toArray, List.getElem?_cons_succ, List.getElem?_cons_zero]; rfl); (rfl); (intro w'; (first | (go_simp; done) | (go_simp; with_reducible rfl) | (go_simp; go_bits; with_reducible rfl) | (go_simp; go_bits; done))); try simp only [Act.put, List.setIfInBounds_toArray, List.set_cons_zero, List.set_cons_succ]) | (apply linN_freeSkip; (simp only [List.getElem?_toArray, List.getElem?_cons_succ, List.getElem?_cons_zero]; rfl); (rfl); try simp only [Act.put, List.setIfInBounds_toArray, List.set_cons_zero, List.set_cons_succ])); (first | (apply linN_free; (simp only [List.getElem?_toArray, List.getElem?_cons_succ, List.getElem?_cons_zero]; rfl); (rfl); (intro w'; (first | (go_simp; done) | (go_simp; with_reducible rfl) | (go_simp; go_bits; with_reducible rfl) | (go_simp; go_bits; done))); try simp only [Act.put, List.setIfInBounds_toArray, List.set_cons_zero, List.set_cons_succ]) | (apply linN_freeSkip; (simp only [List.getElem?_toArray, List.getElem?_cons_succ, List.getElem?_cons_zero]; rfl); (rfl); try simp only [Act.put, List.setIfInBounds_toArray, List.set_cons_zero, List.set_cons_succ])); (first | (apply linN_free; (simp only [List.getElem?_toArray, List.getElem?_cons_succ, List.getElem?_cons_zero]; rfl); (rfl); (intro w'; (first | (go_simp; done) | (go_simp; with_reducible rfl) | (go_simp; go_bits; with_reducible rfl) | (go_simp; go_bits; done))); try simp only [Act.put, List.setIfInBounds_toArray, List.set_cons_zero, List.set_cons_succ]) | (apply linN_freeSkip; (simp only [List.getElem?_toArray, List.getElem?_cons_succ, List.getElem?_cons_zero]; rfl); (rfl); try simp only [Act.put, List.setIfInBounds_toArray, List.set_cons_zero, List.set_cons_succ])); (first | (apply linN_free; (simp only [List.getElem?_toArray, List.getElem?_cons_succ, List.getElem?_cons_zero]; rfl); (rfl); (intro w'; (first | (go_simp; done) | (go_simp; with_reducible rfl) | (go_simp; go_bits; with_reducible rfl) | (go_simp; go_bits; done))); try simp only [Act.put, List.setIfInBounds_toArray, List.set_cons_zero, List.set_cons_succ]) | (apply linN_freeSkip; (simp only [List.getElem?_toArray, List.getElem?_cons_succ, List.getElem?_cons_zero]; rfl); (rfl); try simp only [Act.put, List.setIfInBounds_toArray, List.set_cons_zero, List.set_cons_succ])); (first | (apply linN_free; (simp only [List.getElem?_toArray, List.getElem?_cons_succ, List.getElem?_cons_zero]; rfl); (rfl); (intro w'; (first | (go_simp; done) | (go_simp; with_reducible rfl) | (go_simp; go_bits; with_reducible rfl) | (go_simp; go_bits; done))); try simp only [Act.put, List.setIfInBounds_toArray, List.set_cons_zero, List.set_cons_succ]) | (apply linN_freeSkip; (simp only [List.getElem?_toArray, List.getElem?_cons_succ, List.getElem?_cons_zero]; rfl); (rfl); try simp only [Act.put, List.setIfInBounds_toArray, List.set_cons_zero, List.set_cons_succ])); (first | (apply linN_free; (simp only [List.getElem?_toArray, List.getElem?_cons_succ, List.getElem?_cons_zero]; rfl); (rfl); (intro w'; (first | (go_simp; done) | (go_simp; with_reducible rfl) | (go_simp; go_bits; with_reducible rfl) | (go_simp; go_bits; done))); try simp only [Act.put, List.setIfInBounds_toArray, List.set_cons_zero, List.set_cons_succ]) | (apply linN_freeSkip; (simp only [List.getElem?_toArray, List.getElem?_cons_succ, List.getElem?_cons_zero]; rfl); (rfl); try simp only [Act.put, List.setIfInBounds_toArray, List.set_cons_zero, List.set_cons_succ])); refine linN_end ?_)
    go_wp2_with (go_at_call 84; refine (c_roomN n (by omega) (by omega) _).mono ?_; rintro e w' ⟨rfl, rfl⟩)
    have r4' : RdB w2.drew A4 (n - 20) (openP key b) := r4
    by_cases hoff : 60000 < n - 22 ∨ unpadL (openP key b) (n - 22) = none
    · have hno := openL_off (key := key) (b := b) (by rw [HBL.out]; exact hoff)
      have HNO := Lib.hid (openRes_no (B := w.heap.size) (w' := w2.drew) hno)
      refine (c_leUnpadNo A4 (n - 20) c3 (openP key b) (n - 22) _ r4' (by omega) (by omega) (by omega) hoff).mono ?_
      rintro e w' ⟨rfl, rfl⟩
      clear r4 r4' r5 e4 e5 hi1 hi2 k8 hno hoff
      go_wp2
      refine bodyPost_ret (v := .tuple #[.slice none 0 0, .int .u32 0, .int .u64 0, .bool false]) (by simp [results, Try.results60]) rfl ⟨HNO.out, below_drew hB2⟩
    · have hm : n - 22 ≤ 60000 := by omega
      obtain ⟨p, hp⟩ : ∃ p, unpadL (openP key b) (n - 22) = some p := by
        cases hq : unpadL (openP key b) (n - 22) with
        | none => exact absurd (.inr hq) hoff
        | some p => exact ⟨p, rfl⟩
      refine (c_leUnpad A4 (n - 20) c3 (openP key b) p (n - 22) _ r4' (by omega) hm hp).mono ?_
      rintro e w3 ⟨v3, rfl, ho3, hb3⟩
      have HUP := Lib.hid hp
      have q8 := (show Row w2.drew _ _ _ from k8).below hb3 k8.lt
      have r4 := r4'.below hb3 (Nat.le_refl _)
      have r5 := (show RdB w2.drew _ _ _ from r5).below hb3 (Nat.le_refl _)
      have hB3 := below_two (below_drew hB2) hb3
      have hz3 : w2.heap.size ≤ w3.heap.size := hb3.size
      have hbz2 : w.heap.size ≤ w2.heap.size := hB2.size
      have hpl : (openP key b).length ≤ 1000000 := by rw [HPL.out]; omega
      clear r4' hb3 e4 e5 hi1 hi2 hB2 k8 hoff hp
      have ho3' := OwnB.mono ho3 (B' := w.heap.size) hbz2
      generalize openP key b = P at *
      rw [← HPL.out] at r4 ⊢
      go_wp2_with fail
      have hb4 := below_alloc (Below.refl w3.heap.size w3) (.cells #[.slice (some ⟨g8, 0, none⟩) 12 12, .slice A4 P.length c3] 24)
      have rp := Row.new w3 #[.slice (some ⟨g8, 0, none⟩) 12 12, .slice A4 P.length c3] 24
      have ho4 := ho3'.below hb4
      have t4 := r4.below hb4 (Nat.le_refl _)
      have t5 := r5.below hb4 (Nat.le_refl _)
      have t8 := q8.below hb4 q8.lt
      have hB4 := below_two hB3 hb4
      generalize w3.alloc (.cells #[.slice (some ⟨g8, 0, none⟩) 12 12, .slice A4 P.length c3] 24) = w4 at *
      generalize w3.heap.size = g3 at *
      have hpa : PartsAt w4 ⟨g3, 0, none⟩ [H, P] := parts2 (c := 12) (d := c3) (by rw [HH.out]; exact rp) (by rw [HH.out]; exact row_all t8 HH.out) t4 (by rw [HH.out]; decide) hpl
      have HSC := c_leSum ⟨g3, 0, none⟩ 2 [H, P] w4 hpa (by show 2 ≤ 1000; omega)
      have hfl : [H, P].flatten = H ++ P := by simp
      rw [hfl] at HSC
      have HSS : IsSum (H ++ P) (sumN (H ++ P)) := ⟨rfl⟩
      have hsl := sumN_lt (H ++ P)
      generalize sumN (H ++ P) = sm at *
      refine HSC.mono ?_
      rintro e w' ⟨rfl, rfl⟩
      have hmet : (openS key b == leP sm 8) = metB key b := by unfold metB; rw [HD.hd, HD.p, HSS.out]
      clear HSC hpa rp hfl ho3 ho3' r4 r5 q8 hb4 t4 hpl
      go_wp2_with fail
      refine (c_lePut8 sm _).mono ?_
      rintro e w5 ⟨A6, c6, rfl, lc6, -, hr6, hb5⟩
      have ho5 := ho4.below hb5
      have u5 := t5.below hb5 (Nat.le_refl _)
      have u8 := t8.below hb5 t8.lt
      have hB5 := below_two hB4 hb5
      clear ho4 t5 t8 hb5 hB4
      cases hmb : metB key b with
      | false =>
        rw [hmb] at hmet
        have HQ := Lib.hid (c_bytesEq w5 A5 A6 8 8 (c3 - P.length) c6 (openS key b) (leP sm 8) u5 hr6 false hmet)
        have HNO := Lib.hid (openRes_no (B := w.heap.size) (w' := w5) (openL_unmet hmb))
        clear hmet hmb hr6 u5 ho5
        go_wp2_with (go_at_call 72; (with_reducible refine HQ.out.mono ?_); rintro e w' ⟨rfl, rfl⟩)
        refine bodyPost_ret (v := .tuple #[.slice none 0 0, .int .u32 0, .int .u64 0, .bool false]) (by simp [results, Try.results60]) rfl ⟨HNO.out, hB5⟩
      | true =>
        rw [hmb] at hmet
        have HQ := Lib.hid (c_bytesEq w5 A5 A6 8 8 (c3 - P.length) c6 (openS key b) (leP sm 8) u5 hr6 true hmet)
        have hyes := openL_met (key := key) (b := b) (p := p) (by rw [HBL.out]; omega) (by rw [HBL.out]; omega) hmb (by rw [HD.p, HBL.out]; exact HUP.out)
        have HY := Lib.hid hyes
        have hbo : leN ((H.take 4).take 8) = bootN b := by
          unfold bootN
          rw [List.take_of_length_le (l := H.take 4) (by rw [List.length_take]; omega), ← HD.hd, List.take_take]
          rfl
        have hsq : leN ((H.drop 4).take 8) = seqN b := by
          unfold seqN
          rw [List.take_of_length_le (l := H.drop 4) (by rw [List.length_drop, HH.out]; decide), ← HD.hd]
        have hbl4 : bootN b < 4294967296 := by
          unfold bootN
          have h := leN_lt (b.take 4)
          have h2 : 256 ^ (b.take 4).length ≤ 256 ^ 4 := Nat.pow_le_pow_right (by decide) (List.length_take_le _ _)
          have h3 : (256 : Nat) ^ 4 = 4294967296 := rfl
          omega
        have hw32 : IntKind.u32.wrap ((bootN b : Nat) : Int) = ((bootN b : Nat) : Int) := by simp [IntKind.wrap, IntKind.bits, IntKind.signed]; omega
        have x1 : RdB w5.drew (some ⟨g8, 0, none⟩) 4 (H.take 4) := by have := row_part u8 0 4 (by rw [HH.out]; decide); rwa [List.drop_zero] at this
        have x2 : RdB w5.drew (some ⟨g8, 4, none⟩) 8 (H.drop 4) := row_from u8 4 (by rw [HH.out])
        have G1 := c_leGet _ 4 12 _ w5.drew x1 (by decide)
        have G2 := c_leGet _ 8 8 _ w5.drew x2 (by decide)
        rw [hbo] at G1
        rw [hsq] at G2
        have HG1 := Lib.hid G1
        have HG2 := Lib.hid G2
        have hres := openRes_yes (B := w.heap.size) (w' := w5.drew) hyes ho5
        have HRES := Lib.hid hres
        clear G1 G2 hbo hsq x1 x2 hbl4 hmet hmb hr6 u5 hyes ho5 u8 hres
        generalize hbb : bootN b = bo at *
        generalize hss : seqN b = sq at *
        clear hbb hss
        have hsl4 := slice_arr_from (P := Try.prog) (t := 43) Try.underlying43 (by kernel_rfl) g8 4 4 rfl (by decide)
        go_upto_region 9 with (go_at_call 72; (with_reducible refine HQ.out.mono ?_); rintro e w' ⟨rfl, rfl⟩)
        (refine wp_region_linN (Below w5.heap.size) (Below w5.heap.size) (wayB _) (wayB _) (fun _ _ h => h) (.free 0 (.free 1 (.free 4 (.op 2 [] [] [] (.hot 3 (.op 5 [] [3] [] (.free 6 (.free 7 (.free 8 (.free 9 .nil)))))))))) rfl (by kernel_rfl) (by kernel_rfl) (fun _ _ _ _ _ h => h) ?_; (first | (apply linN_free; (simp only [List.getElem?_toArray, List.getElem?_cons_succ, List.getElem?_cons_zero]; rfl); (rfl); (intro w'; (first | (go_simp; done) | (go_simp; with_reducible rfl) | (go_simp; go_bits; with_reducible rfl) | (go_simp; go_bits; done))); try simp only [Act.put, List.setIfInBounds_toArray, List.set_cons_zero, List.set_cons_succ]) | (apply linN_freeSkip; (simp only [List.getElem?_toArray, List.getElem?_cons_succ, List.getElem?_cons_zero]; rfl); (rfl); try simp only [Act.put, List.setIfInBounds_toArray, List.set_cons_zero, List.set_cons_succ])); (first | (apply linN_free; (simp only [List.getElem?_toArray, List.getElem?_cons_succ, List.getElem?_cons_zero]; rfl); (rfl); (intro w'; (first | (go_simp; done) | (go_simp; with_reducible rfl) | (go_simp; go_bits; with_reducible rfl) | (go_simp; go_bits; done))); try simp only [Act.put, List.setIfInBounds_toArray, List.set_cons_zero, List.set_cons_succ]) | (apply linN_freeSkip; (simp only [List.getElem?_toArray, List.getElem?_cons_succ, List.getElem?_cons_zero]; rfl); (rfl); try simp only [Act.put, List.setIfInBounds_toArray, List.set_cons_zero, List.set_cons_succ])); (first | (apply linN_free; (simp only [List.getElem?_toArray, List.getElem?_cons_succ, List.getElem?_cons_zero]; rfl); (rfl); (intro w'; (first | (go_simp; done) | (go_simp; with_reducible rfl) | (go_simp; go_bits; with_reducible rfl) | (go_simp; go_bits; done))); try simp only [Act.put, List.setIfInBounds_toArray, List.set_cons_zero, List.set_cons_succ]) | (apply linN_freeSkip; (simp only [List.getElem?_toArray, List.getElem?_cons_succ, List.getElem?_cons_zero]; rfl); (rfl); try simp only [Act.put, List.setIfInBounds_toArray, List.set_cons_zero, List.set_cons_succ])); (first | (apply linN_pass (wayB _) (wayB _); (simp only [List.getElem?_toArray, List.getElem?_cons_succ, List.getElem?_cons_zero]; rfl); (rfl); try simp only [Act.put, List.setIfInBounds_toArray, List.set_cons_zero, List.set_cons_succ]) | (apply linN_op; (simp only [List.getElem?_toArray, List.getElem?_cons_succ, List.getElem?_cons_zero]; rfl); (rfl); intro K hK; (first | (go_simp; (first | (go_at_call 71; (with_reducible refine HG1.out.mono ?_); rintro e w' ⟨rfl, rfl⟩) | (go_at_call 71; (with_reducible refine HG2.out.mono ?_); rintro e w' ⟨rfl, rfl⟩) | skip))); refine hK _ _ ?_ ?_; (exact trivial); clear hK; try simp only [Act.put, List.setIfInBounds_toArray, List.set_cons_zero, List.set_cons_succ])); (first | (apply linN_hot; (simp only [List.getElem?_toArray, List.getElem?_cons_succ, List.getElem?_cons_zero]; rfl); (rfl); (intro w' hb'; (first | (go_simp; done) | (go_simp; with_reducible rfl) | (go_simp; go_bits; with_reducible rfl) | (go_simp; go_bits; done))); try simp only [Act.put, List.setIfInBounds_toArray, List.set_cons_zero, List.set_cons_succ]) | (apply linN_hotSkip; (simp only [List.getElem?_toArray, List.getElem?_cons_succ, List.getElem?_cons_zero]; rfl); (rfl); try simp only [Act.put, List.setIfInBounds_toArray, List.set_cons_zero, List.set_cons_succ])); (first | (apply linN_pass (wayB _) (wayB _); (simp only [List.getElem?_toArray, List.getElem?_cons_succ, List.getElem?_cons_zero]; rfl); (rfl); try simp only [Act.put, List.setIfInBounds_toArray, List.set_cons_zero, List.set_cons_succ]) | (apply linN_op; (simp only [List.getElem?_toArray, List.getElem?_cons_succ, List.getElem?_cons_zero]; rfl); (rfl); intro K hK; (first | (go_simp; (first | (go_at_call 71; (with_reducible refine HG1.out.mono ?_); rintro e w' ⟨rfl, rfl⟩) | (go_at_call 71; (with_reducible refine HG2.out.mono ?_); rintro e w' ⟨rfl, rfl⟩) | skip))); refine hK _ _ ?_ ?_; (show (Below w5.heap.size) _ _; (first | exact hdr2 | assumption | exact (wayB _).refl _ | exact (wayB _).refl _ | exact Below.refl _ _ | exact ⟨rfl, rfl, rfl, Nat.le_refl _, fun _ _ => rfl⟩ | exact but_set _ _ _ _ _ | exact but_drew (but_set _ _ _ _ _) | exact but_upd (by assumption) | exact but_below (by assumption) | exact belowB_alloc (by first | omega | (simp; done) | (simp; omega)) _ | exact belowB_mono (by first | omega | (simp; done) | (simp; omega)) (by assumption) | (first | exact rg_alloc (by simp; omega) (by simp; omega) _ | exact FR.of_below (below_alloc (Below.refl _ _) _) (by first | assumption | (simp; omega)) | exact DR.of_below (below_alloc (Below.refl _ _) _) (by first | assumption | (simp; omega))))); clear hK; try simp only [Act.put, List.setIfInBounds_toArray, List.set_cons_zero, List.set_cons_succ])); (first | (apply linN_free; (simp only [List.getElem?_toArray, List.getElem?_cons_succ, List.getElem?_cons_zero]; rfl); (rfl); (intro w'; (first | (go_simp; done) | (go_simp; with_reducible rfl) | (go_simp; go_bits; with_reducible rfl) | (go_simp; go_bits; done))); try simp only [Act.put, List.setIfInBounds_toArray, List.set_cons_zero, List.set_cons_succ]) | (apply linN_freeSkip; (simp only [List.getElem?_toArray, List.getElem?_cons_succ, List.getElem?_cons_zero]; rfl); (rfl); try simp only [Act.put, List.setIfInBounds_toArray, List.set_cons_zero, List.set_cons_succ])); (first | (apply linN_free; (simp only [List.getElem?_toArray, List.getElem?_cons_succ, List.getElem?_cons_zero]; rfl); (rfl); (intro w'; (first | (go_simp; done) | (go_simp; with_reducible rfl) | (go_simp; go_bits; with_reducible rfl) | (go_simp; go_bits; done))); try simp only [Act.put, List.setIfInBounds_toArray, List.set_cons_zero, List.set_cons_succ]) | (apply linN_freeSkip; (simp only [List.getElem?_toArray, List.getElem?_cons_succ, List.getElem?_cons_zero]; rfl); (rfl); try simp only [Act.put, List.setIfInBounds_toArray, List.set_cons_zero, List.set_cons_succ])); (first | (apply linN_free; (simp only [List.getElem?_toArray, List.getElem?_cons_succ, List.getElem?_cons_zero]; rfl); (rfl); (intro w'; (first | (go_simp; done) | (go_simp; with_reducible rfl) | (go_simp; go_bits; with_reducible rfl) | (go_simp; go_bits; done))); try simp only [Act.put, List.setIfInBounds_toArray, List.set_cons_zero, List.set_cons_succ]) | (apply linN_freeSkip; (simp only [List.getElem?_toArray, List.getElem?_cons_succ, List.getElem?_cons_zero]; rfl); (rfl); try simp only [Act.put, List.setIfInBounds_toArray, List.set_cons_zero, List.set_cons_succ])); (first | (apply linN_free; (simp only [List.getElem?_toArray, List.getElem?_cons_succ, List.getElem?_cons_zero]; rfl); (rfl); (intro w'; (first | (go_simp; done) | (go_simp; with_reducible rfl) | (go_simp; go_bits; with_reducible rfl) | (go_simp; go_bits; done))); try simp only [Act.put, List.setIfInBounds_toArray, List.set_cons_zero, List.set_cons_succ]) | (apply linN_freeSkip; (simp only [List.getElem?_toArray, List.getElem?_cons_succ, List.getElem?_cons_zero]; rfl); (rfl); try simp only [Act.put, List.setIfInBounds_toArray, List.set_cons_zero, List.set_cons_succ])); refine linN_end ?_)
        go_wp2
        refine bodyPost_ret (v := .tuple #[v3, .int .u32 (bo : Int), .int .u64 (sq : Int), .bool true]) (by simp [results, Try.results60]) rfl ⟨HRES.out, below_drew hB5⟩
end Go.Proofs.Ytmdmhjcdaejlkaa

/- The walk of the reference's Open. -/
set_option linter.unusedVariables false
set_option linter.unusedSimpArgs false
namespace Go.Proofs.Ytmdmhjcdaejlkaa
open Go.RowKit

set_option maxHeartbeats 2000000 in
set_option maxRecDepth 100000 in
theorem c_rOpen (key : List UInt8) (hk : key.length = 32) (A : Option Addr) (n c : Nat) (b : List UInt8) (w : World) (hR : RdB w A n b) (hc : n ≤ c) (hn : n ≤ 1000000) :
    Calls Try.prog 23 #[.agg (bv key).toArray, .slice A n c] w fun e w' => OpenRes key b w.heap.size e w' ∧ Below w.heap.size w w' := by
  have HK := Lib.hid hk
  clear hk
  have r0 := Row.new w (bv key).toArray 22
  have hB0 := below_alloc (Below.refl w.heap.size w) (.cells (bv key).toArray 22)
  have hR0 := hR.below hB0 (Nat.le_refl _)
  have hz0 : (w.alloc (.cells (bv key).toArray 22)).heap.size = w.heap.size + 1 := by simp
  have hbl := hR.len
  by_cases h22 : n < 22
  · have h22' : (n : Int) < 22 := by omega
    have hno := openL_short (key := key) (b := b) (by omega)
    have HNO := Lib.hid (openRes_no (B := w.heap.size) (w' := w.alloc (.cells (bv key).toArray 22)) hno)
    clear hno r0 hR0 hz0 hbl
    go_enter Try.func23, Try.ntmps23
    go_wp2
    refine bodyPost_ret (v := .tuple #[.slice none 0 0, .int .u32 0, .int .u64 0, .bool false]) (by simp [results, Try.results23]) rfl ⟨HNO.out, hB0⟩
  · have h22' : ¬ (n : Int) < 22 := by omega
    obtain ⟨ad, rfl, hcell⟩ := hR0.2 (by omega)
    obtain ⟨A1, e1, r1⟩ := cut_to hR hc 12 12 rfl (by omega)
    obtain ⟨A2, e2, r2⟩ := cut_from hR hc 12 12 rfl (by omega)
    have HBL := Lib.hid hbl
    clear hR hbl
    go_enter Try.func23, Try.ntmps23
    go_upto_region 4 with fail
    generalize w.alloc (.cells (bv key).toArray 22) = w0 at *
    have hh : (b.take 12).length = 12 := by rw [List.length_take, HBL.out]; omega
    have HH := Lib.hid hh
    have HD : IsOpen key b (b.take 12) (openP key b) (openS key b) := ⟨rfl, rfl, rfl⟩
    have hdp : (b.drop 12).length = n - 12 := by rw [List.length_drop, HBL.out]
    have HDP := Lib.hid hdp
    clear hh hdp
    generalize b.take 12 = H at *
    have r8a := Row.new w0 #[.int .u8 0, .int .u8 0, .int .u8 0, .int .u8 0, .int .u8 0, .int .u8 0, .int .u8 0, .int .u8 0, .int .u8 0, .int .u8 0, .int .u8 0, .int .u8 0] 43
    rw [hz0] at r8a
    have hba := below_alloc (Below.refl w0.heap.size w0) (.cells #[.int .u8 0, .int .u8 0, .int .u8 0, .int .u8 0, .int .u8 0, .int .u8 0, .int .u8 0, .int .u8 0, .int .u8 0, .int .u8 0, .int .u8 0, .int .u8 0] 43)
    have k0 := r0.below hba r0.lt
    have hB1 := below_two hB0 hba
    have hr1 := r1.below hB1 (Nat.le_refl _)
    have hz1 : w.heap.size + 1 < (w0.alloc (.cells #[.int .u8 0, .int .u8 0, .int .u8 0, .int .u8 0, .int .u8 0, .int .u8 0, .int .u8 0, .int .u8 0, .int .u8 0, .int .u8 0, .int .u8 0, .int .u8 0] 43)).heap.size := r8a.lt
    clear r0 r1 hB0 hR0 hba hcell hz0
    generalize w0.alloc (.cells #[.int .u8 0, .int .u8 0, .int .u8 0, .int .u8 0, .int .u8 0, .int .u8 0, .int .u8 0, .int .u8 0, .int .u8 0, .int .u8 0, .int .u8 0, .int .u8 0] 43) = w1 at *
    have r8 : Row w1 (w.heap.size + 1) (bv (List.replicate 12 0)).toArray 43 := r8a
    clear r8a
    have hgs : w.heap.size < w.heap.size + 1 := by omega
    generalize w.heap.size + 1 = g8 at *
    have r8d : Row w1.drew g8 _ _ := r8
    have hr1d : RdB w1.drew A1 12 H := hr1
    (refine wp_region_linN (Below w1.heap.size) (Below w1.heap.size) (wayB _) (wayB _) (fun _ _ h => h) (.free 0 (.free 1 (.free 2 (.op 3 [] [] [] .nil)))) rfl (by kernel_rfl) (by kernel_rfl) (fun _ _ _ _ _ h => h) ?_; (first | (apply linN_free; (simp only [List.getElem?_toArray, List.getElem?_cons_succ, List.getElem?_cons_zero]; rfl); (rfl); (intro w'; (first | (go_simp; done) | (go_simp; with_reducible rfl) | (go_simp; go_bits; with_reducible rfl) | (go_simp; go_bits; done))); try simp only [Act.put, List.setIfInBounds_toArray, List.set_cons_zero, List.set_cons_succ]) | (apply linN_freeSkip; (simp only [List.getElem?_toArray, List.getElem?_cons_succ, List.getElem?_cons_zero]; rfl); (rfl); try simp only [Act.put, List.setIfInBounds_toArray, List.set_cons_zero, List.set_cons_succ])); (first | (apply linN_free; (simp only [List.getElem?_toArray, List.getElem?_cons_succ, List.getElem?_cons_zero]; rfl); (rfl); (intro w'; (first | (go_simp; done) | (go_simp; with_reducible rfl) | (go_simp; go_bits; with_reducible rfl) | (go_simp; go_bits; done))); try simp only [Act.put, List.setIfInBounds_toArray, List.set_cons_zero, List.set_cons_succ]) | (apply linN_freeSkip; (simp only [List.getElem?_toArray, List.getElem?_cons_succ, List.getElem?_cons_zero]; rfl); (rfl); try simp only [Act.put, List.setIfInBounds_toArray, List.set_cons_zero, List.set_cons_succ])); (first | (apply linN_free; (simp only [List.getElem?_toArray, List.getElem?_cons_succ, List.getElem?_cons_zero]; rfl); (rfl); (intro w'; (first | (go_simp; done) | (go_simp; with_reducible rfl) | (go_simp; go_bits; with_reducible rfl) | (go_simp; go_bits; done))); try simp only [Act.put, List.setIfInBounds_toArray, List.set_cons_zero, List.set_cons_succ]) | (apply linN_freeSkip; (simp only [List.getElem?_toArray, List.getElem?_cons_succ, List.getElem?_cons_zero]; rfl); (rfl); try simp only [Act.put, List.setIfInBounds_toArray, List.set_cons_zero, List.set_cons_succ])); (first | (apply linN_pass (wayB _) (wayB _); (simp only [List.getElem?_toArray, List.getElem?_cons_succ, List.getElem?_cons_zero]; rfl); (rfl); try simp only [Act.put, List.setIfInBounds_toArray, List.set_cons_zero, List.set_cons_succ]) | (apply linN_op; (simp only [List.getElem?_toArray, List.getElem?_cons_succ, List.getElem?_cons_zero]; rfl); (rfl); intro K hK; (first | (refine wp_copyP (g := g8) (off := 0) (n := 12) (m := 12) (T := 43) (cur := (bv (List.replicate 12 0)).toArray) (ys := H) rfl (by first | rfl | (go_simp; rfl)) (by first | rfl | (go_simp; rfl)) r8d hr1d (by decide) ?_; intro W2 y2 hu2) | (go_simp; (first | skip))); refine hK _ _ ?_ ?_; (exact trivial); clear hK; try simp only [Act.put, List.setIfInBounds_toArray, List.set_cons_zero, List.set_cons_succ])); refine linN_end ?_)
    have k8 : Row W2 g8 _ _ := hu2.row
    rw [copy_row] at k8
    have e6 : (List.replicate 12 (0 : UInt8)).take 0 ++ (H.take (min 12 12) ++ (List.replicate 12 0).drop (0 + min 12 12)) = H := by
      rw [List.take_zero, List.nil_append, List.take_of_length_le (by rw [HH.out]; decide)]
      simp
    rw [e6] at k8
    have q0 := (show Row w1.drew _ _ _ from k0).upd hu2 (by omega)
    have hB2 := (below_drew hB1).trans (hu2.below (by omega))
    have hr2 := r2.below hB2 (Nat.le_refl _)
    clear hu2 k0 hB1 r8d hr1d hr1 r8 e6 r2 e1
    go_upto_region 5 with fail
    have hxl : (xorL key H (b.drop 12)).length = n - 12 := by rw [xorL_length, HDP.out]
    have HXL := Lib.hid hxl
    have HXC := c_rXor key H HK.out HH.out A2 (c - 12) (b.drop 12) W2.drew (by rw [HDP.out]; exact hr2) (by rw [HDP.out]; omega)
    rw [HDP.out] at HXC
    have HX2 := Lib.hid HXC
    have hop : (xorL key H (b.drop 12)).take (n - 20) = openP key b := by unfold openP; rw [HD.hd, HBL.out]
    have hos : (xorL key H (b.drop 12)).drop (n - 20) = openS key b := by unfold openS; rw [HD.hd, HBL.out]
    have HOP := Lib.hid hop
    have HOS := Lib.hid hos
    clear hxl HXC hop hos
    generalize xorL key H (b.drop 12) = X at *
    have k0 := q0
    have r8 := k8
    have hz8 := k8.lt
    generalize W2 = w1 at *
    (refine wp_region_linN (Below w1.heap.size) (Below w1.heap.size) (wayB _) (wayB _) (fun _ _ h => h) (.hot 0 (.hot 1 (.free 2 (.free 3 (.op 4 [(0, 4), (1, 4)] [] [] (.free 5 (.free 6 (.free 7 (.free 8 (.free 9 .nil)))))))))) rfl (by kernel_rfl) (by kernel_rfl) (fun _ _ _ _ _ h => h) ?_; (first | (apply linN_hotLoad (ty := 22) (vs := bv key); (simp only [List.getElem?_toArray, List.getElem?_cons_succ, List.getElem?_cons_zero]; rfl); (rfl); (rfl); (rfl); (intro _; kernel_rfl); (rw [bv_length, HK.out]; kernel_rfl); (intro w' hR; exact row_cells ((show Row w1.drew _ _ _ from k0).below hR k0.lt)); try simp only [Act.put, List.setIfInBounds_toArray, List.set_cons_zero, List.set_cons_succ]) | (apply linN_hotLoad (ty := 43) (vs := bv H); (simp only [List.getElem?_toArray, List.getElem?_cons_succ, List.getElem?_cons_zero]; rfl); (rfl); (rfl); (rfl); (intro _; kernel_rfl); (rw [bv_length, HH.out]; kernel_rfl); (intro w' hR; exact row_cells ((show Row w1.drew _ _ _ from r8).below hR r8.lt)); try simp only [Act.put, List.setIfInBounds_toArray, List.set_cons_zero, List.set_cons_succ]) | (apply linN_hot; (simp only [List.getElem?_toArray, List.getElem?_cons_succ, List.getElem?_cons_zero]; rfl); (rfl); (intro w' hb'; (first | (go_simp; done) | (go_simp; with_reducible rfl) | (go_simp; go_bits; with_reducible rfl) | (go_simp; go_bits; done))); try simp only [Act.put, List.setIfInBounds_toArray, List.set_cons_zero, List.set_cons_succ]) | (apply linN_hotSkip; (simp only [List.getElem?_toArray, List.getElem?_cons_succ, List.getElem?_cons_zero]; rfl); (rfl); try simp only [Act.put, List.setIfInBounds_toArray, List.set_cons_zero, List.set_cons_succ])); (first | (apply linN_hotLoad (ty := 22) (vs := bv key); (simp only [List.getElem?_toArray, List.getElem?_cons_succ, List.getElem?_cons_zero]; rfl); (rfl); (rfl); (rfl); (intro _; kernel_rfl); (rw [bv_length, HK.out]; kernel_rfl); (intro w' hR; exact row_cells ((show Row w1.drew _ _ _ from k0).below hR k0.lt)); try simp only [Act.put, List.setIfInBounds_toArray, List.set_cons_zero, List.set_cons_succ]) | (apply linN_hotLoad (ty := 43) (vs := bv H); (simp only [List.getElem?_toArray, List.getElem?_cons_succ, List.getElem?_cons_zero]; rfl); (rfl); (rfl); (rfl); (intro _; kernel_rfl); (rw [bv_length, HH.out]; kernel_rfl); (intro w' hR; exact row_cells ((show Row w1.drew _ _ _ from r8).below hR r8.lt)); try simp only [Act.put, List.setIfInBounds_toArray, List.set_cons_zero, List.set_cons_succ]) | (apply linN_hot; (simp only [List.getElem?_toArray, List.getElem?_cons_succ, List.getElem?_cons_zero]; rfl); (rfl); (intro w' hb'; (first | (go_simp; done) | (go_simp; with_reducible rfl) | (go_simp; go_bits; with_reducible rfl) | (go_simp; go_bits; done))); try simp only [Act.put, List.setIfInBounds_toArray, List.set_cons_zero, List.set_cons_succ]) | (apply linN_hotSkip; (simp only [List.getElem?_toArray, List.getElem?_cons_succ, List.getElem?_cons_zero]; rfl); (rfl); try simp only [Act.put, List.setIfInBounds_toArray, List.set_cons_zero, List.set_cons_succ])); (first | (apply linN_hotLoad (ty := 22) (vs := bv key); (simp only [List.getElem?_toArray, List.getElem?_cons_succ, List.getElem?_cons_zero]; rfl); (rfl); (rfl); (rfl); (intro _; kernel_rfl); (rw [bv_length, HK.out]; kernel_rfl); (intro w' hR; exact row_cells ((show Row w1.drew _ _ _ from k0).below hR k0.lt)); try simp only [Act.put, List.setIfInBounds_toArray, List.set_cons_zero, List.set_cons_succ]) | (apply linN_hotLoad (ty := 43) (vs := bv H); (simp only [List.getElem?_toArray, List.getElem?_cons_succ, List.getElem?_cons_zero]; rfl); (rfl); (rfl); (rfl); (intro _; kernel_rfl); (rw [bv_length, HH.out]; kernel_rfl); (intro w' hR; exact row_cells ((show Row w1.drew _ _ _ from r8).below hR r8.lt)); try simp only [Act.put, List.setIfInBounds_toArray, List.set_cons_zero, List.set_cons_succ]) | (apply linN_free; (simp only [List.getElem?_toArray, List.getElem?_cons_succ, List.getElem?_cons_zero]; rfl); (rfl); (intro w'; (first | (go_simp; done) | (go_simp; with_reducible rfl) | (go_simp; go_bits; with_reducible rfl) | (go_simp; go_bits; done))); try simp only [Act.put, List.setIfInBounds_toArray, List.set_cons_zero, List.set_cons_succ]) | (apply linN_freeSkip; (simp only [List.getElem?_toArray, List.getElem?_cons_succ, List.getElem?_cons_zero]; rfl); (rfl); try simp only [Act.put, List.setIfInBounds_toArray, List.set_cons_zero, List.set_cons_succ])); (first | (apply linN_hotLoad (ty := 22) (vs := bv key); (simp only [List.getElem?_toArray, List.getElem?_cons_succ, List.getElem?_cons_zero]; rfl); (rfl); (rfl); (rfl); (intro _; kernel_rfl); (rw [bv_length, HK.out]; kernel_rfl); (intro w' hR; exact row_cells ((show Row w1.drew _ _ _ from k0).below hR k0.lt)); try simp only [Act.put, List.setIfInBounds_toArray, List.set_cons_zero, List.set_cons_succ]) | (apply linN_hotLoad (ty := 43) (vs := bv H); (simp only [List.getElem?_toArray, List.getElem?_cons_succ, List.getElem?_cons_zero]; rfl); (rfl); (rfl); (rfl); (intro _; kernel_rfl); (rw [bv_length, HH.out]; kernel_rfl); (intro w' hR; exact row_cells ((show Row w1.drew _ _ _ from r8).below hR r8.lt)); try simp only [Act.put, List.setIfInBounds_toArray, List.set_cons_zero, List.set_cons_succ]) | (apply linN_free; (simp only [List.getElem?_toArray, List.getElem?_cons_succ, List.getElem?_cons_zero]; rfl); (rfl); (intro w'; (first | (go_simp; done) | (go_simp; with_reducible rfl) | (go_simp; go_bits; with_reducible rfl) | (go_simp; go_bits; done))); try simp only [Act.put, List.setIfInBounds_toArray, List.set_cons_zero, List.set_cons_succ]) | (apply linN_freeSkip; (simp only [List.getElem?_toArray, List.getElem?_cons_succ, List.getElem?_cons_zero]; rfl); (rfl); try simp only [Act.put, List.setIfInBounds_toArray, List.set_cons_zero, List.set_cons_succ])); (first | (apply linN_pass (wayB _) (wayB _); (simp only [List.getElem?_toArray, List.getElem?_cons_succ, List.getElem?_cons_zero]; rfl); (rfl); try simp only [Act.put, List.setIfInBounds_toArray, List.set_cons_zero, List.set_cons_succ]) | (apply linN_op; (simp only [List.getElem?_toArray, List.getElem?_cons_succ, List.getElem?_cons_zero]; rfl); (rfl); intro K hK; (first | (go_simp; (first | (go_at_call 65; (with_reducible refine HX2.out.mono ?_); rintro e w2 ⟨v2, rfl, ho2, hb2⟩) | skip))); refine hK _ _ ?_ ?_; (exact trivial); clear hK; try simp only [Act.put, List.setIfInBounds_toArray, List.set_cons_zero, List.set_cons_succ])); (first | (apply linN_hotLoad (ty := 22) (vs := bv key); (simp only [List.getElem?_toArray, List.getElem?_cons_succ, List.getElem?_cons_zero]; rfl); (rfl); (rfl); (rfl); (intro _; kernel_rfl); (rw [bv_length, HK.out]; kernel_rfl); (intro w' hR; exact row_cells ((show Row w1.drew _ _ _ from k0).below hR k0.lt)); try simp only [Act.put, List.setIfInBounds_toArray, List.set_cons_zero, List.set_cons_succ]) | (apply linN_hotLoad (ty := 43) (vs := bv H); (simp only [List.getElem?_toArray, List.getElem?_cons_succ, List.getElem?_cons_zero]; rfl); (rfl); (rfl); (rfl); (intro _; kernel_rfl); (rw [bv_length, HH.out]; kernel_rfl); (intro w' hR; exact row_cells ((show Row w1.drew _ _ _ from r8).below hR r8.lt)); try simp only [Act.put, List.setIfInBounds_toArray, List.set_cons_zero, List.set_cons_succ]) | (apply linN_free; (simp only [List.getElem?_toArray, List.getElem?_cons_succ, List.getElem?_cons_zero]; rfl); (rfl); (intro w'; (first | (go_simp; done) | (go_simp; with_reducible rfl) | (go_simp; go_bits; with_reducible rfl) | (go_simp; go_bits; done))); try simp only [Act.put, List.setIfInBounds_toArray, List.set_cons_zero, List.set_cons_succ]) | (apply linN_freeSkip; (simp only [List.getElem?_toArray, List.getElem?_cons_succ, List.getElem?_cons_zero]; rfl); (rfl); try simp only [Act.put, List.setIfInBounds_toArray, List.set_cons_zero, List.set_cons_succ])); (first | (apply linN_hotLoad (ty := 22) (vs := bv key); (simp only [List.getElem?_toArray, List.getElem?_cons_succ, List.getElem?_cons_zero]; rfl); (rfl); (rfl); (rfl); (intro _; kernel_rfl); (rw [bv_length, HK.out]; kernel_rfl); (intro w' hR; exact row_cells ((show Row w1.drew _ _ _ from k0).below hR k0.lt)); try simp only [Act.put, List.setIfInBounds_toArray, List.set_cons_zero, List.set_cons_succ]) | (apply linN_hotLoad (ty := 43) (vs := bv H); (simp only [List.getElem?_toArray, List.getElem?_cons_succ, List.getElem?_cons_zero]; rfl); (rfl); (rfl); (rfl); (intro _; kernel_rfl); (rw [bv_length, HH.out]; kernel_rfl); (intro w' hR; exact row_cells ((show Row w1.drew _ _ _ from r8).below hR r8.lt)); try simp only [Act.put, List.setIfInBounds_toArray, List.set_cons_zero, List.set_cons_succ]) | (apply linN_free; (simp only [List.getElem?_toArray, List.getElem?_cons_succ, List.getElem?_cons_zero]; rfl); (rfl); (intro w'; (first | (go_simp; done) | (go_simp; with_reducible rfl) | (go_simp; go_bits; with_reducible rfl) | (go_simp; go_bits; done))); try simp only [Act.put, List.setIfInBounds_toArray, List.set_cons_zero, List.set_cons_succ]) | (apply linN_freeSkip; (simp only [List.getElem?_toArray, List.getElem?_cons_succ, List.getElem?_cons_zero]; rfl); (rfl); try simp only [Act.put, List.setIfInBounds_toArray, List.set_cons_zero, List.set_cons_succ])); (first | (apply linN_hotLoad (ty := 22) (vs := bv key); (simp only [List.getElem?_toArray, List.getElem?_cons_succ, List.getElem?_cons_zero]; rfl); (rfl); (rfl); (rfl); (intro _; kernel_rfl); (rw [bv_length, HK.out]; kernel_rfl); (intro w' hR; exact row_cells ((show Row w1.drew _ _ _ from k0).below hR k0.lt)); try simp only [Act.put, List.setIfInBounds_toArray, List.set_cons_zero, List.set_cons_succ]) | (apply linN_hotLoad (ty := 43) (vs := bv H); (simp only [List.getElem?_toArray, List.getElem?_cons_succ, List.getElem?_cons_zero]; rfl); (rfl); (rfl); (rfl); (intro _; kernel_rfl); (rw [bv_length, HH.out]; kernel_rfl); (intro w' hR; exact row_cells ((show Row w1.drew _ _ _ from r8).below hR r8.lt)); try simp only [Act.put, List.setIfInBounds_toArray, List.set_cons_zero, List.set_cons_succ]) | (apply linN_free; (simp only [List.getElem?_toArray, List.getElem?_cons_succ, List.getElem?_cons_zero]; rfl); (rfl); (intro w'; (first | (go_simp; done) | (go_simp; with_reducible rfl) | (go_simp; go_bits; with_reducible rfl) | (go_simp; go_bits; done))); try simp only [Act.put, List.setIfInBounds_toArray, List.set_cons_zero, List.set_cons_succ]) | (apply linN_freeSkip; (simp only [List.getElem?_toArray, List.getElem?_cons_succ, List.getElem?_cons_zero]; rfl); (rfl); try simp only [Act.put, List.setIfInBounds_toArray, List.set_cons_zero, List.set_cons_succ])); (first | (apply linN_hotLoad (ty := 22) (vs := bv key); (simp only [List.getElem?_toArray, List.getElem?_cons_succ, List.getElem?_cons_zero]; rfl); (rfl); (rfl); (rfl); (intro _; kernel_rfl); (rw [bv_length, HK.out]; kernel_rfl); (intro w' hR; exact row_cells ((show Row w1.drew _ _ _ from k0).below hR k0.lt)); try simp only [Act.put, List.setIfInBounds_toArray, List.set_cons_zero, List.set_cons_succ]) | (apply linN_hotLoad (ty := 43) (vs := bv H); (simp only [List.getElem?_toArray, List.getElem?_cons_succ, List.getElem?_cons_zero]; rfl); (rfl); (rfl); (rfl); (intro _; kernel_rfl); (rw [bv_length, HH.out]; kernel_rfl); (intro w' hR; exact row_cells ((show Row w1.drew _ _ _ from r8).below hR r8.lt)); try simp only [Act.put, List.setIfInBounds_toArray, List.set_cons_zero, List.set_cons_succ]) | (apply linN_free; (simp only [List.getElem?_toArray, List.getElem?_cons_succ, List.getElem?_cons_zero]; rfl); (rfl); (intro w'; (first | (go_simp; done) | (go_simp; with_reducible rfl) | (go_simp; go_bits; with_reducible rfl) | (go_simp; go_bits; done))); try simp only [Act.put, List.setIfInBounds_toArray, List.set_cons_zero, List.set_cons_succ]) | (apply linN_freeSkip; (simp only [List.getElem?_toArray, List.getElem?_cons_succ, List.getElem?_cons_zero]; rfl); (rfl); try simp only [Act.put, List.setIfInBounds_toArray, List.set_cons_zero, List.set_cons_succ])); (first | (apply linN_hotLoad (ty := 22) (vs := bv key); (simp only [List.getElem?_toArray, List.getElem?_cons_succ, List.getElem?_cons_zero]; rfl); (rfl); (rfl); (rfl); (intro _; kernel_rfl); (rw [bv_length, HK.out]; kernel_rfl); (intro w' hR; exact row_cells ((show Row w1.drew _ _ _ from k0).below hR k0.lt)); try simp only [Act.put, List.setIfInBounds_toArray, List.set_cons_zero, List.set_cons_succ]) | (apply linN_hotLoad (ty := 43) (vs := bv H); (simp only [List.getElem?_toArray, List.getElem?_cons_succ, List.getElem?_cons_zero]; rfl); (rfl); (rfl); (rfl); (intro _; kernel_rfl); (rw [bv_length, HH.out]; kernel_rfl); (intro w' hR; exact row_cells ((show Row w1.drew _ _ _ from r8).below hR r8.lt)); try simp only [Act.put, List.setIfInBounds_toArray, List.set_cons_zero, List.set_cons_succ]) | (apply linN_free; (simp only [List.getElem?_toArray, List.getElem?_cons_succ, List.getElem?_cons_zero]; rfl); (rfl); (intro w'; (first | (go_simp; done) | (go_simp; with_reducible rfl) | (go_simp; go_bits; with_reducible rfl) | (go_simp; go_bits; done))); try simp only [Act.put, List.setIfInBounds_toArray, List.set_cons_zero, List.set_cons_succ]) | (apply linN_freeSkip; (simp only [List.getElem?_toArray, List.getElem?_cons_succ, List.getElem?_cons_zero]; rfl); (rfl); try simp only [Act.put, List.setIfInBounds_toArray, List.set_cons_zero, List.set_cons_succ])); refine linN_end ?_)
    obtain ⟨A3, c3, rfl, lc3, -, hr3⟩ := ho2.form
    rw [HXL.out] at hr3 lc3 ⊢
    have hB2' := below_two (below_drew hB2) hb2
    have k8' := (show Row w1.drew _ _ _ from k8).below hb2 hz8
    have hsz2 := hb2.size
    clear k0 r8 hr2 hB2 ho2 hb2 HX2 e2 q0 k8
    have hi1 : IntKind.i64.wrap (((n - 12 : Nat) : Int) - 8) = ((n - 12 : Nat) : Int) - 8 := IntWalk.i64_in _ (by omega)
    have hi2 : 0 ≤ ((n - 12 : Nat) : Int) - 8 := by omega
    obtain ⟨A4, e4, r4⟩ := cut_to hr3 lc3 (((n - 12 : Nat) : Int) - 8) (n - 20) (by omega) (by omega)
    obtain ⟨A5, e5, r5⟩ := cut_from hr3 lc3 (((n - 12 : Nat) : Int) - 8) (n - 20) (by omega) (by omega)
    rw [show n - 12 - (n - 20) = 8 by omega] at e5 r5
    rw [HOP.out] at r4
    rw [HOS.out] at r5
    have hpl : (openP key b).length = n - 20 := by rw [← HOP.out, List.length_take, HXL.out]; omega
    have HPL := Lib.hid hpl
    clear hpl hr3
    have hsb : ((n - 22 : Nat) : Int) = (n : Int) - 22 := by omega
    by_cases hoff : 60000 < n - 22 ∨ unpadL (openP key b) (n - 22) = none
    · have hno := openL_off (key := key) (b := b) (by rw [HBL.out]; exact hoff)
      have HNO := Lib.hid (openRes_no (B := w.heap.size) (w' := w2.drew) hno)
      have HU := c_rUnpadNo A4 (n - 20) c3 (openP key b) (n - 22) w2 r4 (by omega) (by omega) (by omega) hoff
      rw [hsb] at HU
      have HU2 := Lib.hid HU
      clear r4 r5 e5 k8' hno hoff HU hsb
      go_wp2_with (go_at_call 66; (with_reducible refine HU2.out.mono ?_); rintro e w' ⟨rfl, rfl⟩)
      (refine wp_region_linN (Below w2.heap.size) (Below w2.heap.size) (wayB _) (wayB _) (fun _ _ h => h) (.free 0 (.free 1 (.free 2 (.free 3 (.free 4 (.free 5 (.free 6 (.free 7 (.free 10 (.free 12 (.two 8 [] [] [] (.op 9 [] [] [] (.op 11 [] [] [] (.op 13 [] [] [] (.op 14 [] [] [] (.free 15 (.free 16 .nil)))))) 9 [] [] [] (.op 8 [] [] [] (.op 11 [] [] [] (.op 13 [] [] [] (.op 14 [] [] [] (.free 15 (.free 16 .nil))))))))))))))))) rfl (by kernel_rfl) (by kernel_rfl) (fun _ _ _ _ _ h => h) ?_; (first | (apply linN_free; (simp only [List.getElem?_toArray, List.getElem?_cons_succ, List.getElem?_cons_zero]; rfl); (rfl); (intro w'; (first | (go_simp; done) | (go_simp; with_reducible rfl) | (go_simp; go_bits; with_reducible rfl) | (go_simp; go_bits; done))); try simp only [Act.put, List.setIfInBounds_toArray, List.set_cons_zero, List.set_cons_succ]) | (apply linN_freeSkip; (simp only [List.getElem?_toArray, List.getElem?_cons_succ, List.getElem?_cons_zero]; rfl); (rfl); try simp only [Act.put, List.setIfInBounds_toArray, List.set_cons_zero, List.set_cons_succ])); (first | (apply linN_free; (simp only [List.getElem?_toArray, List.getElem?_cons_succ, List.getElem?_cons_zero]; rfl); (rfl); (intro w'; (first | (go_simp; done) | (go_simp; with_reducible rfl) | (go_simp; go_bits; with_reducible rfl) | (go_simp; go_bits; done))); try simp only [Act.put, List.setIfInBounds_toArray, List.set_cons_zero, List.set_cons_succ]) | (apply linN_freeSkip; (simp only [List.getElem?_toArray, List.getElem?_cons_succ, List.getElem?_cons_zero]; rfl); (rfl); try simp only [Act.put, List.setIfInBounds_toArray, List.set_cons_zero, List.set_cons_succ])); (first | (apply linN_free; (simp only [List.getElem?_toArray, List.getElem?_cons_succ, List.getElem?_cons_zero]; rfl); (rfl); (intro w'; (first | (go_simp; done) | (go_simp; with_reducible rfl) | (go_simp; go_bits; with_reducible rfl) | (go_simp; go_bits; done))); try simp only [Act.put, List.setIfInBounds_toArray, List.set_cons_zero, List.set_cons_succ]) | (apply linN_freeSkip; (simp only [List.getElem?_toArray, List.getElem?_cons_succ, List.getElem?_cons_zero]; rfl); (rfl); try simp only [Act.put, List.setIfInBounds_toArray, List.set_cons_zero, List.set_cons_succ])); (first | (apply linN_free; (simp only [List.getElem?_toArray, List.getElem?_cons_succ, List.getElem?_cons_zero]; rfl); (rfl); (intro w'; (first | (go_simp; done) | (go_simp; with_reducible rfl) | (go_simp; go_bits; with_reducible rfl) | (go_simp; go_bits; done))); try simp only [Act.put, List.setIfInBounds_toArray, List.set_cons_zero, List.set_cons_succ]) | (apply linN_freeSkip; (simp only [List.getElem?_toArray, List.getElem?_cons_succ, List.getElem?_cons_zero]; rfl); (rfl); try simp only [Act.put, List.setIfInBounds_toArray, List.set_cons_zero, List.set_cons_succ])); (first | (apply linN_free; (simp only [List.getElem?_toArray, List.getElem?_cons_succ, List.getElem?_cons_zero]; rfl); (rfl); (intro w'; (first | (go_simp; done) | (go_simp; with_reducible rfl) | (go_simp; go_bits; with_reducible rfl) | (go_simp; go_bits; done))); try simp only [Act.put, List.setIfInBounds_toArray, List.set_cons_zero, List.set_cons_succ]) | (apply linN_freeSkip; (simp only [List.getElem?_toArray, List.getElem?_cons_succ, List.getElem?_cons_zero]; rfl); (rfl); try simp only [Act.put, List.setIfInBounds_toArray, List.set_cons_zero, List.set_cons_succ])); (first | (apply linN_free; (simp only [List.getElem?_toArray, List.getElem?_cons_succ, List.getElem?_cons_zero]; rfl); (rfl); (intro w'; (first | (go_simp; done) | (go_simp; with_reducible rfl) | (go_simp; go_bits; with_reducible rfl) | (go_simp; go_bits; done))); try simp only [Act.put, List.setIfInBounds_toArray, List.set_cons_zero, List.set_cons_succ]) | (apply linN_freeSkip; (simp only [List.getElem?_toArray, List.getElem?_cons_succ, List.getElem?_cons_zero]; rfl); (rfl); try simp only [Act.put, List.setIfInBounds_toArray, List.set_cons_zero, List.set_cons_succ])); (first | (apply linN_free; (simp only [List.getElem?_toArray, List.getElem?_cons_succ, List.getElem?_cons_zero]; rfl); (rfl); (intro w'; (first | (go_simp; done) | (go_simp; with_reducible rfl) | (go_simp; go_bits; with_reducible rfl) | (go_simp; go_bits; done))); try simp only [Act.put, List.setIfInBounds_toArray, List.set_cons_zero, List.set_cons_succ]) | (apply linN_freeSkip; (simp only [List.getElem?_toArray, List.getElem?_cons_succ, List.getElem?_cons_zero]; rfl); (rfl); try simp only [Act.put, List.setIfInBounds_toArray, List.set_cons_zero, List.set_cons_succ])); (first | (apply linN_free; (simp only [List.getElem?_toArray, List.getElem?_cons_succ, List.getElem?_cons_zero]; rfl); (rfl); (intro w'; (first | (go_simp; done) | (go_simp; with_reducible rfl) | (go_simp; go_bits; with_reducible rfl) | (go_simp; go_bits; done))); try simp only [Act.put, List.setIfInBounds_toArray, List.set_cons_zero, List.set_cons_succ]) | (apply linN_freeSkip; (simp only [List.getElem?_toArray, List.getElem?_cons_succ, List.getElem?_cons_zero]; rfl); (rfl); try simp only [Act.put, List.setIfInBounds_toArray, List.set_cons_zero, List.set_cons_succ])); (first | (apply linN_free; (simp only [List.getElem?_toArray, List.getElem?_cons_succ, List.getElem?_cons_zero]; rfl); (rfl); (intro w'; (first | (go_simp; done) | (go_simp; with_reducible rfl) | (go_simp; go_bits; with_reducible rfl) | (go_simp; go_bits; done))); try simp only [Act.put, List.setIfInBounds_toArray, List.set_cons_zero, List.set_cons_succ]) | (apply linN_freeSkip; (simp only [List.getElem?_toArray, List.getElem?_cons_succ, List.getElem?_cons_zero]; rfl); (rfl); try simp only [Act.put, List.setIfInBounds_toArray, List.set_cons_zero, List.set_cons_succ])); (first | (apply linN_free; (simp only [List.getElem?_toArray, List.getElem?_cons_succ, List.getElem?_cons_zero]; rfl); (rfl); (intro w'; (first | (go_simp; done) | (go_simp; with_reducible rfl) | (go_simp; go_bits; with_reducible rfl) | (go_simp; go_bits; done))); try simp only [Act.put, List.setIfInBounds_toArray, List.set_cons_zero, List.set_cons_succ]) | (apply linN_freeSkip; (simp only [List.getElem?_toArray, List.getElem?_cons_succ, List.getElem?_cons_zero]; rfl); (rfl); try simp only [Act.put, List.setIfInBounds_toArray, List.set_cons_zero, List.set_cons_succ])); refine linN_two ?_ ?_; (focus ((first | (apply passN; (simp only [List.getElem?_toArray, List.getElem?_cons_succ, List.getElem?_cons_zero]; rfl); (rfl); (exact trivial); try simp only [Act.put, List.setIfInBounds_toArray, List.set_cons_zero, List.set_cons_succ]) | (apply opN; (simp only [List.getElem?_toArray, List.getElem?_cons_succ, List.getElem?_cons_zero]; rfl); (rfl); intro K hK; (first | (go_simp; (first | skip))); refine hK _ _ ?_ ?_; (exact trivial); clear hK; try simp only [Act.put, List.setIfInBounds_toArray, List.set_cons_zero, List.set_cons_succ])); (first | (apply linN_pass (wayB _) (wayB _); (simp only [List.getElem?_toArray, List.getElem?_cons_succ, List.getElem?_cons_zero]; rfl); (rfl); try simp only [Act.put, List.setIfInBounds_toArray, List.set_cons_zero, List.set_cons_succ]) | (apply linN_op; (simp only [List.getElem?_toArray, List.getElem?_cons_succ, List.getElem?_cons_zero]; rfl); (rfl); intro K hK; (first | (go_simp; (first | skip))); refine hK _ _ ?_ ?_; (exact trivial); clear hK; try simp only [Act.put, List.setIfInBounds_toArray, List.set_cons_zero, List.set_cons_succ])); (first | (apply linN_pass (wayB _) (wayB _); (simp only [List.getElem?_toArray, List.getElem?_cons_succ, List.getElem?_cons_zero]; rfl); (rfl); try simp only [Act.put, List.setIfInBounds_toArray, List.set_cons_zero, List.set_cons_succ]) | (apply linN_op; (simp only [List.getElem?_toArray, List.getElem?_cons_succ, List.getElem?_cons_zero]; rfl); (rfl); intro K hK; (first | (go_simp; (first | skip))); refine hK _ _ ?_ ?_; (exact trivial); clear hK; try simp only [Act.put, List.setIfInBounds_toArray, List.set_cons_zero, List.set_cons_succ])); (first | (apply linN_pass (wayB _) (wayB _); (simp only [List.getElem?_toArray, List.getElem?_cons_succ, List.getElem?_cons_zero]; rfl); (rfl); try simp only [Act.put, List.setIfInBounds_toArray, List.set_cons_zero, List.set_cons_succ]) | (apply linN_op; (simp only [List.getElem?_toArray, List.getElem?_cons_succ, List.getElem?_cons_zero]; rfl); (rfl); intro K hK; (first | (go_simp; (first | skip))); refine hK _ _ ?_ ?_; (exact trivial); clear hK; try simp only [Act.put, List.setIfInBounds_toArray, List.set_cons_zero, List.set_cons_succ])); (first | (apply linN_pass (wayB _) (wayB _); (simp only [List.getElem?_toArray, List.getElem?_cons_succ, List.getElem?_cons_zero]; rfl); (rfl); try simp only [Act.put, List.setIfInBounds_toArray, List.set_cons_zero, List.set_cons_succ]) | (apply linN_op; (simp only [List.getElem?_toArray, List.getElem?_cons_succ, List.getElem?_cons_zero]; rfl); (rfl); intro K hK; (first | (go_simp; (first | skip))); refine hK _ _ ?_ ?_; (exact trivial); clear hK; try simp only [Act.put, List.setIfInBounds_toArray, List.set_cons_zero, List.set_cons_succ])); (first | (apply linN_free; (simp only [List.getElem?_toArray, List.getElem?_cons_succ, List.getElem?_cons_zero]; rfl); (rfl); (intro w'; (first | (go_simp; done) | (go_simp; with_reducible rfl) | (go_simp; go_bits; with_reducible rfl) | (go_simp; go_bits; done))); try simp only [Act.put, List.setIfInBounds_toArray, List.set_cons_zero, List.set_cons_succ]) | (apply linN_freeSkip; (simp only [List.getElem?_toArray, List.getElem?_cons_succ, List.getElem?_cons_zero]; rfl); (rfl); try simp only [Act.put, List.setIfInBounds_toArray, List.set_cons_zero, List.set_cons_succ])); (first | (apply linN_free; (simp only [List.getElem?_toArray, List.getElem?_cons_succ, List.getElem?_cons_zero]; rfl); (rfl); (intro w'; (first | (go_simp; done) | (go_simp; with_reducible rfl) | (go_simp; go_bits; with_reducible rfl) | (go_simp; go_bits; done))); try simp only [Act.put, List.setIfInBounds_toArray, List.set_cons_zero, List.set_cons_succ]) | (apply linN_freeSkip; (simp only [List.getElem?_toArray, List.getElem?_cons_succ, List.getElem?_cons_zero]; rfl); (rfl); try simp only [Act.put, List.setIfInBounds_toArray, List.set_cons_zero, List.set_cons_succ])); refine linN_end ?_)); rotate_left 1; (focus ((first | (apply passN; (simp only [List.getElem?_toArray, List.getElem?_cons_succ, List.getElem?_cons_zero]; rfl); (rfl); (exact trivial); try simp only [Act.put, List.setIfInBounds_toArray, List.set_cons_zero, List.set_cons_succ]) | (apply opN; (simp only [List.getElem?_toArray, List.getElem?_cons_succ, List.getElem?_cons_zero]; rfl); (rfl); intro K hK; (first | (go_simp; (first | skip))); refine hK _ _ ?_ ?_; (exact trivial); clear hK; try simp only [Act.put, List.setIfInBounds_toArray, List.set_cons_zero, List.set_cons_succ])); (first | (apply linN_pass (wayB _) (wayB _); (simp only [List.getElem?_toArray, List.getElem?_cons_succ, List.getElem?_cons_zero]; rfl); (rfl); try simp only [Act.put, List.setIfInBounds_toArray, List.set_cons_zero, List.set_cons_succ]) | (apply linN_op; (simp only [List.getElem?_toArray, List.getElem?_cons_succ, List.getElem?_cons_zero]; rfl); (rfl); intro K hK; (first | (go_simp; (first | skip))); refine hK _ _ ?_ ?_; (exact trivial); clear hK; try simp only [Act.put, List.setIfInBounds_toArray, List.set_cons_zero, List.set_cons_succ])); (first | (apply linN_pass (wayB _) (wayB _); (simp only [List.getElem?_toArray, List.getElem?_cons_succ, List.getElem?_cons_zero]; rfl); (rfl); try simp only [Act.put, List.setIfInBounds_toArray, List.set_cons_zero, List.set_cons_succ]) | (apply linN_op; (simp only [List.getElem?_toArray, List.getElem?_cons_succ, List.getElem?_cons_zero]; rfl); (rfl); intro K hK; (first | (go_simp; (first | skip))); refine hK _ _ ?_ ?_; (exact trivial); clear hK; try simp only [Act.put, List.setIfInBounds_toArray, List.set_cons_zero, List.set_cons_succ])); (first | (apply linN_pass (wayB _) (wayB _); (simp only [List.getElem?_toArray, List.getElem?_cons_succ, List.getElem?_cons_zero]; rfl); (rfl); try simp only [Act.put, List.setIfInBounds_toArray, List.set_cons_zero, List.set_cons_succ]) | (apply linN_op; (simp only [List.getElem?_toArray, List.getElem?_cons_succ, List.getElem?_cons_zero]; rfl); (rfl); intro K hK; (first | (go_simp; (first | skip))); refine hK _ _ ?_ ?_; (exact trivial); clear hK; try simp only [Act.put, List.setIfInBounds_toArray, List.set_cons_zero, List.set_cons_succ])); (first | (apply linN_pass (wayB _) (wayB _); (simp only [List.getElem?_toArray, List.getElem?_cons_succ, List.getElem?_cons_zero]; rfl); (rfl); try simp only [Act.put, List.setIfInBounds_toArray, List.set_cons_zero, List.set_cons_succ]) | (apply linN_op; (simp only [List.getElem?_toArray, List.getElem?_cons_succ, List.getElem?_cons_zero]; rfl); (rfl); intro K hK; (first | (go_simp; (first | skip))); refine hK _ _ ?_ ?_; (exact trivial); clear hK; try simp only [Act.put, List.setIfInBounds_toArray, List.set_cons_zero, List.set_cons_succ])); (first | (apply linN_free; (simp only [List.getElem?_toArray, List.getElem?_cons_succ, List.getElem?_cons_zero]; rfl); (rfl); (intro w'; (first | (go_simp; done) | (go_simp; with_reducible rfl) | (go_simp; go_bits; with_reducible rfl) | (go_simp; go_bits; done))); try simp only [Act.put, List.setIfInBounds_toArray, List.set_cons_zero, List.set_cons_succ]) | (apply linN_freeSkip; (simp only [List.getElem?_toArray, List.getElem?_cons_succ, List.getElem?_cons_zero]; rfl); (rfl); try simp only [Act.put, List.setIfInBounds_toArray, List.set_cons_zero, List.set_cons_succ])); (first | (apply linN_free; (simp only [List.getElem?_toArray, List.getElem?_cons_succ, List.getElem?_cons_zero]; rfl); (rfl); (intro w'; (first | (go_simp; done) | (go_simp; with_reducible rfl) | (go_simp; go_bits; with_reducible rfl) | (go_simp; go_bits; done))); try simp only [Act.put, List.setIfInBounds_toArray, List.set_cons_zero, List.set_cons_succ]) | (apply linN_freeSkip; (simp only [List.getElem?_toArray, List.getElem?_cons_succ, List.getElem?_cons_zero]; rfl); (rfl); try simp only [Act.put, List.setIfInBounds_toArray, List.set_cons_zero, List.set_cons_succ])); refine linN_end ?_)); rotate_right 1)
      all_goals
        go_wp2
        refine bodyPost_ret (v := .tuple #[.slice none 0 0, .int .u32 0, .int .u64 0, .bool false]) (by simp [results, Try.results23]) rfl ⟨HNO.out, below_drew hB2'⟩
    · have hm : n - 22 ≤ 60000 := by omega
      obtain ⟨p, hp⟩ : ∃ p, unpadL (openP key b) (n - 22) = some p := by
        cases hq : unpadL (openP key b) (n - 22) with
        | none => exact absurd (.inr hq) hoff
        | some p => exact ⟨p, rfl⟩
      have HU := c_rUnpad A4 (n - 20) c3 (openP key b) p (n - 22) w2 r4 (by omega) hm hp
      rw [hsb] at HU
      have HU2 := Lib.hid HU
      have HUP := Lib.hid hp
      clear HU hoff hp hsb
      go_upto_region 10 with (go_at_call 66; (with_reducible refine HU2.out.mono ?_); rintro e w3 ⟨v3, rfl, ho3, hb3⟩)
      have hb3d : Below w2.heap.size w2 w3.drew := below_drew hb3
      have q8 : Row w3.drew g8 _ _ := k8'.below hb3d k8'.lt
      have s4 : RdB w3.drew A4 _ _ := r4.below hb3d (Nat.le_refl _)
      have s5 : RdB w3.drew A5 8 _ := r5.below hb3d (Nat.le_refl _)
      have hB3 : Below w.heap.size w w3.drew := below_drew (below_two hB2' hb3)
      have hbz2 : w.heap.size ≤ w2.heap.size := hB2'.size
      have ho3' : OwnB w3.drew w.heap.size 5 v3 p := OwnB.mono ho3 hbz2
      have hpl : (openP key b).length ≤ 1000000 := by rw [HPL.out]; omega
      have hgt : (openS key b).length = 8 := s5.len
      have hmet : metB key b = (openS key b == leP (sumN (H ++ openP key b)) 8) := by unfold metB; rw [HD.hd]
      have hnum : (leN (openS key b) = sumN (H ++ openP key b)) ↔ metB key b = true := by
        rw [hmet, beq_iff_eq]
        constructor
        · intro h
          have := leP_leN (openS key b)
          rw [hgt, h] at this
          exact this.symm
        · intro h
          rw [h]
          exact leN_leP64 _ (sumN_lt _)
      have hg8 : leN ((openS key b).take 8) = leN (openS key b) := by rw [List.take_of_length_le (by omega)]
      have HG8 := Lib.hid hg8
      have hsl := sumN_lt (H ++ openP key b)
      have hhp : (H ++ openP key b).length ≤ maxLen := by rw [List.length_append, HH.out]; unfold maxLen; omega
      have hm2 : H.length + (openP key b).length ≤ 140737488355328 := by rw [HH.out]; omega
      have hm1 : ([] : List UInt8).length + 12 ≤ 140737488355328 := by decide
      have hE := own_empty w3.drew 5
      have hbE := below_alloc (Below.refl w3.drew.heap.size w3.drew) (.cells #[] 5)
      have s5a := s5.below hbE (Nat.le_refl _)
      have l1 := row_all (q8.below hbE q8.lt) HH.out
      have s5b : RdB (w3.alloc (.cells #[] 5)).drew A5 8 (openS key b) := s5a
      have hle4 : w.heap.size ≤ w3.drew.heap.size := hB3.size
      have s4' : RdB w3.drew A4 (openP key b).length (openP key b) := by rw [HPL.out]; exact s4
      have HSUM : IsSum (H ++ openP key b) (sumN (H ++ openP key b)) := ⟨rfl⟩
      clear hmet hg8 r4 r5 s4 hb3 hb3d k8' HU2 hgt ho3
      rw [← HPL.out]
      generalize hN1 : leN (openS key b) = N1 at *
      generalize hsm : sumN (H ++ openP key b) = sm at *
      clear hN1 hsm
      cases hmb : metB key b with
      | false =>
        have hNs : ¬ N1 = sm := fun e => by rw [hnum.1 e] at hmb; cases hmb
        have hne : (((N1 : Nat) : Int) != ((sm : Nat) : Int)) = true := by
          have : ¬ ((N1 : Nat) : Int) = ((sm : Nat) : Int) := by omega
          simpa using this
        have hno := openL_unmet hmb
        have HNO := Lib.hid hno
        clear hnum hmb hNs hno
        (refine wp_region_linN (Below w3.heap.size) (Below w3.heap.size) (wayB _) (wayB _) (fun _ _ h => h) (.free 0 (.free 1 (.free 2 (.free 3 (.free 4 (.free 5 (.free 6 (.free 7 (.free 10 (.free 12 (.two 8 [] [] [] (.op 9 [] [] [] (.op 11 [] [] [] (.op 13 [] [] [] (.op 14 [] [] [] (.free 15 (.free 16 .nil)))))) 9 [] [] [] (.op 8 [] [] [] (.op 11 [] [] [] (.op 13 [] [] [] (.op 14 [] [] [] (.free 15 (.free 16 .nil))))))))))))))))) rfl (by kernel_rfl) (by kernel_rfl) (fun _ _ _ _ _ h => h) ?_; (first | (apply linN_free; (simp only [List.getElem?_toArray, List.getElem?_cons_succ, List.getElem?_cons_zero]; rfl); (rfl); (intro w'; (first | (go_simp; done) | (go_simp; with_reducible rfl) | (go_simp; go_bits; with_reducible rfl) | (go_simp; go_bits; done))); try simp only [Act.put, List.setIfInBounds_toArray, List.set_cons_zero, List.set_cons_succ]) | (apply linN_freeSkip; (simp only [List.getElem?_toArray, List.getElem?_cons_succ, List.getElem?_cons_zero]; rfl); (rfl); try simp only [Act.put, List.setIfInBounds_toArray, List.set_cons_zero, List.set_cons_succ])); (first | (apply linN_free; (simp only [List.getElem?_toArray, List.getElem?_cons_succ, List.getElem?_cons_zero]; rfl); (rfl); (intro w'; (first | (go_simp; done) | (go_simp; with_reducible rfl) | (go_simp; go_bits; with_reducible rfl) | (go_simp; go_bits; done))); try simp only [Act.put, List.setIfInBounds_toArray, List.set_cons_zero, List.set_cons_succ]) | (apply linN_freeSkip; (simp only [List.getElem?_toArray, List.getElem?_cons_succ, List.getElem?_cons_zero]; rfl); (rfl); try simp only [Act.put, List.setIfInBounds_toArray, List.set_cons_zero, List.set_cons_succ])); (first | (apply linN_free; (simp only [List.getElem?_toArray, List.getElem?_cons_succ, List.getElem?_cons_zero]; rfl); (rfl); (intro w'; (first | (go_simp; done) | (go_simp; with_reducible rfl) | (go_simp; go_bits; with_reducible rfl) | (go_simp; go_bits; done))); try simp only [Act.put, List.setIfInBounds_toArray, List.set_cons_zero, List.set_cons_succ]) | (apply linN_freeSkip; (simp only [List.getElem?_toArray, List.getElem?_cons_succ, List.getElem?_cons_zero]; rfl); (rfl); try simp only [Act.put, List.setIfInBounds_toArray, List.set_cons_zero, List.set_cons_succ])); (first | (apply linN_free; (simp only [List.getElem?_toArray, List.getElem?_cons_succ, List.getElem?_cons_zero]; rfl); (rfl); (intro w'; (first | (go_simp; done) | (go_simp; with_reducible rfl) | (go_simp; go_bits; with_reducible rfl) | (go_simp; go_bits; done))); try simp only [Act.put, List.setIfInBounds_toArray, List.set_cons_zero, List.set_cons_succ]) | (apply linN_freeSkip; (simp only [List.getElem?_toArray, List.getElem?_cons_succ, List.getElem?_cons_zero]; rfl); (rfl); try simp only [Act.put, List.setIfInBounds_toArray, List.set_cons_zero, List.set_cons_succ])); (first | (apply linN_free; (simp only [List.getElem?_toArray, List.getElem?_cons_succ, List.getElem?_cons_zero]; rfl); (rfl); (intro w'; (first | (go_simp; done) | (go_simp; with_reducible rfl) | (go_simp; go_bits; with_reducible rfl) | (go_simp; go_bits; done))); try simp only [Act.put, List.setIfInBounds_toArray, List.set_cons_zero, List.set_cons_succ]) | (apply linN_freeSkip; (simp only [List.getElem?_toArray, List.getElem?_cons_succ, List.getElem?_cons_zero]; rfl); (rfl); try simp only [Act.put, List.setIfInBounds_toArray, List.set_cons_zero, List.set_cons_succ])); (first | (apply linN_free; (simp only [List.getElem?_toArray, List.getElem?_cons_succ, List.getElem?_cons_zero]; rfl); (rfl); (intro w'; (first | (go_simp; done) | (go_simp; with_reducible rfl) | (go_simp; go_bits; with_reducible rfl) | (go_simp; go_bits; done))); try simp only [Act.put, List.setIfInBounds_toArray, List.set_cons_zero, List.set_cons_succ]) | (apply linN_freeSkip; (simp only [List.getElem?_toArray, List.getElem?_cons_succ, List.getElem?_cons_zero]; rfl); (rfl); try simp only [Act.put, List.setIfInBounds_toArray, List.set_cons_zero, List.set_cons_succ])); (first | (apply linN_free; (simp only [List.getElem?_toArray, List.getElem?_cons_succ, List.getElem?_cons_zero]; rfl); (rfl); (intro w'; (first | (go_simp; done) | (go_simp; with_reducible rfl) | (go_simp; go_bits; with_reducible rfl) | (go_simp; go_bits; done))); try simp only [Act.put, List.setIfInBounds_toArray, List.set_cons_zero, List.set_cons_succ]) | (apply linN_freeSkip; (simp only [List.getElem?_toArray, List.getElem?_cons_succ, List.getElem?_cons_zero]; rfl); (rfl); try simp only [Act.put, List.setIfInBounds_toArray, List.set_cons_zero, List.set_cons_succ])); (first | (apply linN_free; (simp only [List.getElem?_toArray, List.getElem?_cons_succ, List.getElem?_cons_zero]; rfl); (rfl); (intro w'; (first | (go_simp; done) | (go_simp; with_reducible rfl) | (go_simp; go_bits; with_reducible rfl) | (go_simp; go_bits; done))); try simp only [Act.put, List.setIfInBounds_toArray, List.set_cons_zero, List.set_cons_succ]) | (apply linN_freeSkip; (simp only [List.getElem?_toArray, List.getElem?_cons_succ, List.getElem?_cons_zero]; rfl); (rfl); try simp only [Act.put, List.setIfInBounds_toArray, List.set_cons_zero, List.set_cons_succ])); (first | (apply linN_free; (simp only [List.getElem?_toArray, List.getElem?_cons_succ, List.getElem?_cons_zero]; rfl); (rfl); (intro w'; (first | (go_simp; done) | (go_simp; with_reducible rfl) | (go_simp; go_bits; with_reducible rfl) | (go_simp; go_bits; done))); try simp only [Act.put, List.setIfInBounds_toArray, List.set_cons_zero, List.set_cons_succ]) | (apply linN_freeSkip; (simp only [List.getElem?_toArray, List.getElem?_cons_succ, List.getElem?_cons_zero]; rfl); (rfl); try simp only [Act.put, List.setIfInBounds_toArray, List.set_cons_zero, List.set_cons_succ])); (first | (apply linN_free; (simp only [List.getElem?_toArray, List.getElem?_cons_succ, List.getElem?_cons_zero]; rfl); (rfl); (intro w'; (first | (go_simp; done) | (go_simp; with_reducible rfl) | (go_simp; go_bits; with_reducible rfl) | (go_simp; go_bits; done))); try simp only [Act.put, List.setIfInBounds_toArray, List.set_cons_zero, List.set_cons_succ]) | (apply linN_freeSkip; (simp only [List.getElem?_toArray, List.getElem?_cons_succ, List.getElem?_cons_zero]; rfl); (rfl); try simp only [Act.put, List.setIfInBounds_toArray, List.set_cons_zero, List.set_cons_succ])); refine linN_two ?_ ?_; (focus ((first | (apply passN; (simp only [List.getElem?_toArray, List.getElem?_cons_succ, List.getElem?_cons_zero]; rfl); (rfl); (exact trivial); try simp only [Act.put, List.setIfInBounds_toArray, List.set_cons_zero, List.set_cons_succ]) | (apply opN; (simp only [List.getElem?_toArray, List.getElem?_cons_succ, List.getElem?_cons_zero]; rfl); (rfl); intro K hK; (first | (refine wp_cat (w0 := w3.drew) (m := 12) _ _ 24 rfl w3.drew.heap.size 5 Try.underlying24 info_u8 (own_empty w3.drew 5) (by first | rfl | (go_simp; rfl)) l1 (by first | rfl | (go_simp; rfl)) (below_alloc (Below.refl w3.drew.heap.size w3.drew) _) (below_alloc (Below.refl w3.drew.heap.size w3.drew) _).size hm1 ?_; intro v5 w5 ho5 hbb5 hg5 hv5; rw [List.nil_append] at ho5; have s45 := Rd.below (show Rd w3.drew _ _ _ from s4') hbb5 (Nat.le_refl _)) | (refine wp_cat (w0 := w3.drew) (m := (openP key b).length) _ _ 24 rfl w3.drew.heap.size 5 Try.underlying24 info_u8 ho5 (by first | rfl | (go_simp; rfl)) s45 (by first | rfl | (go_simp; rfl)) hbb5 hbb5.size hm2 ?_; intro v6 w6 ho6 hbb6 hg6 hv6; obtain ⟨A6, c6, rfl, lc6, -, hr6⟩ := ho6.form; rw [List.length_append] at hr6; simp only [List.length_append]) | (go_simp; (first | (go_at_call 67; (with_reducible refine (c_rGet A5 8 _ (openS key b) _ (by first | exact s5 | exact s5a) (by decide)).mono ?_); rintro e w' ⟨rfl, rfl⟩; rw [HG8.out]) | (go_at_call 67; (with_reducible refine (c_rGet A5 8 _ (openS key b) _ s5b (by decide)).mono ?_); rintro e w' ⟨rfl, rfl⟩; rw [HG8.out]) | (go_at_call 68; (with_reducible refine (c_rSum A6 _ c6 (H ++ openP key b) _ hr6 (by rw [← List.length_append]; exact hhp)).mono ?_); rintro e w' ⟨rfl, rfl⟩; rw [HSUM.out]) | skip))); refine hK _ _ ?_ ?_; (exact trivial); clear hK; try simp only [Act.put, List.setIfInBounds_toArray, List.set_cons_zero, List.set_cons_succ])); (first | (apply linN_pass (wayB _) (wayB _); (simp only [List.getElem?_toArray, List.getElem?_cons_succ, List.getElem?_cons_zero]; rfl); (rfl); try simp only [Act.put, List.setIfInBounds_toArray, List.set_cons_zero, List.set_cons_succ]) | (apply linN_op; (simp only [List.getElem?_toArray, List.getElem?_cons_succ, List.getElem?_cons_zero]; rfl); (rfl); intro K hK; (first | (refine wp_cat (w0 := w3.drew) (m := 12) _ _ 24 rfl w3.drew.heap.size 5 Try.underlying24 info_u8 (own_empty w3.drew 5) (by first | rfl | (go_simp; rfl)) l1 (by first | rfl | (go_simp; rfl)) (below_alloc (Below.refl w3.drew.heap.size w3.drew) _) (below_alloc (Below.refl w3.drew.heap.size w3.drew) _).size hm1 ?_; intro v5 w5 ho5 hbb5 hg5 hv5; rw [List.nil_append] at ho5; have s45 := Rd.below (show Rd w3.drew _ _ _ from s4') hbb5 (Nat.le_refl _)) | (refine wp_cat (w0 := w3.drew) (m := (openP key b).length) _ _ 24 rfl w3.drew.heap.size 5 Try.underlying24 info_u8 ho5 (by first | rfl | (go_simp; rfl)) s45 (by first | rfl | (go_simp; rfl)) hbb5 hbb5.size hm2 ?_; intro v6 w6 ho6 hbb6 hg6 hv6; obtain ⟨A6, c6, rfl, lc6, -, hr6⟩ := ho6.form; rw [List.length_append] at hr6; simp only [List.length_append]) | (go_simp; (first | (go_at_call 67; (with_reducible refine (c_rGet A5 8 _ (openS key b) _ (by first | exact s5 | exact s5a) (by decide)).mono ?_); rintro e w' ⟨rfl, rfl⟩; rw [HG8.out]) | (go_at_call 67; (with_reducible refine (c_rGet A5 8 _ (openS key b) _ s5b (by decide)).mono ?_); rintro e w' ⟨rfl, rfl⟩; rw [HG8.out]) | (go_at_call 68; (with_reducible refine (c_rSum A6 _ c6 (H ++ openP key b) _ hr6 (by rw [← List.length_append]; exact hhp)).mono ?_); rintro e w' ⟨rfl, rfl⟩; rw [HSUM.out]) | skip))); refine hK _ _ ?_ ?_; (exact trivial); clear hK; try simp only [Act.put, List.setIfInBounds_toArray, List.set_cons_zero, List.set_cons_succ])); (first | (apply linN_pass (wayB _) (wayB _); (simp only [List.getElem?_toArray, List.getElem?_cons_succ, List.getElem?_cons_zero]; rfl); (rfl); try simp only [Act.put, List.setIfInBounds_toArray, List.set_cons_zero, List.set_cons_succ]) | (apply linN_op; (simp only [List.getElem?_toArray, List.getElem?_cons_succ, List.getElem?_cons_zero]; rfl); (rfl); intro K hK; (first | (refine wp_cat (w0 := w3.drew) (m := 12) _ _ 24 rfl w3.drew.heap.size 5 Try.underlying24 info_u8 (own_empty w3.drew 5) (by first | rfl | (go_simp; rfl)) l1 (by first | rfl | (go_simp; rfl)) (below_alloc (Below.refl w3.drew.heap.size w3.drew) _) (below_alloc (Below.refl w3.drew.heap.size w3.drew) _).size hm1 ?_; intro v5 w5 ho5 hbb5 hg5 hv5; rw [List.nil_append] at ho5; have s45 := Rd.below (show Rd w3.drew _ _ _ from s4') hbb5 (Nat.le_refl _)) | (refine wp_cat (w0 := w3.drew) (m := (openP key b).length) _ _ 24 rfl w3.drew.heap.size 5 Try.underlying24 info_u8 ho5 (by first | rfl | (go_simp; rfl)) s45 (by first | rfl | (go_simp; rfl)) hbb5 hbb5.size hm2 ?_; intro v6 w6 ho6 hbb6 hg6 hv6; obtain ⟨A6, c6, rfl, lc6, -, hr6⟩ := ho6.form; rw [List.length_append] at hr6; simp only [List.length_append]) | (go_simp; (first | (go_at_call 67; (with_reducible refine (c_rGet A5 8 _ (openS key b) _ (by first | exact s5 | exact s5a) (by decide)).mono ?_); rintro e w' ⟨rfl, rfl⟩; rw [HG8.out]) | (go_at_call 67; (with_reducible refine (c_rGet A5 8 _ (openS key b) _ s5b (by decide)).mono ?_); rintro e w' ⟨rfl, rfl⟩; rw [HG8.out]) | (go_at_call 68; (with_reducible refine (c_rSum A6 _ c6 (H ++ openP key b) _ hr6 (by rw [← List.length_append]; exact hhp)).mono ?_); rintro e w' ⟨rfl, rfl⟩; rw [HSUM.out]) | skip))); refine hK _ _ ?_ ?_; (exact trivial); clear hK; try simp only [Act.put, List.setIfInBounds_toArray, List.set_cons_zero, List.set_cons_succ])); (first | (apply linN_pass (wayB _) (wayB _); (simp only [List.getElem?_toArray, List.getElem?_cons_succ, List.getElem?_cons_zero]; rfl); (rfl); try simp only [Act.put, List.setIfInBounds_toArray, List.set_cons_zero, List.set_cons_succ]) | (apply linN_op; (simp only [List.getElem?_toArray, List.getElem?_cons_succ, List.getElem?_cons_zero]; rfl); (rfl); intro K hK; (first | (refine wp_cat (w0 := w3.drew) (m := 12) _ _ 24 rfl w3.drew.heap.size 5 Try.underlying24 info_u8 (own_empty w3.drew 5) (by first | rfl | (go_simp; rfl)) l1 (by first | rfl | (go_simp; rfl)) (below_alloc (Below.refl w3.drew.heap.size w3.drew) _) (below_alloc (Below.refl w3.drew.heap.size w3.drew) _).size hm1 ?_; intro v5 w5 ho5 hbb5 hg5 hv5; rw [List.nil_append] at ho5; have s45 := Rd.below (show Rd w3.drew _ _ _ from s4') hbb5 (Nat.le_refl _)) | (refine wp_cat (w0 := w3.drew) (m := (openP key b).length) _ _ 24 rfl w3.drew.heap.size 5 Try.underlying24 info_u8 ho5 (by first | rfl | (go_simp; rfl)) s45 (by first | rfl | (go_simp; rfl)) hbb5 hbb5.size hm2 ?_; intro v6 w6 ho6 hbb6 hg6 hv6; obtain ⟨A6, c6, rfl, lc6, -, hr6⟩ := ho6.form; rw [List.length_append] at hr6; simp only [List.length_append]) | (go_simp; (first | (go_at_call 67; (with_reducible refine (c_rGet A5 8 _ (openS key b) _ (by first | exact s5 | exact s5a) (by decide)).mono ?_); rintro e w' ⟨rfl, rfl⟩; rw [HG8.out]) | (go_at_call 67; (with_reducible refine (c_rGet A5 8 _ (openS key b) _ s5b (by decide)).mono ?_); rintro e w' ⟨rfl, rfl⟩; rw [HG8.out]) | (go_at_call 68; (with_reducible refine (c_rSum A6 _ c6 (H ++ openP key b) _ hr6 (by rw [← List.length_append]; exact hhp)).mono ?_); rintro e w' ⟨rfl, rfl⟩; rw [HSUM.out]) | skip))); refine hK _ _ ?_ ?_; (exact trivial); clear hK; try simp only [Act.put, List.setIfInBounds_toArray, List.set_cons_zero, List.set_cons_succ])); (first | (apply linN_pass (wayB _) (wayB _); (simp only [List.getElem?_toArray, List.getElem?_cons_succ, List.getElem?_cons_zero]; rfl); (rfl); try simp only [Act.put, List.setIfInBounds_toArray, List.set_cons_zero, List.set_cons_succ]) | (apply linN_op; (simp only [List.getElem?_toArray, List.getElem?_cons_succ, List.getElem?_cons_zero]; rfl); (rfl); intro K hK; (first | (refine wp_cat (w0 := w3.drew) (m := 12) _ _ 24 rfl w3.drew.heap.size 5 Try.underlying24 info_u8 (own_empty w3.drew 5) (by first | rfl | (go_simp; rfl)) l1 (by first | rfl | (go_simp; rfl)) (below_alloc (Below.refl w3.drew.heap.size w3.drew) _) (below_alloc (Below.refl w3.drew.heap.size w3.drew) _).size hm1 ?_; intro v5 w5 ho5 hbb5 hg5 hv5; rw [List.nil_append] at ho5; have s45 := Rd.below (show Rd w3.drew _ _ _ from s4') hbb5 (Nat.le_refl _)) | (refine wp_cat (w0 := w3.drew) (m := (openP key b).length) _ _ 24 rfl w3.drew.heap.size 5 Try.underlying24 info_u8 ho5 (by first | rfl | (go_simp; rfl)) s45 (by first | rfl | (go_simp; rfl)) hbb5 hbb5.size hm2 ?_; intro v6 w6 ho6 hbb6 hg6 hv6; obtain ⟨A6, c6, rfl, lc6, -, hr6⟩ := ho6.form; rw [List.length_append] at hr6; simp only [List.length_append]) | (go_simp; (first | (go_at_call 67; (with_reducible refine (c_rGet A5 8 _ (openS key b) _ (by first | exact s5 | exact s5a) (by decide)).mono ?_); rintro e w' ⟨rfl, rfl⟩; rw [HG8.out]) | (go_at_call 67; (with_reducible refine (c_rGet A5 8 _ (openS key b) _ s5b (by decide)).mono ?_); rintro e w' ⟨rfl, rfl⟩; rw [HG8.out]) | (go_at_call 68; (with_reducible refine (c_rSum A6 _ c6 (H ++ openP key b) _ hr6 (by rw [← List.length_append]; exact hhp)).mono ?_); rintro e w' ⟨rfl, rfl⟩; rw [HSUM.out]) | skip))); refine hK _ _ ?_ ?_; (exact trivial); clear hK; try simp only [Act.put, List.setIfInBounds_toArray, List.set_cons_zero, List.set_cons_succ])); (first | (apply linN_free; (simp only [List.getElem?_toArray, List.getElem?_cons_succ, List.getElem?_cons_zero]; rfl); (rfl); (intro w'; (first | (go_simp; done) | (go_simp; with_reducible rfl) | (go_simp; go_bits; with_reducible rfl) | (go_simp; go_bits; done))); try simp only [Act.put, List.setIfInBounds_toArray, List.set_cons_zero, List.set_cons_succ]) | (apply linN_freeSkip; (simp only [List.getElem?_toArray, List.getElem?_cons_succ, List.getElem?_cons_zero]; rfl); (rfl); try simp only [Act.put, List.setIfInBounds_toArray, List.set_cons_zero, List.set_cons_succ])); (first | (apply linN_free; (simp only [List.getElem?_toArray, List.getElem?_cons_succ, List.getElem?_cons_zero]; rfl); (rfl); (intro w'; (first | (go_simp; done) | (go_simp; with_reducible rfl) | (go_simp; go_bits; with_reducible rfl) | (go_simp; go_bits; done))); try simp only [Act.put, List.setIfInBounds_toArray, List.set_cons_zero, List.set_cons_succ]) | (apply linN_freeSkip; (simp only [List.getElem?_toArray, List.getElem?_cons_succ, List.getElem?_cons_zero]; rfl); (rfl); try simp only [Act.put, List.setIfInBounds_toArray, List.set_cons_zero, List.set_cons_succ])); refine linN_end ?_)); rotate_left 1; (focus ((first | (apply passN; (simp only [List.getElem?_toArray, List.getElem?_cons_succ, List.getElem?_cons_zero]; rfl); (rfl); (exact trivial); try simp only [Act.put, List.setIfInBounds_toArray, List.set_cons_zero, List.set_cons_succ]) | (apply opN; (simp only [List.getElem?_toArray, List.getElem?_cons_succ, List.getElem?_cons_zero]; rfl); (rfl); intro K hK; (first | (refine wp_cat (w0 := w3.drew) (m := 12) _ _ 24 rfl w3.drew.heap.size 5 Try.underlying24 info_u8 (own_empty w3.drew 5) (by first | rfl | (go_simp; rfl)) l1 (by first | rfl | (go_simp; rfl)) (below_alloc (Below.refl w3.drew.heap.size w3.drew) _) (below_alloc (Below.refl w3.drew.heap.size w3.drew) _).size hm1 ?_; intro v5 w5 ho5 hbb5 hg5 hv5; rw [List.nil_append] at ho5; have s45 := Rd.below (show Rd w3.drew _ _ _ from s4') hbb5 (Nat.le_refl _)) | (refine wp_cat (w0 := w3.drew) (m := (openP key b).length) _ _ 24 rfl w3.drew.heap.size 5 Try.underlying24 info_u8 ho5 (by first | rfl | (go_simp; rfl)) s45 (by first | rfl | (go_simp; rfl)) hbb5 hbb5.size hm2 ?_; intro v6 w6 ho6 hbb6 hg6 hv6; obtain ⟨A6, c6, rfl, lc6, -, hr6⟩ := ho6.form; rw [List.length_append] at hr6; simp only [List.length_append]) | (go_simp; (first | (go_at_call 67; (with_reducible refine (c_rGet A5 8 _ (openS key b) _ (by first | exact s5 | exact s5a) (by decide)).mono ?_); rintro e w' ⟨rfl, rfl⟩; rw [HG8.out]) | (go_at_call 67; (with_reducible refine (c_rGet A5 8 _ (openS key b) _ s5b (by decide)).mono ?_); rintro e w' ⟨rfl, rfl⟩; rw [HG8.out]) | (go_at_call 68; (with_reducible refine (c_rSum A6 _ c6 (H ++ openP key b) _ hr6 (by rw [← List.length_append]; exact hhp)).mono ?_); rintro e w' ⟨rfl, rfl⟩; rw [HSUM.out]) | skip))); refine hK _ _ ?_ ?_; (exact trivial); clear hK; try simp only [Act.put, List.setIfInBounds_toArray, List.set_cons_zero, List.set_cons_succ])); (first | (apply linN_pass (wayB _) (wayB _); (simp only [List.getElem?_toArray, List.getElem?_cons_succ, List.getElem?_cons_zero]; rfl); (rfl); try simp only [Act.put, List.setIfInBounds_toArray, List.set_cons_zero, List.set_cons_succ]) | (apply linN_op; (simp only [List.getElem?_toArray, List.getElem?_cons_succ, List.getElem?_cons_zero]; rfl); (rfl); intro K hK; (first | (refine wp_cat (w0 := w3.drew) (m := 12) _ _ 24 rfl w3.drew.heap.size 5 Try.underlying24 info_u8 (own_empty w3.drew 5) (by first | rfl | (go_simp; rfl)) l1 (by first | rfl | (go_simp; rfl)) (below_alloc (Below.refl w3.drew.heap.size w3.drew) _) (below_alloc (Below.refl w3.drew.heap.size w3.drew) _).size hm1 ?_; intro v5 w5 ho5 hbb5 hg5 hv5; rw [List.nil_append] at ho5; have s45 := Rd.below (show Rd w3.drew _ _ _ from s4') hbb5 (Nat.le_refl _)) | (refine wp_cat (w0 := w3.drew) (m := (openP key b).length) _ _ 24 rfl w3.drew.heap.size 5 Try.underlying24 info_u8 ho5 (by first | rfl | (go_simp; rfl)) s45 (by first | rfl | (go_simp; rfl)) hbb5 hbb5.size hm2 ?_; intro v6 w6 ho6 hbb6 hg6 hv6; obtain ⟨A6, c6, rfl, lc6, -, hr6⟩ := ho6.form; rw [List.length_append] at hr6; simp only [List.length_append]) | (go_simp; (first | (go_at_call 67; (with_reducible refine (c_rGet A5 8 _ (openS key b) _ (by first | exact s5 | exact s5a) (by decide)).mono ?_); rintro e w' ⟨rfl, rfl⟩; rw [HG8.out]) | (go_at_call 67; (with_reducible refine (c_rGet A5 8 _ (openS key b) _ s5b (by decide)).mono ?_); rintro e w' ⟨rfl, rfl⟩; rw [HG8.out]) | (go_at_call 68; (with_reducible refine (c_rSum A6 _ c6 (H ++ openP key b) _ hr6 (by rw [← List.length_append]; exact hhp)).mono ?_); rintro e w' ⟨rfl, rfl⟩; rw [HSUM.out]) | skip))); refine hK _ _ ?_ ?_; (exact trivial); clear hK; try simp only [Act.put, List.setIfInBounds_toArray, List.set_cons_zero, List.set_cons_succ])); (first | (apply linN_pass (wayB _) (wayB _); (simp only [List.getElem?_toArray, List.getElem?_cons_succ, List.getElem?_cons_zero]; rfl); (rfl); try simp only [Act.put, List.setIfInBounds_toArray, List.set_cons_zero, List.set_cons_succ]) | (apply linN_op; (simp only [List.getElem?_toArray, List.getElem?_cons_succ, List.getElem?_cons_zero]; rfl); (rfl); intro K hK; (first | (refine wp_cat (w0 := w3.drew) (m := 12) _ _ 24 rfl w3.drew.heap.size 5 Try.underlying24 info_u8 (own_empty w3.drew 5) (by first | rfl | (go_simp; rfl)) l1 (by first | rfl | (go_simp; rfl)) (below_alloc (Below.refl w3.drew.heap.size w3.drew) _) (below_alloc (Below.refl w3.drew.heap.size w3.drew) _).size hm1 ?_; intro v5 w5 ho5 hbb5 hg5 hv5; rw [List.nil_append] at ho5; have s45 := Rd.below (show Rd w3.drew _ _ _ from s4') hbb5 (Nat.le_refl _)) | (refine wp_cat (w0 := w3.drew) (m := (openP key b).length) _ _ 24 rfl w3.drew.heap.size 5 Try.underlying24 info_u8 ho5 (by first | rfl | (go_simp; rfl)) s45 (by first | rfl | (go_simp; rfl)) hbb5 hbb5.size hm2 ?_; intro v6 w6 ho6 hbb6 hg6 hv6; obtain ⟨A6, c6, rfl, lc6, -, hr6⟩ := ho6.form; rw [List.length_append] at hr6; simp only [List.length_append]) | (go_simp; (first | (go_at_call 67; (with_reducible refine (c_rGet A5 8 _ (openS key b) _ (by first | exact s5 | exact s5a) (by decide)).mono ?_); rintro e w' ⟨rfl, rfl⟩; rw [HG8.out]) | (go_at_call 67; (with_reducible refine (c_rGet A5 8 _ (openS key b) _ s5b (by decide)).mono ?_); rintro e w' ⟨rfl, rfl⟩; rw [HG8.out]) | (go_at_call 68; (with_reducible refine (c_rSum A6 _ c6 (H ++ openP key b) _ hr6 (by rw [← List.length_append]; exact hhp)).mono ?_); rintro e w' ⟨rfl, rfl⟩; rw [HSUM.out]) | skip))); refine hK _ _ ?_ ?_; (exact trivial); clear hK; try simp only [Act.put, List.setIfInBounds_toArray, List.set_cons_zero, List.set_cons_succ])); (first | (apply linN_pass (wayB _) (wayB _); (simp only [List.getElem?_toArray, List.getElem?_cons_succ, List.getElem?_cons_zero]; rfl); (rfl); try simp only [Act.put, List.setIfInBounds_toArray, List.set_cons_zero, List.set_cons_succ]) | (apply linN_op; (simp only [List.getElem?_toArray, List.getElem?_cons_succ, List.getElem?_cons_zero]; rfl); (rfl); intro K hK; (first | (refine wp_cat (w0 := w3.drew) (m := 12) _ _ 24 rfl w3.drew.heap.size 5 Try.underlying24 info_u8 (own_empty w3.drew 5) (by first | rfl | (go_simp; rfl)) l1 (by first | rfl | (go_simp; rfl)) (below_alloc (Below.refl w3.drew.heap.size w3.drew) _) (below_alloc (Below.refl w3.drew.heap.size w3.drew) _).size hm1 ?_; intro v5 w5 ho5 hbb5 hg5 hv5; rw [List.nil_append] at ho5; have s45 := Rd.below (show Rd w3.drew _ _ _ from s4') hbb5 (Nat.le_refl _)) | (refine wp_cat (w0 := w3.drew) (m := (openP key b).length) _ _ 24 rfl w3.drew.heap.size 5 Try.underlying24 info_u8 ho5 (by first | rfl | (go_simp; rfl)) s45 (by first | rfl | (go_simp; rfl)) hbb5 hbb5.size hm2 ?_; intro v6 w6 ho6 hbb6 hg6 hv6; obtain ⟨A6, c6, rfl, lc6, -, hr6⟩ := ho6.form; rw [List.length_append] at hr6; simp only [List.length_append]) | (go_simp; (first | (go_at_call 67; (with_reducible refine (c_rGet A5 8 _ (openS key b) _ (by first | exact s5 | exact s5a) (by decide)).mono ?_); rintro e w' ⟨rfl, rfl⟩; rw [HG8.out]) | (go_at_call 67; (with_reducible refine (c_rGet A5 8 _ (openS key b) _ s5b (by decide)).mono ?_); rintro e w' ⟨rfl, rfl⟩; rw [HG8.out]) | (go_at_call 68; (with_reducible refine (c_rSum A6 _ c6 (H ++ openP key b) _ hr6 (by rw [← List.length_append]; exact hhp)).mono ?_); rintro e w' ⟨rfl, rfl⟩; rw [HSUM.out]) | skip))); refine hK _ _ ?_ ?_; (exact trivial); clear hK; try simp only [Act.put, List.setIfInBounds_toArray, List.set_cons_zero, List.set_cons_succ])); (first | (apply linN_pass (wayB _) (wayB _); (simp only [List.getElem?_toArray, List.getElem?_cons_succ, List.getElem?_cons_zero]; rfl); (rfl); try simp only [Act.put, List.setIfInBounds_toArray, List.set_cons_zero, List.set_cons_succ]) | (apply linN_op; (simp only [List.getElem?_toArray, List.getElem?_cons_succ, List.getElem?_cons_zero]; rfl); (rfl); intro K hK; (first | (refine wp_cat (w0 := w3.drew) (m := 12) _ _ 24 rfl w3.drew.heap.size 5 Try.underlying24 info_u8 (own_empty w3.drew 5) (by first | rfl | (go_simp; rfl)) l1 (by first | rfl | (go_simp; rfl)) (below_alloc (Below.refl w3.drew.heap.size w3.drew) _) (below_alloc (Below.refl w3.drew.heap.size w3.drew) _).size hm1 ?_; intro v5 w5 ho5 hbb5 hg5 hv5; rw [List.nil_append] at ho5; have s45 := Rd.below (show Rd w3.drew _ _ _ from s4') hbb5 (Nat.le_refl _)) | (refine wp_cat (w0 := w3.drew) (m := (openP key b).length) _ _ 24 rfl w3.drew.heap.size 5 Try.underlying24 info_u8 ho5 (by first | rfl | (go_simp; rfl)) s45 (by first | rfl | (go_simp; rfl)) hbb5 hbb5.size hm2 ?_; intro v6 w6 ho6 hbb6 hg6 hv6; obtain ⟨A6, c6, rfl, lc6, -, hr6⟩ := ho6.form; rw [List.length_append] at hr6; simp only [List.length_append]) | (go_simp; (first | (go_at_call 67; (with_reducible refine (c_rGet A5 8 _ (openS key b) _ (by first | exact s5 | exact s5a) (by decide)).mono ?_); rintro e w' ⟨rfl, rfl⟩; rw [HG8.out]) | (go_at_call 67; (with_reducible refine (c_rGet A5 8 _ (openS key b) _ s5b (by decide)).mono ?_); rintro e w' ⟨rfl, rfl⟩; rw [HG8.out]) | (go_at_call 68; (with_reducible refine (c_rSum A6 _ c6 (H ++ openP key b) _ hr6 (by rw [← List.length_append]; exact hhp)).mono ?_); rintro e w' ⟨rfl, rfl⟩; rw [HSUM.out]) | skip))); refine hK _ _ ?_ ?_; (exact trivial); clear hK; try simp only [Act.put, List.setIfInBounds_toArray, List.set_cons_zero, List.set_cons_succ])); (first | (apply linN_free; (simp only [List.getElem?_toArray, List.getElem?_cons_succ, List.getElem?_cons_zero]; rfl); (rfl); (intro w'; (first | (go_simp; done) | (go_simp; with_reducible rfl) | (go_simp; go_bits; with_reducible rfl) | (go_simp; go_bits; done))); try simp only [Act.put, List.setIfInBounds_toArray, List.set_cons_zero, List.set_cons_succ]) | (apply linN_freeSkip; (simp only [List.getElem?_toArray, List.getElem?_cons_succ, List.getElem?_cons_zero]; rfl); (rfl); try simp only [Act.put, List.setIfInBounds_toArray, List.set_cons_zero, List.set_cons_succ])); (first | (apply linN_free; (simp only [List.getElem?_toArray, List.getElem?_cons_succ, List.getElem?_cons_zero]; rfl); (rfl); (intro w'; (first | (go_simp; done) | (go_simp; with_reducible rfl) | (go_simp; go_bits; with_reducible rfl) | (go_simp; go_bits; done))); try simp only [Act.put, List.setIfInBounds_toArray, List.set_cons_zero, List.set_cons_succ]) | (apply linN_freeSkip; (simp only [List.getElem?_toArray, List.getElem?_cons_succ, List.getElem?_cons_zero]; rfl); (rfl); try simp only [Act.put, List.setIfInBounds_toArray, List.set_cons_zero, List.set_cons_succ])); refine linN_end ?_)); rotate_right 1)
        all_goals
          go_wp2
          refine bodyPost_ret (v := .tuple #[.slice none 0 0, .int .u32 0, .int .u64 0, .bool false]) (by simp [results, Try.results23]) rfl ⟨openRes_no HNO.out, hB3.trans (hbb6.mono hle4)⟩
      | true =>
        have hNs := hnum.2 hmb
        subst hNs
        have hyes := openL_met (key := key) (b := b) (p := p) (by rw [HBL.out]; omega) (by rw [HBL.out]; omega) hmb (by rw [HBL.out]; exact HUP.out)
        have HY := Lib.hid hyes
        clear hnum hmb hyes
        have hbo : leN ((H.take 4).take 8) = bootN b := by
          unfold bootN
          rw [List.take_of_length_le (l := H.take 4) (by rw [List.length_take]; omega), ← HD.hd, List.take_take]
          rfl
        have hsq : leN ((H.drop 4).take 8) = seqN b := by
          unfold seqN
          rw [List.take_of_length_le (l := H.drop 4) (by rw [List.length_drop, HH.out]; decide), ← HD.hd]
        have hbl4 : bootN b < 4294967296 := by
          unfold bootN
          have h := leN_lt (b.take 4)
          have h2 : 256 ^ (b.take 4).length ≤ 256 ^ 4 := Nat.pow_le_pow_right (by decide) (List.length_take_le _ _)
          have h3 : (256 : Nat) ^ 4 = 4294967296 := rfl
          omega
        have hw32 : IntKind.u32.wrap ((bootN b : Nat) : Int) = ((bootN b : Nat) : Int) := by simp [IntKind.wrap, IntKind.bits, IntKind.signed]; omega
        have x1 : RdB w3.drew (some ⟨g8, 0, none⟩) 4 (H.take 4) := by have := row_part q8 0 4 (by rw [HH.out]; decide); rwa [List.drop_zero] at this
        have x2 : RdB w3.drew (some ⟨g8, 4, none⟩) 8 (H.drop 4) := row_from q8 4 (by rw [HH.out])
        have hsl4 := slice_arr_from (P := Try.prog) (t := 43) Try.underlying43 (by kernel_rfl) g8 4 4 rfl (by decide)
        have HBO := Lib.hid hbo
        have HSQ := Lib.hid hsq
        have HRES : ∀ w', OwnB w' w.heap.size 5 v3 p → OpenRes key b w.heap.size (.returned (.tuple #[v3, .int .u32 (bootN b : Nat), .int .u64 (seqN b : Nat), .bool true])) w' := fun w' h => openRes_yes HY.out h
        have HR2 := Lib.hid HRES
        clear hbo hsq hbl4 HRES
        generalize hbb : bootN b = bo at *
        generalize hss : seqN b = sq at *
        clear hbb hss
        (refine wp_region_linN (Below w3.heap.size) (Below w3.heap.size) (wayB _) (wayB _) (fun _ _ h => h) (.free 0 (.free 1 (.free 2 (.free 3 (.free 4 (.free 5 (.free 6 (.free 7 (.free 10 (.free 12 (.two 8 [] [] [] (.op 9 [] [] [] (.op 11 [] [] [] (.op 13 [] [] [] (.op 14 [] [] [] (.free 15 (.free 16 .nil)))))) 9 [] [] [] (.op 8 [] [] [] (.op 11 [] [] [] (.op 13 [] [] [] (.op 14 [] [] [] (.free 15 (.free 16 .nil))))))))))))))))) rfl (by kernel_rfl) (by kernel_rfl) (fun _ _ _ _ _ h => h) ?_; (first | (apply linN_free; (simp only [List.getElem?_toArray, List.getElem?_cons_succ, List.getElem?_cons_zero]; rfl); (rfl); (intro w'; (first | (go_simp; done) | (go_simp; with_reducible rfl) | (go_simp; go_bits; with_reducible rfl) | (go_simp; go_bits; done))); try simp only [Act.put, List.setIfInBounds_toArray, List.set_cons_zero, List.set_cons_succ]) | (apply linN_freeSkip; (simp only [List.getElem?_toArray, List.getElem?_cons_succ, List.getElem?_cons_zero]; rfl); (rfl); try simp only [Act.put, List.setIfInBounds_toArray, List.set_cons_zero, List.set_cons_succ])); (first | (apply linN_free; (simp only [List.getElem?_toArray, List.getElem?_cons_succ, List.getElem?_cons_zero]; rfl); (rfl); (intro w'; (first | (go_simp; done) | (go_simp; with_reducible rfl) | (go_simp; go_bits; with_reducible rfl) | (go_simp; go_bits; done))); try simp only [Act.put, List.setIfInBounds_toArray, List.set_cons_zero, List.set_cons_succ]) | (apply linN_freeSkip; (simp only [List.getElem?_toArray, List.getElem?_cons_succ, List.getElem?_cons_zero]; rfl); (rfl); try simp only [Act.put, List.setIfInBounds_toArray, List.set_cons_zero, List.set_cons_succ])); (first | (apply linN_free; (simp only [List.getElem?_toArray, List.getElem?_cons_succ, List.getElem?_cons_zero]; rfl); (rfl); (intro w'; (first | (go_simp; done) | (go_simp; with_reducible rfl) | (go_simp; go_bits; with_reducible rfl) | (go_simp; go_bits; done))); try simp only [Act.put, List.setIfInBounds_toArray, List.set_cons_zero, List.set_cons_succ]) | (apply linN_freeSkip; (simp only [List.getElem?_toArray, List.getElem?_cons_succ, List.getElem?_cons_zero]; rfl); (rfl); try simp only [Act.put, List.setIfInBounds_toArray, List.set_cons_zero, List.set_cons_succ])); (first | (apply linN_free; (simp only [List.getElem?_toArray, List.getElem?_cons_succ, List.getElem?_cons_zero]; rfl); (rfl); (intro w'; (first | (go_simp; done) | (go_simp; with_reducible rfl) | (go_simp; go_bits; with_reducible rfl) | (go_simp; go_bits; done))); try simp only [Act.put, List.setIfInBounds_toArray, List.set_cons_zero, List.set_cons_succ]) | (apply linN_freeSkip; (simp only [List.getElem?_toArray, List.getElem?_cons_succ, List.getElem?_cons_zero]; rfl); (rfl); try simp only [Act.put, List.setIfInBounds_toArray, List.set_cons_zero, List.set_cons_succ])); (first | (apply linN_free; (simp only [List.getElem?_toArray, List.getElem?_cons_succ, List.getElem?_cons_zero]; rfl); (rfl); (intro w'; (first | (go_simp; done) | (go_simp; with_reducible rfl) | (go_simp; go_bits; with_reducible rfl) | (go_simp; go_bits; done))); try simp only [Act.put, List.setIfInBounds_toArray, List.set_cons_zero, List.set_cons_succ]) | (apply linN_freeSkip; (simp only [List.getElem?_toArray, List.getElem?_cons_succ, List.getElem?_cons_zero]; rfl); (rfl); try simp only [Act.put, List.setIfInBounds_toArray, List.set_cons_zero, List.set_cons_succ])); (first | (apply linN_free; (simp only [List.getElem?_toArray, List.getElem?_cons_succ, List.getElem?_cons_zero]; rfl); (rfl); (intro w'; (first | (go_simp; done) | (go_simp; with_reducible rfl) | (go_simp; go_bits; with_reducible rfl) | (go_simp; go_bits; done))); try simp only [Act.put, List.setIfInBounds_toArray, List.set_cons_zero, List.set_cons_succ]) | (apply linN_freeSkip; (simp only [List.getElem?_toArray, List.getElem?_cons_succ, List.getElem?_cons_zero]; rfl); (rfl); try simp only [Act.put, List.setIfInBounds_toArray, List.set_cons_zero, List.set_cons_succ])); (first | (apply linN_free; (simp only [List.getElem?_toArray, List.getElem?_cons_succ, List.getElem?_cons_zero]; rfl); (rfl); (intro w'; (first | (go_simp; done) | (go_simp; with_reducible rfl) | (go_simp; go_bits; with_reducible rfl) | (go_simp; go_bits; done))); try simp only [Act.put, List.setIfInBounds_toArray, List.set_cons_zero, List.set_cons_succ]) | (apply linN_freeSkip; (simp only [List.getElem?_toArray, List.getElem?_cons_succ, List.getElem?_cons_zero]; rfl); (rfl); try simp only [Act.put, List.setIfInBounds_toArray, List.set_cons_zero, List.set_cons_succ])); (first | (apply linN_free; (simp only [List.getElem?_toArray, List.getElem?_cons_succ, List.getElem?_cons_zero]; rfl); (rfl); (intro w'; (first | (go_simp; done) | (go_simp; with_reducible rfl) | (go_simp; go_bits; with_reducible rfl) | (go_simp; go_bits; done))); try simp only [Act.put, List.setIfInBounds_toArray, List.set_cons_zero, List.set_cons_succ]) | (apply linN_freeSkip; (simp only [List.getElem?_toArray, List.getElem?_cons_succ, List.getElem?_cons_zero]; rfl); (rfl); try simp only [Act.put, List.setIfInBounds_toArray, List.set_cons_zero, List.set_cons_succ])); (first | (apply linN_free; (simp only [List.getElem?_toArray, List.getElem?_cons_succ, List.getElem?_cons_zero]; rfl); (rfl); (intro w'; (first | (go_simp; done) | (go_simp; with_reducible rfl) | (go_simp; go_bits; with_reducible rfl) | (go_simp; go_bits; done))); try simp only [Act.put, List.setIfInBounds_toArray, List.set_cons_zero, List.set_cons_succ]) | (apply linN_freeSkip; (simp only [List.getElem?_toArray, List.getElem?_cons_succ, List.getElem?_cons_zero]; rfl); (rfl); try simp only [Act.put, List.setIfInBounds_toArray, List.set_cons_zero, List.set_cons_succ])); (first | (apply linN_free; (simp only [List.getElem?_toArray, List.getElem?_cons_succ, List.getElem?_cons_zero]; rfl); (rfl); (intro w'; (first | (go_simp; done) | (go_simp; with_reducible rfl) | (go_simp; go_bits; with_reducible rfl) | (go_simp; go_bits; done))); try simp only [Act.put, List.setIfInBounds_toArray, List.set_cons_zero, List.set_cons_succ]) | (apply linN_freeSkip; (simp only [List.getElem?_toArray, List.getElem?_cons_succ, List.getElem?_cons_zero]; rfl); (rfl); try simp only [Act.put, List.setIfInBounds_toArray, List.set_cons_zero, List.set_cons_succ])); refine linN_two ?_ ?_; (focus ((first | (apply passN; (simp only [List.getElem?_toArray, List.getElem?_cons_succ, List.getElem?_cons_zero]; rfl); (rfl); (exact trivial); try simp only [Act.put, List.setIfInBounds_toArray, List.set_cons_zero, List.set_cons_succ]) | (apply opN; (simp only [List.getElem?_toArray, List.getElem?_cons_succ, List.getElem?_cons_zero]; rfl); (rfl); intro K hK; (first | (refine wp_cat (w0 := w3.drew) (m := 12) _ _ 24 rfl w3.drew.heap.size 5 Try.underlying24 info_u8 (own_empty w3.drew 5) (by first | rfl | (go_simp; rfl)) l1 (by first | rfl | (go_simp; rfl)) (below_alloc (Below.refl w3.drew.heap.size w3.drew) _) (below_alloc (Below.refl w3.drew.heap.size w3.drew) _).size hm1 ?_; intro v5 w5 ho5 hbb5 hg5 hv5; rw [List.nil_append] at ho5; have s45 := Rd.below (show Rd w3.drew _ _ _ from s4') hbb5 (Nat.le_refl _)) | (refine wp_cat (w0 := w3.drew) (m := (openP key b).length) _ _ 24 rfl w3.drew.heap.size 5 Try.underlying24 info_u8 ho5 (by first | rfl | (go_simp; rfl)) s45 (by first | rfl | (go_simp; rfl)) hbb5 hbb5.size hm2 ?_; intro v6 w6 ho6 hbb6 hg6 hv6; obtain ⟨A6, c6, rfl, lc6, -, hr6⟩ := ho6.form; rw [List.length_append] at hr6; simp only [List.length_append]) | (go_simp; (first | (go_at_call 67; (with_reducible refine (c_rGet A5 8 _ (openS key b) _ (by first | exact s5 | exact s5a) (by decide)).mono ?_); rintro e w' ⟨rfl, rfl⟩; rw [HG8.out]) | (go_at_call 67; (with_reducible refine (c_rGet A5 8 _ (openS key b) _ s5b (by decide)).mono ?_); rintro e w' ⟨rfl, rfl⟩; rw [HG8.out]) | (go_at_call 68; (with_reducible refine (c_rSum A6 _ c6 (H ++ openP key b) _ hr6 (by rw [← List.length_append]; exact hhp)).mono ?_); rintro e w' ⟨rfl, rfl⟩; rw [HSUM.out]) | skip))); refine hK _ _ ?_ ?_; (exact trivial); clear hK; try simp only [Act.put, List.setIfInBounds_toArray, List.set_cons_zero, List.set_cons_succ])); (first | (apply linN_pass (wayB _) (wayB _); (simp only [List.getElem?_toArray, List.getElem?_cons_succ, List.getElem?_cons_zero]; rfl); (rfl); try simp only [Act.put, List.setIfInBounds_toArray, List.set_cons_zero, List.set_cons_succ]) | (apply linN_op; (simp only [List.getElem?_toArray, List.getElem?_cons_succ, List.getElem?_cons_zero]; rfl); (rfl); intro K hK; (first | (refine wp_cat (w0 := w3.drew) (m := 12) _ _ 24 rfl w3.drew.heap.size 5 Try.underlying24 info_u8 (own_empty w3.drew 5) (by first | rfl | (go_simp; rfl)) l1 (by first | rfl | (go_simp; rfl)) (below_alloc (Below.refl w3.drew.heap.size w3.drew) _) (below_alloc (Below.refl w3.drew.heap.size w3.drew) _).size hm1 ?_; intro v5 w5 ho5 hbb5 hg5 hv5; rw [List.nil_append] at ho5; have s45 := Rd.below (show Rd w3.drew _ _ _ from s4') hbb5 (Nat.le_refl _)) | (refine wp_cat (w0 := w3.drew) (m := (openP key b).length) _ _ 24 rfl w3.drew.heap.size 5 Try.underlying24 info_u8 ho5 (by first | rfl | (go_simp; rfl)) s45 (by first | rfl | (go_simp; rfl)) hbb5 hbb5.size hm2 ?_; intro v6 w6 ho6 hbb6 hg6 hv6; obtain ⟨A6, c6, rfl, lc6, -, hr6⟩ := ho6.form; rw [List.length_append] at hr6; simp only [List.length_append]) | (go_simp; (first | (go_at_call 67; (with_reducible refine (c_rGet A5 8 _ (openS key b) _ (by first | exact s5 | exact s5a) (by decide)).mono ?_); rintro e w' ⟨rfl, rfl⟩; rw [HG8.out]) | (go_at_call 67; (with_reducible refine (c_rGet A5 8 _ (openS key b) _ s5b (by decide)).mono ?_); rintro e w' ⟨rfl, rfl⟩; rw [HG8.out]) | (go_at_call 68; (with_reducible refine (c_rSum A6 _ c6 (H ++ openP key b) _ hr6 (by rw [← List.length_append]; exact hhp)).mono ?_); rintro e w' ⟨rfl, rfl⟩; rw [HSUM.out]) | skip))); refine hK _ _ ?_ ?_; (exact trivial); clear hK; try simp only [Act.put, List.setIfInBounds_toArray, List.set_cons_zero, List.set_cons_succ])); (first | (apply linN_pass (wayB _) (wayB _); (simp only [List.getElem?_toArray, List.getElem?_cons_succ, List.getElem?_cons_zero]; rfl); (rfl); try simp only [Act.put, List.setIfInBounds_toArray, List.set_cons_zero, List.set_cons_succ]) | (apply linN_op; (simp only [List.getElem?_toArray, List.getElem?_cons_succ, List.getElem?_cons_zero]; rfl); (rfl); intro K hK; (first | (refine wp_cat (w0 := w3.drew) (m := 12) _ _ 24 rfl w3.drew.heap.size 5 Try.underlying24 info_u8 (own_empty w3.drew 5) (by first | rfl | (go_simp; rfl)) l1 (by first | rfl | (go_simp; rfl)) (below_alloc (Below.refl w3.drew.heap.size w3.drew) _) (below_alloc (Below.refl w3.drew.heap.size w3.drew) _).size hm1 ?_; intro v5 w5 ho5 hbb5 hg5 hv5; rw [List.nil_append] at ho5; have s45 := Rd.below (show Rd w3.drew _ _ _ from s4') hbb5 (Nat.le_refl _)) | (refine wp_cat (w0 := w3.drew) (m := (openP key b).length) _ _ 24 rfl w3.drew.heap.size 5 Try.underlying24 info_u8 ho5 (by first | rfl | (go_simp; rfl)) s45 (by first | rfl | (go_simp; rfl)) hbb5 hbb5.size hm2 ?_; intro v6 w6 ho6 hbb6 hg6 hv6; obtain ⟨A6, c6, rfl, lc6, -, hr6⟩ := ho6.form; rw [List.length_append] at hr6; simp only [List.length_append]) | (go_simp; (first | (go_at_call 67; (with_reducible refine (c_rGet A5 8 _ (openS key b) _ (by first | exact s5 | exact s5a) (by decide)).mono ?_); rintro e w' ⟨rfl, rfl⟩; rw [HG8.out]) | (go_at_call 67; (with_reducible refine (c_rGet A5 8 _ (openS key b) _ s5b (by decide)).mono ?_); rintro e w' ⟨rfl, rfl⟩; rw [HG8.out]) | (go_at_call 68; (with_reducible refine (c_rSum A6 _ c6 (H ++ openP key b) _ hr6 (by rw [← List.length_append]; exact hhp)).mono ?_); rintro e w' ⟨rfl, rfl⟩; rw [HSUM.out]) | skip))); refine hK _ _ ?_ ?_; (exact trivial); clear hK; try simp only [Act.put, List.setIfInBounds_toArray, List.set_cons_zero, List.set_cons_succ])); (first | (apply linN_pass (wayB _) (wayB _); (simp only [List.getElem?_toArray, List.getElem?_cons_succ, List.getElem?_cons_zero]; rfl); (rfl); try simp only [Act.put, List.setIfInBounds_toArray, List.set_cons_zero, List.set_cons_succ]) | (apply linN_op; (simp only [List.getElem?_toArray, List.getElem?_cons_succ, List.getElem?_cons_zero]; rfl); (rfl); intro K hK; (first | (refine wp_cat (w0 := w3.drew) (m := 12) _ _ 24 rfl w3.drew.heap.size 5 Try.underlying24 info_u8 (own_empty w3.drew 5) (by first | rfl | (go_simp; rfl)) l1 (by first | rfl | (go_simp; rfl)) (below_alloc (Below.refl w3.drew.heap.size w3.drew) _) (below_alloc (Below.refl w3.drew.heap.size w3.drew) _).size hm1 ?_; intro v5 w5 ho5 hbb5 hg5 hv5; rw [List.nil_append] at ho5; have s45 := Rd.below (show Rd w3.drew _ _ _ from s4') hbb5 (Nat.le_refl _)) | (refine wp_cat (w0 := w3.drew) (m := (openP key b).length) _ _ 24 rfl w3.drew.heap.size 5 Try.underlying24 info_u8 ho5 (by first | rfl | (go_simp; rfl)) s45 (by first | rfl | (go_simp; rfl)) hbb5 hbb5.size hm2 ?_; intro v6 w6 ho6 hbb6 hg6 hv6; obtain ⟨A6, c6, rfl, lc6, -, hr6⟩ := ho6.form; rw [List.length_append] at hr6; simp only [List.length_append]) | (go_simp; (first | (go_at_call 67; (with_reducible refine (c_rGet A5 8 _ (openS key b) _ (by first | exact s5 | exact s5a) (by decide)).mono ?_); rintro e w' ⟨rfl, rfl⟩; rw [HG8.out]) | (go_at_call 67; (with_reducible refine (c_rGet A5 8 _ (openS key b) _ s5b (by decide)).mono ?_); rintro e w' ⟨rfl, rfl⟩; rw [HG8.out]) | (go_at_call 68; (with_reducible refine (c_rSum A6 _ c6 (H ++ openP key b) _ hr6 (by rw [← List.length_append]; exact hhp)).mono ?_); rintro e w' ⟨rfl, rfl⟩; rw [HSUM.out]) | skip))); refine hK _ _ ?_ ?_; (exact trivial); clear hK; try simp only [Act.put, List.setIfInBounds_toArray, List.set_cons_zero, List.set_cons_succ])); (first | (apply linN_pass (wayB _) (wayB _); (simp only [List.getElem?_toArray, List.getElem?_cons_succ, List.getElem?_cons_zero]; rfl); (rfl); try simp only [Act.put, List.setIfInBounds_toArray, List.set_cons_zero, List.set_cons_succ]) | (apply linN_op; (simp only [List.getElem?_toArray, List.getElem?_cons_succ, List.getElem?_cons_zero]; rfl); (rfl); intro K hK; (first | (refine wp_cat (w0 := w3.drew) (m := 12) _ _ 24 rfl w3.drew.heap.size 5 Try.underlying24 info_u8 (own_empty w3.drew 5) (by first | rfl | (go_simp; rfl)) l1 (by first | rfl | (go_simp; rfl)) (below_alloc (Below.refl w3.drew.heap.size w3.drew) _) (below_alloc (Below.refl w3.drew.heap.size w3.drew) _).size hm1 ?_; intro v5 w5 ho5 hbb5 hg5 hv5; rw [List.nil_append] at ho5; have s45 := Rd.below (show Rd w3.drew _ _ _ from s4') hbb5 (Nat.le_refl _)) | (refine wp_cat (w0 := w3.drew) (m := (openP key b).length) _ _ 24 rfl w3.drew.heap.size 5 Try.underlying24 info_u8 ho5 (by first | rfl | (go_simp; rfl)) s45 (by first | rfl | (go_simp; rfl)) hbb5 hbb5.size hm2 ?_; intro v6 w6 ho6 hbb6 hg6 hv6; obtain ⟨A6, c6, rfl, lc6, -, hr6⟩ := ho6.form; rw [List.length_append] at hr6; simp only [List.length_append]) | (go_simp; (first | (go_at_call 67; (with_reducible refine (c_rGet A5 8 _ (openS key b) _ (by first | exact s5 | exact s5a) (by decide)).mono ?_); rintro e w' ⟨rfl, rfl⟩; rw [HG8.out]) | (go_at_call 67; (with_reducible refine (c_rGet A5 8 _ (openS key b) _ s5b (by decide)).mono ?_); rintro e w' ⟨rfl, rfl⟩; rw [HG8.out]) | (go_at_call 68; (with_reducible refine (c_rSum A6 _ c6 (H ++ openP key b) _ hr6 (by rw [← List.length_append]; exact hhp)).mono ?_); rintro e w' ⟨rfl, rfl⟩; rw [HSUM.out]) | skip))); refine hK _ _ ?_ ?_; (exact trivial); clear hK; try simp only [Act.put, List.setIfInBounds_toArray, List.set_cons_zero, List.set_cons_succ])); (first | (apply linN_free; (simp only [List.getElem?_toArray, List.getElem?_cons_succ, List.getElem?_cons_zero]; rfl); (rfl); (intro w'; (first | (go_simp; done) | (go_simp; with_reducible rfl) | (go_simp; go_bits; with_reducible rfl) | (go_simp; go_bits; done))); try simp only [Act.put, List.setIfInBounds_toArray, List.set_cons_zero, List.set_cons_succ]) | (apply linN_freeSkip; (simp only [List.getElem?_toArray, List.getElem?_cons_succ, List.getElem?_cons_zero]; rfl); (rfl); try simp only [Act.put, List.setIfInBounds_toArray, List.set_cons_zero, List.set_cons_succ])); (first | (apply linN_free; (simp only [List.getElem?_toArray, List.getElem?_cons_succ, List.getElem?_cons_zero]; rfl); (rfl); (intro w'; (first | (go_simp; done) | (go_simp; with_reducible rfl) | (go_simp; go_bits; with_reducible rfl) | (go_simp; go_bits; done))); try simp only [Act.put, List.setIfInBounds_toArray, List.set_cons_zero, List.set_cons_succ]) | (apply linN_freeSkip; (simp only [List.getElem?_toArray, List.getElem?_cons_succ, List.getElem?_cons_zero]; rfl); (rfl); try simp only [Act.put, List.setIfInBounds_toArray, List.set_cons_zero, List.set_cons_succ])); refine linN_end ?_)); rotate_left 1; (focus ((first | (apply passN; (simp only [List.getElem?_toArray, List.getElem?_cons_succ, List.getElem?_cons_zero]; rfl); (rfl); (exact trivial); try simp only [Act.put, List.setIfInBounds_toArray, List.set_cons_zero, List.set_cons_succ]) | (apply opN; (simp only [List.getElem?_toArray, List.getElem?_cons_succ, List.getElem?_cons_zero]; rfl); (rfl); intro K hK; (first | (refine wp_cat (w0 := w3.drew) (m := 12) _ _ 24 rfl w3.drew.heap.size 5 Try.underlying24 info_u8 (own_empty w3.drew 5) (by first | rfl | (go_simp; rfl)) l1 (by first | rfl | (go_simp; rfl)) (below_alloc (Below.refl w3.drew.heap.size w3.drew) _) (below_alloc (Below.refl w3.drew.heap.size w3.drew) _).size hm1 ?_; intro v5 w5 ho5 hbb5 hg5 hv5; rw [List.nil_append] at ho5; have s45 := Rd.below (show Rd w3.drew _ _ _ from s4') hbb5 (Nat.le_refl _)) | (refine wp_cat (w0 := w3.drew) (m := (openP key b).length) _ _ 24 rfl w3.drew.heap.size 5 Try.underlying24 info_u8 ho5 (by first | rfl | (go_simp; rfl)) s45 (by first | rfl | (go_simp; rfl)) hbb5 hbb5.size hm2 ?_; intro v6 w6 ho6 hbb6 hg6 hv6; obtain ⟨A6, c6, rfl, lc6, -, hr6⟩ := ho6.form; rw [List.length_append] at hr6; simp only [List.length_append]) | (go_simp; (first | (go_at_call 67; (with_reducible refine (c_rGet A5 8 _ (openS key b) _ (by first | exact s5 | exact s5a) (by decide)).mono ?_); rintro e w' ⟨rfl, rfl⟩; rw [HG8.out]) | (go_at_call 67; (with_reducible refine (c_rGet A5 8 _ (openS key b) _ s5b (by decide)).mono ?_); rintro e w' ⟨rfl, rfl⟩; rw [HG8.out]) | (go_at_call 68; (with_reducible refine (c_rSum A6 _ c6 (H ++ openP key b) _ hr6 (by rw [← List.length_append]; exact hhp)).mono ?_); rintro e w' ⟨rfl, rfl⟩; rw [HSUM.out]) | skip))); refine hK _ _ ?_ ?_; (exact trivial); clear hK; try simp only [Act.put, List.setIfInBounds_toArray, List.set_cons_zero, List.set_cons_succ])); (first | (apply linN_pass (wayB _) (wayB _); (simp only [List.getElem?_toArray, List.getElem?_cons_succ, List.getElem?_cons_zero]; rfl); (rfl); try simp only [Act.put, List.setIfInBounds_toArray, List.set_cons_zero, List.set_cons_succ]) | (apply linN_op; (simp only [List.getElem?_toArray, List.getElem?_cons_succ, List.getElem?_cons_zero]; rfl); (rfl); intro K hK; (first | (refine wp_cat (w0 := w3.drew) (m := 12) _ _ 24 rfl w3.drew.heap.size 5 Try.underlying24 info_u8 (own_empty w3.drew 5) (by first | rfl | (go_simp; rfl)) l1 (by first | rfl | (go_simp; rfl)) (below_alloc (Below.refl w3.drew.heap.size w3.drew) _) (below_alloc (Below.refl w3.drew.heap.size w3.drew) _).size hm1 ?_; intro v5 w5 ho5 hbb5 hg5 hv5; rw [List.nil_append] at ho5; have s45 := Rd.below (show Rd w3.drew _ _ _ from s4') hbb5 (Nat.le_refl _)) | (refine wp_cat (w0 := w3.drew) (m := (openP key b).length) _ _ 24 rfl w3.drew.heap.size 5 Try.underlying24 info_u8 ho5 (by first | rfl | (go_simp; rfl)) s45 (by first | rfl | (go_simp; rfl)) hbb5 hbb5.size hm2 ?_; intro v6 w6 ho6 hbb6 hg6 hv6; obtain ⟨A6, c6, rfl, lc6, -, hr6⟩ := ho6.form; rw [List.length_append] at hr6; simp only [List.length_append]) | (go_simp; (first | (go_at_call 67; (with_reducible refine (c_rGet A5 8 _ (openS key b) _ (by first | exact s5 | exact s5a) (by decide)).mono ?_); rintro e w' ⟨rfl, rfl⟩; rw [HG8.out]) | (go_at_call 67; (with_reducible refine (c_rGet A5 8 _ (openS key b) _ s5b (by decide)).mono ?_); rintro e w' ⟨rfl, rfl⟩; rw [HG8.out]) | (go_at_call 68; (with_reducible refine (c_rSum A6 _ c6 (H ++ openP key b) _ hr6 (by rw [← List.length_append]; exact hhp)).mono ?_); rintro e w' ⟨rfl, rfl⟩; rw [HSUM.out]) | skip))); refine hK _ _ ?_ ?_; (exact trivial); clear hK; try simp only [Act.put, List.setIfInBounds_toArray, List.set_cons_zero, List.set_cons_succ])); (first | (apply linN_pass (wayB _) (wayB _); (simp only [List.getElem?_toArray, List.getElem?_cons_succ, List.getElem?_cons_zero]; rfl); (rfl); try simp only [Act.put, List.setIfInBounds_toArray, List.set_cons_zero, List.set_cons_succ]) | (apply linN_op; (simp only [List.getElem?_toArray, List.getElem?_cons_succ, List.getElem?_cons_zero]; rfl); (rfl); intro K hK; (first | (refine wp_cat (w0 := w3.drew) (m := 12) _ _ 24 rfl w3.drew.heap.size 5 Try.underlying24 info_u8 (own_empty w3.drew 5) (by first | rfl | (go_simp; rfl)) l1 (by first | rfl | (go_simp; rfl)) (below_alloc (Below.refl w3.drew.heap.size w3.drew) _) (below_alloc (Below.refl w3.drew.heap.size w3.drew) _).size hm1 ?_; intro v5 w5 ho5 hbb5 hg5 hv5; rw [List.nil_append] at ho5; have s45 := Rd.below (show Rd w3.drew _ _ _ from s4') hbb5 (Nat.le_refl _)) | (refine wp_cat (w0 := w3.drew) (m := (openP key b).length) _ _ 24 rfl w3.drew.heap.size 5 Try.underlying24 info_u8 ho5 (by first | rfl | (go_simp; rfl)) s45 (by first | rfl | (go_simp; rfl)) hbb5 hbb5.size hm2 ?_; intro v6 w6 ho6 hbb6 hg6 hv6; obtain ⟨A6, c6, rfl, lc6, -, hr6⟩ := ho6.form; rw [List.length_append] at hr6; simp only [List.length_append]) | (go_simp; (first | (go_at_call 67; (with_reducible refine (c_rGet A5 8 _ (openS key b) _ (by first | exact s5 | exact s5a) (by decide)).mono ?_); rintro e w' ⟨rfl, rfl⟩; rw [HG8.out]) | (go_at_call 67; (with_reducible refine (c_rGet A5 8 _ (openS key b) _ s5b (by decide)).mono ?_); rintro e w' ⟨rfl, rfl⟩; rw [HG8.out]) | (go_at_call 68; (with_reducible refine (c_rSum A6 _ c6 (H ++ openP key b) _ hr6 (by rw [← List.length_append]; exact hhp)).mono ?_); rintro e w' ⟨rfl, rfl⟩; rw [HSUM.out]) | skip))); refine hK _ _ ?_ ?_; (exact trivial); clear hK; try simp only [Act.put, List.setIfInBounds_toArray, List.set_cons_zero, List.set_cons_succ])); (first | (apply linN_pass (wayB _) (wayB _); (simp only [List.getElem?_toArray, List.getElem?_cons_succ, List.getElem?_cons_zero]; rfl); (rfl); try simp only [Act.put, List.setIfInBounds_toArray, List.set_cons_zero, List.set_cons_succ]) | (apply linN_op; (simp only [List.getElem?_toArray, List.getElem?_cons_succ, List.getElem?_cons_zero]; rfl); (rfl); intro K hK; (first | (refine wp_cat (w0 := w3.drew) (m := 12) _ _ 24 rfl w3.drew.heap.size 5 Try.underlying24 info_u8 (own_empty w3.drew 5) (by first | rfl | (go_simp; rfl)) l1 (by first | rfl | (go_simp; rfl)) (below_alloc (Below.refl w3.drew.heap.size w3.drew) _) (below_alloc (Below.refl w3.drew.heap.size w3.drew) _).size hm1 ?_; intro v5 w5 ho5 hbb5 hg5 hv5; rw [List.nil_append] at ho5; have s45 := Rd.below (show Rd w3.drew _ _ _ from s4') hbb5 (Nat.le_refl _)) | (refine wp_cat (w0 := w3.drew) (m := (openP key b).length) _ _ 24 rfl w3.drew.heap.size 5 Try.underlying24 info_u8 ho5 (by first | rfl | (go_simp; rfl)) s45 (by first | rfl | (go_simp; rfl)) hbb5 hbb5.size hm2 ?_; intro v6 w6 ho6 hbb6 hg6 hv6; obtain ⟨A6, c6, rfl, lc6, -, hr6⟩ := ho6.form; rw [List.length_append] at hr6; simp only [List.length_append]) | (go_simp; (first | (go_at_call 67; (with_reducible refine (c_rGet A5 8 _ (openS key b) _ (by first | exact s5 | exact s5a) (by decide)).mono ?_); rintro e w' ⟨rfl, rfl⟩; rw [HG8.out]) | (go_at_call 67; (with_reducible refine (c_rGet A5 8 _ (openS key b) _ s5b (by decide)).mono ?_); rintro e w' ⟨rfl, rfl⟩; rw [HG8.out]) | (go_at_call 68; (with_reducible refine (c_rSum A6 _ c6 (H ++ openP key b) _ hr6 (by rw [← List.length_append]; exact hhp)).mono ?_); rintro e w' ⟨rfl, rfl⟩; rw [HSUM.out]) | skip))); refine hK _ _ ?_ ?_; (exact trivial); clear hK; try simp only [Act.put, List.setIfInBounds_toArray, List.set_cons_zero, List.set_cons_succ])); (first | (apply linN_pass (wayB _) (wayB _); (simp only [List.getElem?_toArray, List.getElem?_cons_succ, List.getElem?_cons_zero]; rfl); (rfl); try simp only [Act.put, List.setIfInBounds_toArray, List.set_cons_zero, List.set_cons_succ]) | (apply linN_op; (simp only [List.getElem?_toArray, List.getElem?_cons_succ, List.getElem?_cons_zero]; rfl); (rfl); intro K hK; (first | (refine wp_cat (w0 := w3.drew) (m := 12) _ _ 24 rfl w3.drew.heap.size 5 Try.underlying24 info_u8 (own_empty w3.drew 5) (by first | rfl | (go_simp; rfl)) l1 (by first | rfl | (go_simp; rfl)) (below_alloc (Below.refl w3.drew.heap.size w3.drew) _) (below_alloc (Below.refl w3.drew.heap.size w3.drew) _).size hm1 ?_; intro v5 w5 ho5 hbb5 hg5 hv5; rw [List.nil_append] at ho5; have s45 := Rd.below (show Rd w3.drew _ _ _ from s4') hbb5 (Nat.le_refl _)) | (refine wp_cat (w0 := w3.drew) (m := (openP key b).length) _ _ 24 rfl w3.drew.heap.size 5 Try.underlying24 info_u8 ho5 (by first | rfl | (go_simp; rfl)) s45 (by first | rfl | (go_simp; rfl)) hbb5 hbb5.size hm2 ?_; intro v6 w6 ho6 hbb6 hg6 hv6; obtain ⟨A6, c6, rfl, lc6, -, hr6⟩ := ho6.form; rw [List.length_append] at hr6; simp only [List.length_append]) | (go_simp; (first | (go_at_call 67; (with_reducible refine (c_rGet A5 8 _ (openS key b) _ (by first | exact s5 | exact s5a) (by decide)).mono ?_); rintro e w' ⟨rfl, rfl⟩; rw [HG8.out]) | (go_at_call 67; (with_reducible refine (c_rGet A5 8 _ (openS key b) _ s5b (by decide)).mono ?_); rintro e w' ⟨rfl, rfl⟩; rw [HG8.out]) | (go_at_call 68; (with_reducible refine (c_rSum A6 _ c6 (H ++ openP key b) _ hr6 (by rw [← List.length_append]; exact hhp)).mono ?_); rintro e w' ⟨rfl, rfl⟩; rw [HSUM.out]) | skip))); refine hK _ _ ?_ ?_; (exact trivial); clear hK; try simp only [Act.put, List.setIfInBounds_toArray, List.set_cons_zero, List.set_cons_succ])); (first | (apply linN_free; (simp only [List.getElem?_toArray, List.getElem?_cons_succ, List.getElem?_cons_zero]; rfl); (rfl); (intro w'; (first | (go_simp; done) | (go_simp; with_reducible rfl) | (go_simp; go_bits; with_reducible rfl) | (go_simp; go_bits; done))); try simp only [Act.put, List.setIfInBounds_toArray, List.set_cons_zero, List.set_cons_succ]) | (apply linN_freeSkip; (simp only [List.getElem?_toArray, List.getElem?_cons_succ, List.getElem?_cons_zero]; rfl); (rfl); try simp only [Act.put, List.setIfInBounds_toArray, List.set_cons_zero, List.set_cons_succ])); (first | (apply linN_free; (simp only [List.getElem?_toArray, List.getElem?_cons_succ, List.getElem?_cons_zero]; rfl); (rfl); (intro w'; (first | (go_simp; done) | (go_simp; with_reducible rfl) | (go_simp; go_bits; with_reducible rfl) | (go_simp; go_bits; done))); try simp only [Act.put, List.setIfInBounds_toArray, List.set_cons_zero, List.set_cons_succ]) | (apply linN_freeSkip; (simp only [List.getElem?_toArray, List.getElem?_cons_succ, List.getElem?_cons_zero]; rfl); (rfl); try simp only [Act.put, List.setIfInBounds_toArray, List.set_cons_zero, List.set_cons_succ])); refine linN_end ?_)); rotate_right 1)
        all_goals
          have y1 : RdB w6.drew _ 4 _ := x1.below (below_drew hbb6) (Nat.le_refl _)
          have y2 : RdB w6.drew _ 8 _ := x2.below (below_drew hbb6) (Nat.le_refl _)
          have hfo := ho3'.below hbb6
          have hB6 := hB3.trans (hbb6.mono hle4)
          clear x1 x2 hbb6 hbb5 ho3' hB3 hr6 ho6 hg6 hv6 ho5 hg5 hv5 s45 s5 s5a s5b s4' l1 q8 hE hbE HSUM HG8
          go_upto_region 12 with fail
          (refine wp_region_linN (Below w6.heap.size) (Below w6.heap.size) (wayB _) (wayB _) (fun _ _ h => h) (.free 0 (.free 1 (.free 4 (.op 2 [] [] [] (.hot 3 (.op 5 [] [3] [] (.free 6 (.free 7 (.free 8 (.free 9 .nil)))))))))) rfl (by kernel_rfl) (by kernel_rfl) (fun _ _ _ _ _ h => h) ?_; (first | (apply linN_free; (simp only [List.getElem?_toArray, List.getElem?_cons_succ, List.getElem?_cons_zero]; rfl); (rfl); (intro w'; (first | (go_simp; done) | (go_simp; with_reducible rfl) | (go_simp; go_bits; with_reducible rfl) | (go_simp; go_bits; done))); try simp only [Act.put, List.setIfInBounds_toArray, List.set_cons_zero, List.set_cons_succ]) | (apply linN_freeSkip; (simp only [List.getElem?_toArray, List.getElem?_cons_succ, List.getElem?_cons_zero]; rfl); (rfl); try simp only [Act.put, List.setIfInBounds_toArray, List.set_cons_zero, List.set_cons_succ])); (first | (apply linN_free; (simp only [List.getElem?_toArray, List.getElem?_cons_succ, List.getElem?_cons_zero]; rfl); (rfl); (intro w'; (first | (go_simp; done) | (go_simp; with_reducible rfl) | (go_simp; go_bits; with_reducible rfl) | (go_simp; go_bits; done))); try simp only [Act.put, List.setIfInBounds_toArray, List.set_cons_zero, List.set_cons_succ]) | (apply linN_freeSkip; (simp only [List.getElem?_toArray, List.getElem?_cons_succ, List.getElem?_cons_zero]; rfl); (rfl); try simp only [Act.put, List.setIfInBounds_toArray, List.set_cons_zero, List.set_cons_succ])); (first | (apply linN_free; (simp only [List.getElem?_toArray, List.getElem?_cons_succ, List.getElem?_cons_zero]; rfl); (rfl); (intro w'; (first | (go_simp; done) | (go_simp; with_reducible rfl) | (go_simp; go_bits; with_reducible rfl) | (go_simp; go_bits; done))); try simp only [Act.put, List.setIfInBounds_toArray, List.set_cons_zero, List.set_cons_succ]) | (apply linN_freeSkip; (simp only [List.getElem?_toArray, List.getElem?_cons_succ, List.getElem?_cons_zero]; rfl); (rfl); try simp only [Act.put, List.setIfInBounds_toArray, List.set_cons_zero, List.set_cons_succ])); (first | (apply linN_pass (wayB _) (wayB _); (simp only [List.getElem?_toArray, List.getElem?_cons_succ, List.getElem?_cons_zero]; rfl); (rfl); try simp only [Act.put, List.setIfInBounds_toArray, List.set_cons_zero, List.set_cons_succ]) | (apply linN_op; (simp only [List.getElem?_toArray, List.getElem?_cons_succ, List.getElem?_cons_zero]; rfl); (rfl); intro K hK; (first | (go_simp; (first | (go_at_call 67; (with_reducible refine (c_rGet _ 4 12 (H.take 4) _ y1 (by decide)).mono ?_); rintro e w' ⟨rfl, rfl⟩; rw [HBO.out]) | (go_at_call 67; (with_reducible refine (c_rGet _ 8 8 (H.drop 4) _ y2 (by decide)).mono ?_); rintro e w' ⟨rfl, rfl⟩; rw [HSQ.out]) | skip))); refine hK _ _ ?_ ?_; (exact trivial); clear hK; try simp only [Act.put, List.setIfInBounds_toArray, List.set_cons_zero, List.set_cons_succ])); (first | (apply linN_hot; (simp only [List.getElem?_toArray, List.getElem?_cons_succ, List.getElem?_cons_zero]; rfl); (rfl); (intro w' hb'; (first | (go_simp; done) | (go_simp; with_reducible rfl) | (go_simp; go_bits; with_reducible rfl) | (go_simp; go_bits; done))); try simp only [Act.put, List.setIfInBounds_toArray, List.set_cons_zero, List.set_cons_succ]) | (apply linN_hotSkip; (simp only [List.getElem?_toArray, List.getElem?_cons_succ, List.getElem?_cons_zero]; rfl); (rfl); try simp only [Act.put, List.setIfInBounds_toArray, List.set_cons_zero, List.set_cons_succ])); (first | (apply linN_pass (wayB _) (wayB _); (simp only [List.getElem?_toArray, List.getElem?_cons_succ, List.getElem?_cons_zero]; rfl); (rfl); try simp only [Act.put, List.setIfInBounds_toArray, List.set_cons_zero, List.set_cons_succ]) | (apply linN_op; (simp only [List.getElem?_toArray, List.getElem?_cons_succ, List.getElem?_cons_zero]; rfl); (rfl); intro K hK; (first | (go_simp; (first | (go_at_call 67; (with_reducible refine (c_rGet _ 4 12 (H.take 4) _ y1 (by decide)).mono ?_); rintro e w' ⟨rfl, rfl⟩; rw [HBO.out]) | (go_at_call 67; (with_reducible refine (c_rGet _ 8 8 (H.drop 4) _ y2 (by decide)).mono ?_); rintro e w' ⟨rfl, rfl⟩; rw [HSQ.out]) | skip))); refine hK _ _ ?_ ?_; (show (Below w6.heap.size) _ _; (first | exact hdr2 | assumption | exact (wayB _).refl _ | exact (wayB _).refl _ | exact Below.refl _ _ | exact ⟨rfl, rfl, rfl, Nat.le_refl _, fun _ _ => rfl⟩ | exact but_set _ _ _ _ _ | exact but_drew (but_set _ _ _ _ _) | exact but_upd (by assumption) | exact but_below (by assumption) | exact belowB_alloc (by first | omega | (simp; done) | (simp; omega)) _ | exact belowB_mono (by first | omega | (simp; done) | (simp; omega)) (by assumption) | (first | exact rg_alloc (by simp; omega) (by simp; omega) _ | exact FR.of_below (below_alloc (Below.refl _ _) _) (by first | assumption | (simp; omega)) | exact DR.of_below (below_alloc (Below.refl _ _) _) (by first | assumption | (simp; omega))))); clear hK; try simp only [Act.put, List.setIfInBounds_toArray, List.set_cons_zero, List.set_cons_succ])); (first | (apply linN_free; (simp only [List.getElem?_toArray, List.getElem?_cons_succ, List.getElem?_cons_zero]; rfl); (rfl); (intro w'; (first | (go_simp; done) | (go_simp; with_reducible rfl) | (go_simp; go_bits; with_reducible rfl) | (go_simp; go_bits; done))); try simp only [Act.put, List.setIfInBounds_toArray, List.set_cons_zero, List.set_cons_succ]) | (apply linN_freeSkip; (simp only [List.getElem?_toArray, List.getElem?_cons_succ, List.getElem?_cons_zero]; rfl); (rfl); try simp only [Act.put, List.setIfInBounds_toArray, List.set_cons_zero, List.set_cons_succ])); (first | (apply linN_free; (simp only [List.getElem?_toArray, List.getElem?_cons_succ, List.getElem?_cons_zero]; rfl); (rfl); (intro w'; (first | (go_simp; done) | (go_simp; with_reducible rfl) | (go_simp; go_bits; with_reducible rfl) | (go_simp; go_bits; done))); try simp only [Act.put, List.setIfInBounds_toArray, List.set_cons_zero, List.set_cons_succ]) | (apply linN_freeSkip; (simp only [List.getElem?_toArray, List.getElem?_cons_succ, List.getElem?_cons_zero]; rfl); (rfl); try simp only [Act.put, List.setIfInBounds_toArray, List.set_cons_zero, List.set_cons_succ])); (first | (apply linN_free; (simp only [List.getElem?_toArray, List.getElem?_cons_succ, List.getElem?_cons_zero]; rfl); (rfl); (intro w'; (first | (go_simp; done) | (go_simp; with_reducible rfl) | (go_simp; go_bits; with_reducible rfl) | (go_simp; go_bits; done))); try simp only [Act.put, List.setIfInBounds_toArray, List.set_cons_zero, List.set_cons_succ]) | (apply linN_freeSkip; (simp only [List.getElem?_toArray, List.getElem?_cons_succ, List.getElem?_cons_zero]; rfl); (rfl); try simp only [Act.put, List.setIfInBounds_toArray, List.set_cons_zero, List.set_cons_succ])); (first | (apply linN_free; (simp only [List.getElem?_toArray, List.getElem?_cons_succ, List.getElem?_cons_zero]; rfl); (rfl); (intro w'; (first | (go_simp; done) | (go_simp; with_reducible rfl) | (go_simp; go_bits; with_reducible rfl) | (go_simp; go_bits; done))); try simp only [Act.put, List.setIfInBounds_toArray, List.set_cons_zero, List.set_cons_succ]) | (apply linN_freeSkip; (simp only [List.getElem?_toArray, List.getElem?_cons_succ, List.getElem?_cons_zero]; rfl); (rfl); try simp only [Act.put, List.setIfInBounds_toArray, List.set_cons_zero, List.set_cons_succ])); refine linN_end ?_)
          go_wp2
          refine bodyPost_ret (v := .tuple #[v3, .int .u32 (bo : Int), .int .u64 (sq : Int), .bool true]) (by simp [results, Try.results23]) rfl ⟨HR2.out _ hfo, below_drew hB6⟩
end Go.Proofs.Ytmdmhjcdaejlkaa
