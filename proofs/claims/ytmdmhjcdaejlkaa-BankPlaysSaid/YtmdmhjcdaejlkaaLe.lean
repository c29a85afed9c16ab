/- The walks of le.Get, le.Put and their kin of the reference: what they answer, as lists of bytes. -/
import Derived.Test.YtmdmhjcdaejlkaaProg
import Derived.Test.YtmdmhjcdaejlkaaMem
import Derived.Test.YtmdmhjcdaejlkaaLeP
set_option linter.unusedVariables false
set_option linter.unusedSimpArgs false
namespace Go.Proofs.Ytmdmhjcdaejlkaa
open Go.RowKit

theorem ret_int {k : IntKind} {a b : Int} (h : a = b) : Ending.returned (.int k a) = .returned (.int k b) := by rw [h]
theorem info_u8 : (Try.prog.info? 5).map (fun i => (i.zero, i.size, i.bytes)) = some (some (.int .u8 0), 1, 1) := by kernel_rfl

theorem or64 (x : Nat) (b : UInt8) (h : x * 256 + b.toNat < 18446744073709551616) :
    bits BinOp.or IntKind.u64 (IntKind.u64.wrap ((x : Int) * 256)) (IntKind.u64.wrap (b.toNat : Int)) = ((x * 256 + b.toNat : Nat) : Int) := by
  have hb := b.toNat_lt
  have e1 := IntWalk.u64_in ((x : Int) * 256) ⟨by omega, by omega⟩
  have e2 := IntWalk.u64_in (b.toNat : Int) ⟨by omega, by omega⟩
  have e3 : ((x : Int) * 256) = ((x * 256 : Nat) : Int) := by omega
  have h1 : x * 256 < 18446744073709551616 := Nat.lt_of_le_of_lt (Nat.le_add_right _ _) h
  have h2 : b.toNat < 18446744073709551616 := Nat.lt_of_le_of_lt (Nat.le_add_left _ _) h
  rw [e1, e2, e3, u64_or_nat (x * 256) b.toNat h1 h2, or_byte]

theorem get_step (xs : List UInt8) (j : Nat) (h : j < xs.length) : leN (xs.drop j) = leN (xs.drop (j + 1)) * 256 + (xs[j]?.getD 0).toNat := by
  rw [List.drop_eq_getElem_cons h, leN_cons, List.getElem?_eq_getElem h]; rfl

set_option maxHeartbeats 400000 in
theorem c_leGet (A : Option Addr) (n c : Nat) (xs : List UInt8) (w : World) (hR : RdB w A n xs) (hm : n ≤ maxLen) :
    Calls Try.prog 71 #[.slice A n c] w fun e w' => e = .returned (.int .u64 (leN (xs.take 8) : Nat)) ∧ w = w' := by
  unfold maxLen at hm
  have hl := RdB.len hR
  go_enter Try.func71, Try.ntmps71
  go_wp2
  all_goals
    go_loop [3, 4] (fun o i => ∃ k : Nat, k ≤ min n 8 ∧ i = .int .i64 ((k : Int) - 1) ∧ o = .int .u64 (leN ((xs.take 8).drop k) : Nat)) (fun _ i => (intOf i + 1).toNat)
    case atStart =>
      refine ⟨min n 8, by omega, ?_, ?_⟩
      · congr 1; try omega
      · rw [List.drop_eq_nil_of_le (by rw [List.length_take]; omega)]; rfl
    case round =>
      obtain ⟨k, hk, rfl, rfl⟩ := hrel
      by_cases h0 : k = 0
      · subst h0
        go_wp2
        go_ret
        exact ⟨rfl, rfl⟩
      · obtain ⟨j, rfl⟩ : ∃ j, k = j + 1 := ⟨k - 1, by omega⟩
        obtain ⟨ad, rfl, hc⟩ := RdB.at_ hR (j := j) (by omega)
        have e0 : ((j + 1 : Nat) : Int) - 1 = j := by omega
        simp only [e0]
        have hj : j < (xs.take 8).length := by rw [List.length_take]; omega
        have hs := get_step (xs.take 8) j hj
        have he : (xs.take 8)[j]? = xs[j]? := by rw [List.getElem?_take]; rw [if_pos (by omega)]
        rw [he] at hs
        have hlt : leN ((xs.take 8).drop j) < 18446744073709551616 := leN_lt64 _ (by rw [List.length_drop, List.length_take]; omega)
        rw [hs] at hlt
        have HO := or64 _ _ hlt
        rw [← hs] at HO
        have HH : Hid (bits BinOp.or IntKind.u64 (IntKind.u64.wrap ((leN ((xs.take 8).drop (j + 1)) : Nat) * 256 : Int)) (IntKind.u64.wrap ((xs[j]?.getD 0).toNat : Int)) = ((leN ((xs.take 8).drop j) : Nat) : Int)) := HO
        clear HO hs hlt he hj e0
        go_wp2
        go_round
        case rel => exact ⟨j, by omega, rfl, by rw [HH.out]⟩
        case measure => simp [intOf]

/-- a number with i of its lowest bytes gone -/
def shN (n i : Nat) : Int := ((n / 256 ^ i : Nat) : Int)
theorem shN_zero (n : Nat) : shN n 0 = n := by simp [shN]
theorem shN_succ (n i : Nat) : shN n i / 256 = shN n (i + 1) := by
  unfold shN; rw [Nat.pow_succ, ← Nat.div_div_eq_div_mul]; omega
theorem shN_byte (n i : Nat) : shN n i % 256 = ((UInt8.ofNat (n / 256 ^ i)).toNat : Int) := by
  unfold shN; simp
theorem shN_nonneg (n i : Nat) : 0 ≤ shN n i := Int.natCast_nonneg _

set_option maxHeartbeats 400000 in
theorem c_lePut (n size : Nat) (w : World) (hs : size ≤ 8) :
    Calls Try.prog 85 #[.int .u64 (n : Int), .int .i64 (size : Int)] w fun e w' =>
      ∃ v, e = .returned v ∧ OwnB w' w.heap.size 5 v (leP n size) ∧ Below w.heap.size w w' := by
  rw [← shN_zero n]
  go_enter Try.func85, Try.ntmps85
  go_wp2
  go_loopw [0, 5, 13] (fun s0 s5 s13 wr => ∃ i : Nat, i ≤ size ∧ s0 = .int .u64 (shN n i) ∧ s13 = .int .i64 (i : Int) ∧ OwnB wr w.heap.size 5 s5 (leP n i) ∧ Below w.heap.size w wr) (fun _ _ i _ => size - (intOf i).toNat)
  case atStart => exact ⟨0, by omega, rfl, rfl, OwnB.nil_ _ _ _, Below.refl _ _⟩
  case round =>
    obtain ⟨i, hi, rfl, rfl, hown, hB⟩ := hrel
    have hle := leP_length n i
    have hle' : (leP n i).length + 1 ≤ 140737488355328 := by omega
    clear hle
    have h0 := shN_nonneg n i
    by_cases hlt : i < size
    · go_wp2_with (at_builtin; refine wpl_push (w0 := w) rfl _ _ 24 rfl w.heap.size 5 Try.underlying24 info_u8 hown (shN_byte n i) rfl rfl hB hB.size hle' ?_; intro v1 w1 hown1 hB1 _)
      go_roundw
      case rel => exact ⟨i + 1, by omega, by rw [shN_succ], by go_num, by rw [leP_snoc]; exact hown1, hB1⟩
      case measure => simp [intOf]; omega
    · have : i = size := by omega
      subst this
      go_wp2
      go_ret
      exact ⟨_, rfl, hown, hB⟩

/-! ### the reference's -/
theorem leN_take_succ (xs : List UInt8) (k : Nat) (h : k < xs.length) : leN (xs.take (k + 1)) = leN (xs.take k) + (xs[k]?.getD 0).toNat * 256 ^ k := by
  rw [List.take_succ_eq_append_getElem h, leN_append, List.getElem?_eq_getElem h, List.length_take, Nat.min_eq_left (Nat.le_of_lt h)]
  simp [leN]
theorem orsh (x k : Nat) (b : UInt8) (hx : x < 256 ^ k) (hk : k < 8) :
    bits BinOp.or IntKind.u64 (x : Int) (IntKind.u64.wrap (IntKind.u64.wrap (b.toNat : Int) * 2 ^ (8 * k))) = ((x + b.toNat * 256 ^ k : Nat) : Int) := by
  have hb := b.toNat_lt
  have hp : (256 : Nat) ^ k ≤ 256 ^ 7 := Nat.pow_le_pow_right (by decide) (by omega)
  have h256 : (256 : Nat) ^ 7 = 72057594037927936 := by decide
  have hpow : (2 : Int) ^ (8 * k) = ((256 ^ k : Nat) : Int) := by
    rw [show (2 : Int) = ((2 : Nat) : Int) from rfl, ← Int.natCast_pow, Nat.pow_mul]
  have hm : b.toNat * 256 ^ k ≤ 255 * 256 ^ k := Nat.mul_le_mul_right _ (by omega)
  rw [IntWalk.u64_in (b.toNat : Int) ⟨by omega, by omega⟩, hpow, ← Int.natCast_mul]
  have h1 : b.toNat * 256 ^ k < 18446744073709551616 := by omega
  have h2 : x < 18446744073709551616 := by omega
  rw [IntWalk.u64_in ((b.toNat * 256 ^ k : Nat) : Int) ⟨by omega, by omega⟩, u64_or_nat x (b.toNat * 256 ^ k) h2 h1]
  have hj : (b.toNat * 256 ^ k) ||| x = b.toNat * 256 ^ k + x :=
    nat_join (8 * k) _ _ (by rw [Nat.pow_mul]; simp) (by rw [Nat.pow_mul]; exact hx)
  rw [Nat.or_comm, hj, Nat.add_comm]
set_option maxHeartbeats 400000 in
theorem c_rGet (A : Option Addr) (n c : Nat) (xs : List UInt8) (w : World) (hR : RdB w A n xs) (hm : n ≤ maxLen) :
    Calls Try.prog 67 #[.slice A n c] w fun e w' => e = .returned (.int .u64 (leN (xs.take 8) : Nat)) ∧ w = w' := by
  unfold maxLen at hm
  have hl := RdB.len hR
  have HL : Hid (xs.length = n) := hl
  clear hl
  go_enter Try.func67, Try.ntmps67
  go_wp2
  go_loop [3, 4] (fun o i => ∃ k : Nat, k ≤ min n 8 ∧ i = .int .i64 (k : Int) ∧ o = .int .u64 (leN (xs.take k) : Nat)) (fun _ i => (8 - intOf i).toNat)
  case atStart => exact ⟨0, by omega, rfl, rfl⟩
  case round =>
      obtain ⟨k, hk, rfl, rfl⟩ := hrel
      by_cases h0 : k < n
      · by_cases h8 : k < 8
        · obtain ⟨ad, rfl, hc⟩ := RdB.at_ hR (j := k) (by omega)
          have HO : Hid (_ = _) := orsh (leN (xs.take k)) k (xs[k]?.getD 0) (by
            have := leN_lt (xs.take k)
            rwa [List.length_take, HL.out, Nat.min_eq_left (by omega)] at this) h8
          go_wp2
          go_round
          case rel => exact ⟨k + 1, by omega, by go_num, by rw [leN_take_succ _ _ (by rw [HL.out]; exact h0)]; exact congrArg _ HO.out⟩
          case measure => simp [intOf]; omega
        · obtain rfl : k = 8 := by omega
          go_wp2
          go_ret
          exact ⟨rfl, rfl⟩
      · obtain rfl : k = n := by omega
        have ht : xs.take 8 = xs.take k := by rw [List.take_of_length_le (by rw [HL.out]; omega), List.take_of_length_le (by rw [HL.out]; omega)]
        have HT : Hid (xs.take 8 = xs.take k) := ht
        clear ht
        go_wp2
        go_ret
        exact ⟨ret_int (by rw [HT.out]), rfl⟩
theorem sh_byte (n i : Nat) : (n : Int) / 2 ^ (8 * i) % 256 = ((UInt8.ofNat (n / 256 ^ i)).toNat : Int) := by
  have hpow : (2 : Int) ^ (8 * i) = ((256 ^ i : Nat) : Int) := by
    rw [show (2 : Int) = ((2 : Nat) : Int) from rfl, ← Int.natCast_pow, Nat.pow_mul]
  rw [hpow]; simp
set_option maxHeartbeats 400000 in
theorem c_rPut (n size : Nat) (w : World) (hs : size ≤ 8) :
    Calls Try.prog 33 #[.int .u64 (n : Int), .int .i64 (size : Int)] w fun e w' =>
      ∃ v, e = .returned v ∧ OwnB w' w.heap.size 5 v (leP n size) ∧ Below w.heap.size w w' := by
  go_enter Try.func33, Try.ntmps33
  go_wp2
  go_loopw [5, 6] (fun s5 s6 wr => ∃ i : Nat, i ≤ size ∧ s6 = .int .i64 (i : Int) ∧ OwnB wr w.heap.size 5 s5 (leP n i) ∧ Below w.heap.size w wr) (fun _ i _ => size - (intOf i).toNat)
  case atStart => exact ⟨0, by omega, rfl, OwnB.nil_ _ _ _, Below.refl _ _⟩
  case round =>
    obtain ⟨i, hi, rfl, hown, hB⟩ := hrel
    have hle := leP_length n i
    have hle' : (leP n i).length + 1 ≤ 140737488355328 := by omega
    clear hle
    by_cases hlt : i < size
    · go_wp2_with (at_builtin; refine wpl_push (w0 := w) rfl _ _ 24 rfl w.heap.size 5 Try.underlying24 info_u8 hown (sh_byte n i) rfl rfl hB hB.size hle' ?_; intro v1 w1 hown1 hB1 _)
      go_roundw
      case rel => exact ⟨i + 1, by omega, by go_num, by rw [leP_snoc]; exact hown1, hB1⟩
      case measure => simp [intOf]; omega
    · have : i = size := by omega
      subst this
      go_wp2
      go_ret
      exact ⟨_, rfl, hown, hB⟩
end Go.Proofs.Ytmdmhjcdaejlkaa
