/- The reference's Record; bytes.HasPrefix, bytes.CutPrefix; Parse, the reference's Parse. -/
import Derived.Test.YtlbpmboknmbcgaaBootB
import Derived.Test.YtlbpmboknmbcgaaZeros
import Derived.Test.YtlbpmboknmbcgaaSealA
set_option linter.unusedVariables false
set_option linter.unusedSimpArgs false
namespace Go.Proofs.Ytlbpmboknmbcgaa
open Go.RowKit

set_option maxHeartbeats 4000000 in
set_option maxRecDepth 100000 in
theorem c_rRecord (n : Nat) (hn : n < 4294967296) (w : World) :
    Calls Try.prog 50 #[.int .u32 (n : Int)] w fun e w' => ∃ v, e = .returned v ∧ OwnB w' w.heap.size 5 v (recP n) ∧ Below w.heap.size w w' := by
  have hw6 : IntKind.u64.wrap (n : Int) = (n : Int) := IntWalk.u64_in _ ⟨by omega, by omega⟩
  have hn1 : (n : Int) < 4294967296 := by omega
  have HC1 := Lib.hid (c_rPut4 n)
  have hre := recEq n
  generalize leP (sumN (leP n 4)) 8 = sb at *
  generalize sumN (leP n 4) = sm at *
  generalize leP n 4 = b at *
  go_enter Try.func50, Try.ntmps50
  go_upto_region 2 with (go_at_call 77; (with_reducible refine (HC1.out _).mono ?_); rintro e w1 ⟨A1, c1, rfl, lc1, ho1, hr1, hb1⟩)
  obtain ⟨w2, hrun, ho2, hb2⟩ := run_mkB w1 12 (by omega)
  simp only [show ((12 : Nat) : Int) = 12 from rfl] at hrun
  have hr2 := hr1.below hb2 (Nat.le_refl _)
  have hlb : b.length = 4 := hr1.len
  have hm1 : (List.replicate 12 (0 : UInt8)).length + 4 ≤ 140737488355328 := by simp
  have hm2 : (List.replicate 12 (0 : UInt8) ++ b).length + 8 ≤ 140737488355328 := by rw [List.length_append, hlb]; simp
  have HLB := Lib.hid hlb
  clear hlb HC1 ho1
  go_wp2_with (first | (at_builtin; refine wpl_cat (w0 := w1) rfl _ _ 22 rfl w1.heap.size 5 Try.underlying22 info_u8 ho2 rfl hr2 rfl hb2 hb2.size hm1 ?_; intro v3 w3 ho3 hb3 hg3 hv3) | (at_builtin; refine wpl_cat (w0 := w1) rfl _ _ 22 rfl w1.heap.size 5 Try.underlying22 info_u8 (ho3.below hb4) rfl hr4 rfl (hb3.trans (hb4.mono hb3.size)) (Nat.le_trans hb3.size hb4.size) hm2 ?_; intro v5 w5 ho5 hb5 hg5 hv5) | (go_at_call 49; (with_reducible refine (c_rSum A1 4 c1 b w3 (hr1.below hb3 (Nat.le_refl _)) (by decide)).mono ?_); rintro e w' ⟨rfl, rfl⟩; rw [hre.hs]) | (go_at_call 77; (with_reducible refine (c_rPut8 sm _).mono ?_); rintro e w4 ⟨A4, c4, rfl, lc4, ho4, hr4, hb4⟩; rw [hre.hsb] at hr4))
  go_ret
  rw [hre.rec_] at ho5
  exact ⟨_, rfl, ho5.mono hb1.size, hb1.trans (hb5.mono hb1.size)⟩
/-- bytes.HasPrefix -/
theorem c_hasPrefix (W : World) (A B : Option Addr) (n m c d : Nat) (xs ys : List UInt8) (hx : RdB W A n xs) (hy : RdB W B m ys) (hc : n ≤ c) (hm : n ≤ maxLen) (r : Bool) (hr : (decide (m ≤ n) && (xs.take m == ys)) = r) :
    Calls Try.prog 84 #[.slice A n c, .slice B m d] W fun e w' => e = .returned (.bool r) ∧ W = w' := by
  unfold maxLen at hm
  by_cases hle : m ≤ n
  · have hle2 : (m : Int) ≤ (n : Int) := by omega
    obtain ⟨A', e1, r1⟩ := cut_to hx hc (m : Int) m rfl hle
    have HE := Lib.hid (c_bytesEq W A' B m m c d (xs.take m) ys r1 hy r (by rw [← hr]; simp [hle]))
    clear hr
    go_enter Try.func84, Try.ntmps84
    go_wp2_with (go_at_call 74; (with_reducible refine HE.out.mono ?_); rintro e w' ⟨rfl, rfl⟩)
    go_ret
    exact ⟨rfl, rfl⟩
  · have hle2 : ¬ (m : Int) ≤ (n : Int) := by omega
    obtain rfl : false = r := by rw [← hr]; simp [hle]
    clear hr
    go_enter Try.func84, Try.ntmps84
    go_wp2_with fail
    go_ret
    exact ⟨rfl, rfl⟩
theorem c_cutYes (W : World) (A B : Option Addr) (n m c d : Nat) (xs ys : List UInt8) (hx : RdB W A n xs) (hy : RdB W B m ys) (hc : n ≤ c) (hm : n ≤ maxLen) (hle : m ≤ n) (he : xs.take m = ys) :
    Calls Try.prog 79 #[.slice A n c, .slice B m d] W fun e w' => (∃ A', e = .returned (.tuple #[.slice A' (n - m) (c - m), .bool true]) ∧ RdB W A' (n - m) (xs.drop m)) ∧ W = w' := by
  have HH := Lib.hid (c_hasPrefix W A B n m c d xs ys hx hy hc hm true (by simp [hle, he]))
  unfold maxLen at hm
  have hle2 : (m : Int) ≤ (n : Int) := by omega
  obtain ⟨A', e1, r1⟩ := cut_from hx hc (m : Int) m rfl hle
  clear he
  go_enter Try.func79, Try.ntmps79
  go_wp2_with (go_at_call 84; (with_reducible refine HH.out.mono ?_); rintro e w' ⟨rfl, rfl⟩)
  go_ret2
  exact ⟨⟨_, rfl, r1⟩, rfl⟩
theorem c_cutNo (W : World) (A B : Option Addr) (n m c d : Nat) (xs ys : List UInt8) (hx : RdB W A n xs) (hy : RdB W B m ys) (hc : n ≤ c) (hm : n ≤ maxLen) (h : (decide (m ≤ n) && (xs.take m == ys)) = false) :
    Calls Try.prog 79 #[.slice A n c, .slice B m d] W fun e w' => e = .returned (.tuple #[.slice A n c, .bool false]) ∧ W = w' := by
  have HH := Lib.hid (c_hasPrefix W A B n m c d xs ys hx hy hc hm false h)
  clear h
  unfold maxLen at hm
  go_enter Try.func79, Try.ntmps79
  go_wp2_with (go_at_call 84; (with_reducible refine HH.out.mono ?_); rintro e w' ⟨rfl, rfl⟩)
  go_ret2
  exact ⟨rfl, rfl⟩
end Go.Proofs.Ytlbpmboknmbcgaa
