/- dumbwaiterref6.Garbled. -/
import Derived.Test.YtmdmhjcdaejlkaaBlank10
set_option linter.unusedVariables false
set_option linter.unusedSimpArgs false
namespace Go.Proofs.Ytmdmhjcdaejlkaa
open Go.RowKit

set_option maxHeartbeats 4000000 in
set_option maxRecDepth 100000 in
theorem c_garbled (A : Option Addr) (n c : Nat) (xb : List UInt8) (w : World) (hR : RdB w A n xb) (hn : n ≤ 100000) :
    Calls Try.prog 78 #[.slice A n c] w fun e w' => ∃ v, e = .returned v ∧ OwnB w' w.heap.size 5 v (garL xb) ∧ Below w.heap.size w w' := by
  have hl := hR.len
  have h0 : OwnB (w.alloc (.cells #[] 5)) w.heap.size 5 (.slice (some ⟨w.heap.size, 0, none⟩) 0 0) [] := row_own (B := w.heap.size) (Row.new w #[] 5) rfl (Nat.le_refl _) (by decide)
  have hb0 := below_alloc (Below.refl w.heap.size w) (.cells #[] 5)
  have hR0 := hR.below hb0 (Nat.le_refl _)
  go_enter Try.func78, Try.ntmps78
  go_upto_region 2 with (at_builtin; refine wpl_cat (w0 := w) rfl _ _ 24 rfl w.heap.size 5 Try.underlying24 info_u8 h0 rfl hR0 rfl hb0 hb0.size (by simp; omega) ?_; intro v1 w1 ho1 hb1 _ _; try simp only [Act.put])
  rw [List.nil_append] at ho1
  obtain ⟨A4, c4, rfl, -⟩ := ho1.form
  have hlx2 : (xb.length : Int) ≤ 100000 := by omega
  clear h0 hb0 hR0 hR
  go_wp2_with fail
  go_loopw [4] (fun i wq => ∃ k : Nat, k ≤ xb.length ∧ i = .int .i64 (k : Int) ∧ OwnB wq w.heap.size 5 (.slice A4 xb.length c4) (garL (xb.take k) ++ xb.drop k) ∧ Below w.heap.size w wq) (fun i _ => xb.length - (intOf i).toNat)
  case atStart => exact ⟨0, Nat.zero_le _, rfl, by simpa [garL] using ho1, hb1⟩
  case round =>
    obtain ⟨k, hk0, rfl, ho5, hb5⟩ := hrel
    have hll : (garL (xb.take k) ++ xb.drop k).length = xb.length := by rw [List.length_append, garL_length, List.length_take, List.length_drop]; omega
    clear ho1 hb1
    by_cases hkl : k < xb.length
    · obtain ⟨g4, rfl, hg4, -⟩ := ho5.at_ (by omega)
      obtain ⟨ce, fz⟩ := ho5.cell (k := k) (by omega)
      rw [garble_at xb k hkl] at ce
      have hset := ho5.set (k := k) (by omega) (xb[k] ^^^ 165)
      rw [c_garble_step xb k hkl] at hset
      have hxr := xor165 xb[k]
      generalize xb[k] ^^^ 165 = y at *
      generalize xb[k] = x0 at *
      have hx0 : 0 ≤ (x0.toNat : Int) ∧ (x0.toNat : Int) < 256 := by have := x0.toNat_lt; omega
      obtain ⟨hx0, hx1⟩ := hx0
      have hkl2 : (k : Int) < (xb.length : Int) := by omega
      clear ho5 hll
      go_wp2_with fail
      go_roundw
      case rel => exact ⟨k + 1, by omega, by go_num, hset, hb5.setCell (by omega) _⟩
      case measure => simp [intOf]; omega
    · obtain rfl : k = xb.length := by omega
      rw [List.take_length, List.drop_length, List.append_nil] at ho5
      clear hll hkl
      go_wp2_with fail
      go_ret
      exact ⟨_, rfl, ho5, hb5⟩
end Go.Proofs.Ytmdmhjcdaejlkaa
