/- Contracts of the device: block. -/
import Derived.Test.YtlbpmboknmbcgaaDiskC
import Derived.Test.YtlbpmboknmbcgaaBytes
import Derived.Lib.Hide
set_option linter.unusedVariables false
set_option linter.unusedSimpArgs false
namespace Go.Proofs.Ytlbpmboknmbcgaa
open Go.RowKit

/-- a known row, as the call's own -/
theorem row_own {W : World} {B g n : Nat} {xs : List UInt8} (h : Row W g (bv xs).toArray 5) (hl : xs.length = n) (hB : B ≤ g) (hn : n ≤ maxLen) : OwnB W B 5 (.slice (some ⟨g, 0, none⟩) n n) xs := by
  subst hl
  refine ⟨by rw [bv_length, Nat.mul_one], .inr ⟨g, xs.length, _, rfl, hB, h, Nat.le_refl _, hn, by simp [bv_length], ?_⟩⟩
  rw [Nat.mul_one, ← bv_length xs]
  exact List.take_length
/-- bytes as a block of so many -/
def fitL (n : Int) (xs : List UInt8) : List UInt8 := copyL (List.replicate n.toNat 0) xs
theorem fitL_length (n : Int) (xs : List UInt8) : (fitL n xs).length = n.toNat := by simp [fitL, copyL_length]
/-- a full row of the call's own, as a row -/
theorem own_row {W : World} {B g n : Nat} {xs : List UInt8} (h : OwnB W B 5 (.slice (some ⟨g, 0, none⟩) n n) xs) : Row W g (bv xs).toArray 5 := by
  rcases h.2 with ⟨h0, _⟩ | ⟨g', cap, cur, hv, _, hh, _, _, hsz, ht⟩
  · cases h0
  · cases hv
    have hl : cur.size = xs.length := by rw [hsz, Nat.mul_one]
    have : cur = (bv xs).toArray := by rw [← ht, Nat.mul_one, ← hl, ← Array.length_toList, List.take_length]
    unfold Row
    rw [hh, this]
set_option maxHeartbeats 1000000 in
set_option maxRecDepth 100000 in
theorem c_diskBlock (W : World) (base b mb nb : Nat) (D : Dk) (m : Int → List UInt8) (at_ : Int) (h : DiskAt W base b D) (hm : MapB W base mb nb m) (hat : (Lit.int .i64 at_).wf = true) (hh : D.has at_ = true) (hs : 0 ≤ D.size ∧ D.size ≤ 60000) :
    Calls Try.prog 67 #[.pointer (some ⟨b, 0, none⟩), .map (some mb), .int .i64 at_] W fun e w' => ∃ v, e = .returned v ∧ OwnB w' W.heap.size 5 v (fitL D.size (m at_)) ∧ Below W.heap.size W w' := by
  obtain ⟨mS, mN, lv, tv, hrow, hrest⟩ := h.out
  have c1 := hrow.cell 1 rfl
  obtain ⟨f, hf, hbt⟩ := hm.out
  have hb := hbt at_
  obtain ⟨sz, hsz⟩ : ∃ sz : Nat, D.size = (sz : Int) := ⟨D.size.toNat, by omega⟩
  rw [hsz] at c1
  have HAT := Lib.hid hat
  have hs2 : sz ≤ 60000 := by omega
  have HSZ := Lib.hid (show D.size.toNat = sz by omega)
  obtain ⟨A, c, hfa, q1, q2, q3, q4⟩ := hb
  clear hrest hbt q2 hat hsz
  go_enter Try.func67, Try.ntmps67
  go_upto_region 3 with (go_at_call 66; refine (c_diskHas _ base b D _ true h hh).mono ?_; rintro e w' ⟨rfl, rfl⟩)
  go_wp2_with (first | (at_make; refine wpl_makeB (n := sz) rfl rfl rfl rfl (by omega) ?_; intro W1 ho hB1 hs1; have hlk1 := run_look (hf.below (hB1.block _ hf.lt)) at_ HAT.out; rw [hfa] at hlk1; have hr1 := q3.below hB1 (Nat.le_refl _); have hrow1 : Row W1 W.heap.size (bv (List.replicate sz 0)).toArray 5 := own_row ho) | (refine wpl_copyB (xs := List.replicate sz 0) (ys := m at_) (cap := sz) rfl rfl (by rw [List.length_replicate]; rfl) rfl hrow1 hr1 ?_; intro W2 y hu2))
  go_ret
  have hsz' : D.size.toNat = sz := HSZ.out
  refine ⟨_, rfl, ?_, hB1.trans (hu2.below (Nat.le_refl _))⟩
  unfold fitL
  rw [hsz']
  exact row_own hu2.row (by rw [copyL_length, List.length_replicate]) (Nat.le_refl _) (by unfold maxLen; omega)
end Go.Proofs.Ytlbpmboknmbcgaa
