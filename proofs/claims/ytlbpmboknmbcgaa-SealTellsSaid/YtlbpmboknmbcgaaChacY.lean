/- Bytes, exclusive or with the stream: the reference's walk. -/
import Derived.Test.YtlbpmboknmbcgaaChacX
import Derived.Test.YtlbpmboknmbcgaaClone
set_option linter.unusedVariables false
set_option linter.unusedSimpArgs false
namespace Go.Proofs.Ytlbpmboknmbcgaa
open Go.RowKit

set_option maxHeartbeats 4000000 in
set_option maxRecDepth 100000 in
theorem c_rXor (key nonce : List UInt8) (hk : key.length = 32) (hn : nonce.length = 12) (A : Option Addr) (c : Nat) (xs : List UInt8) (w : World) (hr : RdB w A xs.length xs) (hm : xs.length ≤ 1000000) :
    Calls Try.prog 46 #[.agg (bv key).toArray, .agg (bv nonce).toArray, .int .u32 0, .slice A xs.length c] w fun e w' => ∃ v, e = .returned (.tuple #[v, .bool true]) ∧ OwnB w' w.heap.size 5 v (xorL key nonce xs) ∧ Below w.heap.size w w' := by
  have HK := Lib.hid hk
  have HN := Lib.hid hn
  clear hk hn
  obtain ⟨h0, h1, hz, hB⟩ := alloc2 w (bv key).toArray 48 (bv nonce).toArray 30
  have hr1 := hr.below hB (Nat.le_refl _)
  clear hr
  generalize hnn : xs.length = n at *
  have HNN := Lib.hid hnn
  clear hnn
  go_enter Try.func46, Try.ntmps46
  generalize hW1 : (w.alloc (.cells (bv key).toArray 48)).alloc (.cells (bv nonce).toArray 30) = W1 at *
  have HW1 := Lib.hid hW1
  clear hW1
  have hq1 : ((n : Int) + 63) / 64 ≤ 4294967296 := by omega
  go_upto_region 3 with fail
  rw [HW1.out]
  have hz' : w.heap.size + 1 < W1.heap.size := by omega
  have hHO := own_empty W1 5
  replace h0 := h0.alloc (.cells #[] 5)
  replace h1 := h1.alloc (.cells #[] 5)
  replace hr1 := hr1.below (below_alloc (Below.refl W1.heap.size W1) (.cells #[] 5)) (Nat.le_refl _)
  have hB0 := hB.trans (belowB_alloc (B := w.heap.size) (w := W1) (by omega) (.cells #[] 5))
  replace hHO := OwnB.mono hHO (B' := w.heap.size) (by omega)
  have hz2 : (W1.alloc (.cells #[] 5)).heap.size = W1.heap.size + 1 := by simp
  have hm2 : ([] : List UInt8).length + n ≤ 140737488355328 := by simp; omega
  clear hz HW1 hB hq1
  go_upto_region 4 with (at_builtin; refine wpl_cat (w0 := w) rfl _ _ 22 rfl w.heap.size 5 Try.underlying22 info_u8 hHO rfl hr1 rfl hB0 (by omega) hm2 ?_; intro v1 w1 ho1 hb1 hg1 hv1)
  have k0 : Row w1 w.heap.size (bv key).toArray 48 := (hg1.block _ (by omega) (by simp [Value.ownBlock]; omega)).trans h0
  have k1 : Row w1 (w.heap.size + 1) (bv nonce).toArray 30 := (hg1.block _ (by omega) (by simp [Value.ownBlock]; omega)).trans h1
  rw [List.nil_append] at ho1
  obtain ⟨A1, ca1, rfl, lc1, -, -⟩ := ho1.form
  rw [HNN.out] at ho1 lc1 ⊢
  clear h0 h1 hB0 hHO hr1 hg1 hm2
  have hgb : ∀ g, A1 = some ⟨g, 0, none⟩ → w.heap.size + 1 < g := by
    intro g e
    subst e
    rcases hv1 with h | h
    · simp [Value.ownBlock] at h; omega
    · simp [Value.ownBlock] at h; omega
  have hsz1 := hb1.size
  clear hv1 hz' hz2
  rw [← xorTo_zero key nonce xs] at ho1
  go_wp2_with fail
  go_loopw [11] (fun s12 wr => ∃ k : Nat, 64 * k < n + 64 ∧ s12 = .int .i64 (64 * (k : Int)) ∧ OwnB wr w.heap.size 5 (.slice A1 n ca1) (xorTo key nonce xs (64 * k)) ∧ Row wr w.heap.size (bv key).toArray 48 ∧ Row wr (w.heap.size + 1) (bv nonce).toArray 30 ∧ Below w.heap.size w wr) (fun i _ => (n + 64 - intOf i).toNat)
  case atStart => exact ⟨0, by omega, rfl, ho1, k0, k1, hb1⟩
  case round =>
    clear ho1 k0 k1 hb1 hsz1
    obtain ⟨k, hk, rfl, ho, h0, h1, hB⟩ := hrel
    have hxl := xorTo_length key nonce xs (64 * k)
    rw [HNN.out] at hxl
    have HXL := Lib.hid hxl
    clear hxl
    by_cases hlt : 64 * k < n
    · have hlt' : 64 * (k : Int) < (n : Int) := by omega
      obtain ⟨g, rfl, hgB, -⟩ := ho.at_ (by rw [HXL.out]; omega)
      have hgg := hgb g rfl
      have hdiv : 64 * (k : Int) / 64 = (k : Int) := by omega
      have hkb : (k : Int) < 20000 := by omega
      have hbl := blockL_length key nonce k
      have HBL := Lib.hid hbl
      have hba := bv_all (blockL key nonce k)
      have HBK : IsBk key nonce k (blockL key nonce k) := ⟨rfl⟩
      have HCB : ∀ w, Calls Try.prog 78 #[.agg (bv key).toArray, .agg (bv nonce).toArray, .int .u32 (k : Int)] w fun e w' => e = .returned (.agg (bv (blockL key nonce k)).toArray) ∧ Below w.heap.size w w' := fun w => c_rBlock key nonce k HK.out HN.out (by omega) w
      have HCC := Lib.hid HCB
      clear hbl HCB
      generalize blockL key nonce k = Bk at *
      go_upto_region 8 with (first | (apply wpl_loadS (ty := 48); rfl; rfl; rfl; kernel_rfl; exact h0; (simp only [List.size_toArray, bv_length, HK.out]; kernel_rfl); simp only [Act.put, List.setIfInBounds_toArray, List.set_cons_zero, List.set_cons_succ]) | (apply wpl_loadS (ty := 30); rfl; rfl; rfl; kernel_rfl; exact h1; (simp only [List.size_toArray, bv_length, HN.out]; kernel_rfl); simp only [Act.put, List.setIfInBounds_toArray, List.set_cons_zero, List.set_cons_succ]) | (go_at_call 78; refine (HCC.out _).mono ?_; rintro e w3 ⟨rfl, hb3⟩) | (apply wpl_storeN; rfl; rfl; rfl; (first | rfl | simp); rfl; (simp only [List.size_toArray, bv_length, HBL.out]; kernel_rfl); (simp only [List.size_toArray, bv_length, HBL.out]; rfl); exact hba; simp only [Act.put]))
      have hb4 : Below wr.heap.size wr (w3.alloc (.cells (bv Bk).toArray 92)) := below_alloc hb3 _
      have r4 := Row.new w3 (bv Bk).toArray 92
      have q0 := h0.below hb4 h0.lt
      have q1 := h1.below hb4 h1.lt
      have qo := ho.below hb4
      have hzw := hB.size
      have qB := hB.trans (hb4.mono hzw)
      have hg3 : g < wr.heap.size := World.block_lt_of_cell? _ _ (ho.cell (k := 0) (by rw [HXL.out]; omega)).1
      have hz3 := hb3.size
      clear h0 h1 ho hB hb3 hb4 hba
      generalize w3.alloc (.cells (bv Bk).toArray 92) = w4 at *
      generalize w3.heap.size = g4 at *
      go_wp2_with fail
      go_loopw [13] (fun s56 wq => ∃ i : Nat, i ≤ 64 ∧ 64 * k + i ≤ n ∧ s56 = .int .i64 (i : Int) ∧ OwnB wq w.heap.size 5 (.slice (some ⟨g, 0, none⟩) n ca1) (xorTo key nonce xs (64 * k + i)) ∧ Row wq g4 (bv Bk).toArray 92 ∧ Row wq w.heap.size (bv key).toArray 48 ∧ Row wq (w.heap.size + 1) (bv nonce).toArray 30 ∧ Below w.heap.size w wq) (fun i _ => (64 - intOf i).toNat)
      case atStart => exact ⟨0, by omega, by omega, rfl, qo, r4, q0, q1, qB⟩
      case round =>
        clear qo r4 q0 q1 qB
        obtain ⟨i, hi, hin, rfl, ho, r4, q0, q1, qB⟩ := hrel
        by_cases hil : i < 64 ∧ 64 * k + i < n
        · obtain ⟨hil1, hil2⟩ := hil
          have hxl := xorTo_length key nonce xs (64 * k + i)
          rw [HNN.out] at hxl
          obtain ⟨ce, fz⟩ := ho.cell (k := 64 * k + i) (by omega)
          rw [← List.getD_eq_getElem?_getD, xorTo_at key nonce xs (by rw [HNN.out]; omega)] at ce
          have cb := bv_cell r4 (j := i) (by rw [HBL.out]; omega)
          have hset := ho.set (k := 64 * k + i) (by omega) (xs.getD (64 * k + i) 0 ^^^ Bk.getD i 0)
          have hst := strmB_at key nonce k i (by omega)
          rw [HBK.out] at hst
          rw [← hst, xorTo_step key nonce xs (by rw [HNN.out]; omega), hst] at hset
          have hxr := u8_xor (xs.getD (64 * k + i) 0) (Bk.getD i 0)
          generalize xs.getD (64 * k + i) 0 ^^^ Bk.getD i 0 = z at *
          generalize xs.getD (64 * k + i) 0 = x at *
          clear hst hxl ho
          generalize Bk.getD i 0 = y at *
          have hw1 : IntKind.i64.wrap (64 * (k : Int) + (i : Int)) = 64 * (k : Int) + (i : Int) := IntWalk.i64_in _ (by omega)
          have hn1 : (64 * (k : Int) + (i : Int)).toNat = 64 * k + i := by omega
          have hn2 : 64 * (k : Int) + (i : Int) < (n : Int) := by omega
          have hn3 : 0 ≤ 64 * (k : Int) + (i : Int) := by omega
          have hi64 : (i : Int) < 64 := by omega
          have b4 : g4 < wr.heap.size := r4.lt
          have bg : g < wr.heap.size := World.block_lt_of_cell? _ _ ce
          go_upto_region 11 with fail
          (refine wp_region_linN (Below wr.heap.size) (Below wr.heap.size) (wayB _) (wayB _) (fun _ _ h => h) (.free 0 (.free 1 (.free 2 (.free 3 (.free 4 (.free 5 (.free 6 (.free 7 (.free 8 (.hot 9 (.free 10 (.free 11 (.hot 12 (.free 13 (.free 14 (.op 15 [(9, 15), (12, 15)] [] [] .nil)))))))))))))))) rfl (by kernel_rfl) (by kernel_rfl) (fun _ _ _ _ _ h => h) ?_; (first | (apply linN_free; (simp only [List.getElem?_toArray, List.getElem?_cons_succ, List.getElem?_cons_zero]; rfl); (rfl); (intro w'; (first | (go_simp; done) | (go_simp; with_reducible rfl) | (go_simp; go_bits; with_reducible rfl) | (go_simp; go_bits; done))); try simp only [Act.put, List.setIfInBounds_toArray, List.set_cons_zero, List.set_cons_succ]) | (apply linN_freeSkip; (simp only [List.getElem?_toArray, List.getElem?_cons_succ, List.getElem?_cons_zero]; rfl); (rfl); try simp only [Act.put, List.setIfInBounds_toArray, List.set_cons_zero, List.set_cons_succ])); (first | (apply linN_free; (simp only [List.getElem?_toArray, List.getElem?_cons_succ, List.getElem?_cons_zero]; rfl); (rfl); (intro w'; (first | (go_simp; done) | (go_simp; with_reducible rfl) | (go_simp; go_bits; with_reducible rfl) | (go_simp; go_bits; done))); try simp only [Act.put, List.setIfInBounds_toArray, List.set_cons_zero, List.set_cons_succ]) | (apply linN_freeSkip; (simp only [List.getElem?_toArray, List.getElem?_cons_succ, List.getElem?_cons_zero]; rfl); (rfl); try simp only [Act.put, List.setIfInBounds_toArray, List.set_cons_zero, List.set_cons_succ])); (first | (apply linN_free; (simp only [List.getElem?_toArray, List.getElem?_cons_succ, List.getElem?_cons_zero]; rfl); (rfl); (intro w'; (first | (go_simp; done) | (go_simp; with_reducible rfl) | (go_simp; go_bits; with_reducible rfl) | (go_simp; go_bits; done))); try simp only [Act.put, List.setIfInBounds_toArray, List.set_cons_zero, List.set_cons_succ]) | (apply linN_freeSkip; (simp only [List.getElem?_toArray, List.getElem?_cons_succ, List.getElem?_cons_zero]; rfl); (rfl); try simp only [Act.put, List.setIfInBounds_toArray, List.set_cons_zero, List.set_cons_succ])); (first | (apply linN_free; (simp only [List.getElem?_toArray, List.getElem?_cons_succ, List.getElem?_cons_zero]; rfl); (rfl); (intro w'; (first | (go_simp; done) | (go_simp; with_reducible rfl) | (go_simp; go_bits; with_reducible rfl) | (go_simp; go_bits; done))); try simp only [Act.put, List.setIfInBounds_toArray, List.set_cons_zero, List.set_cons_succ]) | (apply linN_freeSkip; (simp only [List.getElem?_toArray, List.getElem?_cons_succ, List.getElem?_cons_zero]; rfl); (rfl); try simp only [Act.put, List.setIfInBounds_toArray, List.set_cons_zero, List.set_cons_succ])); (first | (apply linN_free; (simp only [List.getElem?_toArray, List.getElem?_cons_succ, List.getElem?_cons_zero]; rfl); (rfl); (intro w'; (first | (go_simp; done) | (go_simp; with_reducible rfl) | (go_simp; go_bits; with_reducible rfl) | (go_simp; go_bits; done))); try simp only [Act.put, List.setIfInBounds_toArray, List.set_cons_zero, List.set_cons_succ]) | (apply linN_freeSkip; (simp only [List.getElem?_toArray, List.getElem?_cons_succ, List.getElem?_cons_zero]; rfl); (rfl); try simp only [Act.put, List.setIfInBounds_toArray, List.set_cons_zero, List.set_cons_succ])); (first | (apply linN_free; (simp only [List.getElem?_toArray, List.getElem?_cons_succ, List.getElem?_cons_zero]; rfl); (rfl); (intro w'; (first | (go_simp; done) | (go_simp; with_reducible rfl) | (go_simp; go_bits; with_reducible rfl) | (go_simp; go_bits; done))); try simp only [Act.put, List.setIfInBounds_toArray, List.set_cons_zero, List.set_cons_succ]) | (apply linN_freeSkip; (simp only [List.getElem?_toArray, List.getElem?_cons_succ, List.getElem?_cons_zero]; rfl); (rfl); try simp only [Act.put, List.setIfInBounds_toArray, List.set_cons_zero, List.set_cons_succ])); (first | (apply linN_free; (simp only [List.getElem?_toArray, List.getElem?_cons_succ, List.getElem?_cons_zero]; rfl); (rfl); (intro w'; (first | (go_simp; done) | (go_simp; with_reducible rfl) | (go_simp; go_bits; with_reducible rfl) | (go_simp; go_bits; done))); try simp only [Act.put, List.setIfInBounds_toArray, List.set_cons_zero, List.set_cons_succ]) | (apply linN_freeSkip; (simp only [List.getElem?_toArray, List.getElem?_cons_succ, List.getElem?_cons_zero]; rfl); (rfl); try simp only [Act.put, List.setIfInBounds_toArray, List.set_cons_zero, List.set_cons_succ])); (first | (apply linN_free; (simp only [List.getElem?_toArray, List.getElem?_cons_succ, List.getElem?_cons_zero]; rfl); (rfl); (intro w'; (first | (go_simp; done) | (go_simp; with_reducible rfl) | (go_simp; go_bits; with_reducible rfl) | (go_simp; go_bits; done))); try simp only [Act.put, List.setIfInBounds_toArray, List.set_cons_zero, List.set_cons_succ]) | (apply linN_freeSkip; (simp only [List.getElem?_toArray, List.getElem?_cons_succ, List.getElem?_cons_zero]; rfl); (rfl); try simp only [Act.put, List.setIfInBounds_toArray, List.set_cons_zero, List.set_cons_succ])); (first | (apply linN_free; (simp only [List.getElem?_toArray, List.getElem?_cons_succ, List.getElem?_cons_zero]; rfl); (rfl); (intro w'; (first | (go_simp; done) | (go_simp; with_reducible rfl) | (go_simp; go_bits; with_reducible rfl) | (go_simp; go_bits; done))); try simp only [Act.put, List.setIfInBounds_toArray, List.set_cons_zero, List.set_cons_succ]) | (apply linN_freeSkip; (simp only [List.getElem?_toArray, List.getElem?_cons_succ, List.getElem?_cons_zero]; rfl); (rfl); try simp only [Act.put, List.setIfInBounds_toArray, List.set_cons_zero, List.set_cons_succ])); (first | (apply linN_hot; (simp only [List.getElem?_toArray, List.getElem?_cons_succ, List.getElem?_cons_zero]; rfl); (rfl); (intro w' hb'; (try have k_ce := keepB (by first | assumption | omega | (simp; done) | (simp; omega)) hb' ce); (try have k_cb := keepB (by first | assumption | omega | (simp; done) | (simp; omega)) hb' cb); (first | (go_simp; done) | (go_simp; with_reducible rfl) | (go_simp; go_bits; with_reducible rfl) | (go_simp; go_bits; done))); try simp only [Act.put, List.setIfInBounds_toArray, List.set_cons_zero, List.set_cons_succ]) | (apply linN_hotSkip; (simp only [List.getElem?_toArray, List.getElem?_cons_succ, List.getElem?_cons_zero]; rfl); (rfl); try simp only [Act.put, List.setIfInBounds_toArray, List.set_cons_zero, List.set_cons_succ])); (first | (apply linN_free; (simp only [List.getElem?_toArray, List.getElem?_cons_succ, List.getElem?_cons_zero]; rfl); (rfl); (intro w'; (first | (go_simp; done) | (go_simp; with_reducible rfl) | (go_simp; go_bits; with_reducible rfl) | (go_simp; go_bits; done))); try simp only [Act.put, List.setIfInBounds_toArray, List.set_cons_zero, List.set_cons_succ]) | (apply linN_freeSkip; (simp only [List.getElem?_toArray, List.getElem?_cons_succ, List.getElem?_cons_zero]; rfl); (rfl); try simp only [Act.put, List.setIfInBounds_toArray, List.set_cons_zero, List.set_cons_succ])); (first | (apply linN_free; (simp only [List.getElem?_toArray, List.getElem?_cons_succ, List.getElem?_cons_zero]; rfl); (rfl); (intro w'; (first | (go_simp; done) | (go_simp; with_reducible rfl) | (go_simp; go_bits; with_reducible rfl) | (go_simp; go_bits; done))); try simp only [Act.put, List.setIfInBounds_toArray, List.set_cons_zero, List.set_cons_succ]) | (apply linN_freeSkip; (simp only [List.getElem?_toArray, List.getElem?_cons_succ, List.getElem?_cons_zero]; rfl); (rfl); try simp only [Act.put, List.setIfInBounds_toArray, List.set_cons_zero, List.set_cons_succ])); (first | (apply linN_hot; (simp only [List.getElem?_toArray, List.getElem?_cons_succ, List.getElem?_cons_zero]; rfl); (rfl); (intro w' hb'; (try have k_ce := keepB (by first | assumption | omega | (simp; done) | (simp; omega)) hb' ce); (try have k_cb := keepB (by first | assumption | omega | (simp; done) | (simp; omega)) hb' cb); (first | (go_simp; done) | (go_simp; with_reducible rfl) | (go_simp; go_bits; with_reducible rfl) | (go_simp; go_bits; done))); try simp only [Act.put, List.setIfInBounds_toArray, List.set_cons_zero, List.set_cons_succ]) | (apply linN_hotSkip; (simp only [List.getElem?_toArray, List.getElem?_cons_succ, List.getElem?_cons_zero]; rfl); (rfl); try simp only [Act.put, List.setIfInBounds_toArray, List.set_cons_zero, List.set_cons_succ])); (first | (apply linN_free; (simp only [List.getElem?_toArray, List.getElem?_cons_succ, List.getElem?_cons_zero]; rfl); (rfl); (intro w'; (first | (go_simp; done) | (go_simp; with_reducible rfl) | (go_simp; go_bits; with_reducible rfl) | (go_simp; go_bits; done))); try simp only [Act.put, List.setIfInBounds_toArray, List.set_cons_zero, List.set_cons_succ]) | (apply linN_freeSkip; (simp only [List.getElem?_toArray, List.getElem?_cons_succ, List.getElem?_cons_zero]; rfl); (rfl); try simp only [Act.put, List.setIfInBounds_toArray, List.set_cons_zero, List.set_cons_succ])); (first | (apply linN_free; (simp only [List.getElem?_toArray, List.getElem?_cons_succ, List.getElem?_cons_zero]; rfl); (rfl); (intro w'; (first | (go_simp; done) | (go_simp; with_reducible rfl) | (go_simp; go_bits; with_reducible rfl) | (go_simp; go_bits; done))); try simp only [Act.put, List.setIfInBounds_toArray, List.set_cons_zero, List.set_cons_succ]) | (apply linN_freeSkip; (simp only [List.getElem?_toArray, List.getElem?_cons_succ, List.getElem?_cons_zero]; rfl); (rfl); try simp only [Act.put, List.setIfInBounds_toArray, List.set_cons_zero, List.set_cons_succ])); (first | (apply linN_pass (wayB _) (wayB _); (simp only [List.getElem?_toArray, List.getElem?_cons_succ, List.getElem?_cons_zero]; rfl); (rfl); try simp only [Act.put, List.setIfInBounds_toArray, List.set_cons_zero, List.set_cons_succ]) | (apply linN_op; (simp only [List.getElem?_toArray, List.getElem?_cons_succ, List.getElem?_cons_zero]; rfl); (rfl); intro K hK; (first | (go_simp; (first | skip))); refine hK _ _ ?_ ?_; (exact trivial); clear hK; try simp only [Act.put, List.setIfInBounds_toArray, List.set_cons_zero, List.set_cons_succ])); refine linN_end ?_)
          have t4 : Row _ g4 _ _ := r4.set_other (64 * k + i) (.int .u8 (z.toNat : Int)) (show g4 ≠ g by omega)
          have t0 : Row _ w.heap.size _ _ := q0.set_other (64 * k + i) (.int .u8 (z.toNat : Int)) (show w.heap.size ≠ g by omega)
          have t1 : Row _ (w.heap.size + 1) _ _ := q1.set_other (64 * k + i) (.int .u8 (z.toNat : Int)) (show w.heap.size + 1 ≠ g by omega)
          have tB := qB.setCell (p := ⟨g, 64 * k + i, none⟩) hgB (.int .u8 (z.toNat : Int))
          clear r4 q0 q1 qB ce fz cb hxr hw1 hn1
          go_wp2
          go_roundw
          case rel => exact ⟨i + 1, by omega, by omega, by go_num, hset, t4, t0, t1, below_drew tB⟩
          case measure => simp [intOf]; omega
        · have hfin : OwnB wr w.heap.size 5 (.slice (some ⟨g, 0, none⟩) n ca1) (xorTo key nonce xs (64 * (k + 1))) := by
            by_cases h6 : i = 64
            · subst h6
              rw [show 64 * (k + 1) = 64 * k + 64 by omega]
              exact ho
            · rw [xorTo_end key nonce xs (m := 64 * (k + 1)) (by rw [HNN.out]; omega)]
              rw [xorTo_end key nonce xs (m := 64 * k + i) (by rw [HNN.out]; omega)] at ho
              exact ho
          clear ho
          have hor : i = 64 ∨ (i < 64 ∧ ¬ 64 * k + i < n) := by omega
          rcases hor with rfl | ⟨hc1, hc2⟩
          · simp only [show ((64 : Nat) : Int) = 64 from rfl]
            go_wp2
            go_roundw
            case rel => exact ⟨k + 1, by omega, by rw [show 64 * ((k + 1 : Nat) : Int) = 64 * (k : Int) + 64 by omega], hfin, q0, q1, qB⟩
            case measure => simp [intOf]; omega
          · have hc3 : (i : Int) < 64 := by omega
            have hc4 : ¬ 64 * (k : Int) + (i : Int) < (n : Int) := by omega
            go_wp2
            go_roundw
            case rel => exact ⟨k + 1, by omega, by rw [show 64 * ((k + 1 : Nat) : Int) = 64 * (k : Int) + 64 by omega], hfin, q0, q1, qB⟩
            case measure => simp [intOf]; omega
    · have hlt' : ¬ 64 * (k : Int) < (n : Int) := by omega
      rw [xorTo_end key nonce xs (m := 64 * k) (by rw [HNN.out]; omega)] at ho
      go_wp2
      go_ret2
      exact ⟨_, rfl, ho, hB⟩
end Go.Proofs.Ytlbpmboknmbcgaa
