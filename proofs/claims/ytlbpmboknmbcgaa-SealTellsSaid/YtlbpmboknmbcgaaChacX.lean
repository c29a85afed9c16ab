/- Bytes, exclusive or with the stream: the program's walk. -/
import Derived.Test.YtlbpmboknmbcgaaChacE
import Derived.Test.YtlbpmboknmbcgaaInts
set_option linter.unusedVariables false
set_option linter.unusedSimpArgs false
namespace Go.Proofs.Ytlbpmboknmbcgaa
open Go.RowKit

/-- the first m bytes are turned -/
def xorTo (key nonce xs : List UInt8) (m : Nat) : List UInt8 := (xorL key nonce xs).take m ++ xs.drop m
theorem xorTo_zero (key nonce xs : List UInt8) : xorTo key nonce xs 0 = xs := by simp [xorTo]
theorem xorTo_length (key nonce xs : List UInt8) (m : Nat) : (xorTo key nonce xs m).length = xs.length := by simp [xorTo, xorL_length]; omega
theorem xorTo_end (key nonce xs : List UInt8) {m : Nat} (h : xs.length ≤ m) : xorTo key nonce xs m = xorL key nonce xs := by
  unfold xorTo
  rw [List.take_of_length_le (by rw [xorL_length]; exact h), List.drop_of_length_le h, List.append_nil]
theorem xorTo_at (key nonce xs : List UInt8) {m : Nat} (h : m < xs.length) : (xorTo key nonce xs m).getD m 0 = xs.getD m 0 := by
  unfold xorTo
  have hl : ((xorL key nonce xs).take m).length = m := by rw [List.length_take, xorL_length]; omega
  rw [List.getD_eq_getElem?_getD, List.getElem?_append_right (by omega), hl, Nat.sub_self, List.getElem?_drop, Nat.add_zero, List.getD_eq_getElem?_getD]
theorem xorTo_step (key nonce xs : List UInt8) {m : Nat} (h : m < xs.length) : (xorTo key nonce xs m).set m (xs.getD m 0 ^^^ strmB key nonce m) = xorTo key nonce xs (m + 1) := by
  unfold xorTo
  have hx : (xorL key nonce xs)[m]? = some (xs.getD m 0 ^^^ strmB key nonce m) := by
    unfold xorL
    rw [List.getElem?_mapIdx, List.getElem?_eq_getElem h, List.getD_eq_getElem?_getD, List.getElem?_eq_getElem h]
    rfl
  have hl : ((xorL key nonce xs).take m).length = m := by rw [List.length_take, xorL_length]; omega
  rw [List.set_append_right _ _ (by omega), hl, Nat.sub_self, List.drop_eq_getElem_cons h, List.set_cons_zero]
  have hm : m < (xorL key nonce xs).length := by rw [xorL_length]; exact h
  rw [List.take_succ_eq_append_getElem hm]
  rw [List.getElem?_eq_getElem hm] at hx
  rw [Option.some.inj hx]
  simp
/-- byte i of block k is byte 64 k + i of the stream -/
theorem strmB_at (key nonce : List UInt8) (k i : Nat) (h : i < 64) : strmB key nonce (64 * k + i) = (blockL key nonce k).getD i 0 := by
  unfold strmB
  rw [show (64 * k + i) / 64 = k by omega, show (64 * k + i) % 64 = i by omega]
theorem u8_xor (a b : UInt8) : bits .xor .u8 (a.toNat : Int) (b.toNat : Int) = ((a ^^^ b).toNat : Int) := by
  rw [Go.u8_xor_nat _ _ a.toNat_lt b.toNat_lt, UInt8.toNat_xor]
structure IsX (key nonce xs : List UInt8) (m : Nat) (ys : List UInt8) : Prop where
  out : xorTo key nonce xs m = ys
structure IsBk (key nonce : List UInt8) (k : Nat) (ys : List UInt8) : Prop where
  out : blockL key nonce k = ys
set_option maxHeartbeats 4000000 in
set_option maxRecDepth 100000 in
theorem c_xor (key nonce : List UInt8) (hk : key.length = 32) (hn : nonce.length = 12) (A : Option Addr) (c : Nat) (xs : List UInt8) (w : World) (hr : RdB w A xs.length xs) (hm : xs.length ≤ 1000000) :
    Calls Try.prog 72 #[.agg (bv key).toArray, .agg (bv nonce).toArray, .int .u32 0, .slice A xs.length c] w fun e w' => ∃ v, e = .returned (.tuple #[v, .bool true]) ∧ OwnB w' w.heap.size 5 v (xorL key nonce xs) ∧ Below w.heap.size w w' := by
  have HK := Lib.hid hk
  have HN := Lib.hid hn
  clear hk hn
  obtain ⟨h0, h1, hz, hB⟩ := alloc2 w (bv key).toArray 48 (bv nonce).toArray 30
  have hr1 := hr.below hB (Nat.le_refl _)
  have hHO := OwnB.nil_ ((w.alloc (.cells (bv key).toArray 48)).alloc (.cells (bv nonce).toArray 30)) w.heap.size 5
  clear hr
  generalize hnn : xs.length = n at *
  have HNN := Lib.hid hnn
  clear hnn
  go_enter Try.func72, Try.ntmps72
  generalize hW1 : (w.alloc (.cells (bv key).toArray 48)).alloc (.cells (bv nonce).toArray 30) = W1 at *
  have HW1 := Lib.hid hW1
  clear hW1
  go_upto_region 2 with fail
  rw [HW1.out]
  have hz' : w.heap.size + 1 < W1.heap.size := by omega
  clear hz HW1
  obtain ⟨q, hq⟩ : ∃ q : Int, ((n : Int) + 64 - 1) / 64 = q := ⟨_, rfl⟩
  have hq1 : 0 ≤ q := by omega
  have hq2 : q ≤ 20000 := by omega
  rw [hq]
  clear hq
  have hq3 : q = 0 ∨ 0 < q := by omega
  rcases hq3 with rfl | hq3
  all_goals
    have hm2 : ([] : List UInt8).length + n ≤ 140737488355328 := by simp; omega
    go_wp2_with (at_builtin; refine wpl_cat (w0 := w) rfl _ _ 22 rfl w.heap.size 5 Try.underlying22 info_u8 hHO rfl hr1 rfl hB (by omega) hm2 ?_; intro v1 w1 ho1 hb1 hg1 hv1)
    have k0 : Row w1 w.heap.size (bv key).toArray 48 := (hg1.block _ (by omega) (by simp [Value.ownBlock])).trans h0
    have k1 : Row w1 (w.heap.size + 1) (bv nonce).toArray 30 := (hg1.block _ (by omega) (by simp [Value.ownBlock])).trans h1
    rw [List.nil_append] at ho1
    obtain ⟨A1, ca1, rfl, lc1, -, -⟩ := ho1.form
    rw [HNN.out] at ho1 lc1 ⊢
    clear h0 h1 hB hHO hr1 hg1 hq1 hq2 hm2
    have hgb : ∀ g, A1 = some ⟨g, 0, none⟩ → w.heap.size + 1 < g := by
      intro g e
      subst e
      rcases hv1 with h | h
      · simp [Value.ownBlock] at h
      · simp [Value.ownBlock] at h; omega
    have hsz1 := hb1.size
    clear hv1 hz'
    rw [← xorTo_zero key nonce xs] at ho1
    go_wp2_with fail
    go_loopw [12] (fun s12 wr => ∃ k : Nat, 64 * k < n + 64 ∧ s12 = .int .i64 (64 * (k : Int)) ∧ OwnB wr w.heap.size 5 (.slice A1 n ca1) (xorTo key nonce xs (64 * k)) ∧ Row wr w.heap.size (bv key).toArray 48 ∧ Row wr (w.heap.size + 1) (bv nonce).toArray 30 ∧ Below w.heap.size w wr) (fun i _ => (n + 64 - intOf i).toNat)
    case atStart => exact ⟨0, by omega, rfl, ho1, k0, k1, hb1⟩
    case round =>
      clear ho1 k0 k1 hb1 hsz1
      obtain ⟨k, hk, rfl, ho, h0, h1, hB⟩ := hrel
      have hxl := xorTo_length key nonce xs (64 * k)
      rw [HNN.out] at hxl
      have HXL := Lib.hid hxl
      clear hxl
      by_cases hlt : 64 * k < n
      · have hlt' : 64 * (k : Int) < (n : Int) := by omega
        obtain ⟨g, rfl, hgB, -⟩ := ho.at_ (by rw [HXL.out]; omega)
        have hgg := hgb g rfl
        have hdiv : 64 * (k : Int) / 64 = (k : Int) := by omega
        have hkb : (k : Int) < 20000 := by omega
        have hbl := blockL_length key nonce k
        have HBL := Lib.hid hbl
        have hba := bv_all (blockL key nonce k)
        have HBK : IsBk key nonce k (blockL key nonce k) := ⟨rfl⟩
        have HCB : ∀ w, Calls Try.prog 82 #[.agg (bv key).toArray, .agg (bv nonce).toArray, .int .u32 (k : Int)] w fun e w' => e = .returned (.agg (bv (blockL key nonce k)).toArray) ∧ Below w.heap.size w w' := fun w => c_block key nonce k HK.out HN.out (by omega) w
        have HCC := Lib.hid HCB
        clear hbl HCB
        generalize blockL key nonce k = Bk at *
        go_upto_region 9 with (first | (apply wpl_loadS (ty := 48); rfl; rfl; rfl; kernel_rfl; exact h0; (simp only [List.size_toArray, bv_length, HK.out]; kernel_rfl); simp only [Act.put, List.setIfInBounds_toArray, List.set_cons_zero, List.set_cons_succ]) | (apply wpl_loadS (ty := 30); rfl; rfl; rfl; kernel_rfl; exact h1; (simp only [List.size_toArray, bv_length, HN.out]; kernel_rfl); simp only [Act.put, List.setIfInBounds_toArray, List.set_cons_zero, List.set_cons_succ]) | (go_at_call 82; refine (HCC.out _).mono ?_; rintro e w3 ⟨rfl, hb3⟩) | (apply wpl_storeN; rfl; rfl; rfl; (first | rfl | simp); rfl; (simp only [List.size_toArray, bv_length, HBL.out]; kernel_rfl); (simp only [List.size_toArray, bv_length, HBL.out]; rfl); exact hba; simp only [Act.put]))
        have hb4 : Below wr.heap.size wr (w3.alloc (.cells (bv Bk).toArray 92)) := below_alloc hb3 _
        have r4 := Row.new w3 (bv Bk).toArray 92
        have q0 := h0.below hb4 h0.lt
        have q1 := h1.below hb4 h1.lt
        have qo := ho.below hb4
        have hzw := hB.size
        have qB := hB.trans (hb4.mono hzw)
        have hg3 : g < wr.heap.size := World.block_lt_of_cell? _ _ (ho.cell (k := 0) (by rw [HXL.out]; omega)).1
        have hz3 := hb3.size
        clear h0 h1 ho hB hb3 hb4 hba
        generalize w3.alloc (.cells (bv Bk).toArray 92) = w4 at *
        generalize w3.heap.size = g4 at *
        by_cases h64 : 64 * k + 64 ≤ n
        · have hmin : 64 * (k : Int) + 64 ≤ (n : Int) := by omega
          have hcap : 64 * (k : Int) + 64 ≤ (ca1 : Int) := by omega
          go_wp2_with fail
          rw [show 64 * k + 64 - 64 * k = 64 by omega]
          go_loopw [56] (fun s56 wq => ∃ i : Nat, i ≤ 64 ∧ s56 = .int .i64 (i : Int) ∧ OwnB wq w.heap.size 5 (.slice (some ⟨g, 0, none⟩) n ca1) (xorTo key nonce xs (64 * k + i)) ∧ Row wq g4 (bv Bk).toArray 92 ∧ Row wq w.heap.size (bv key).toArray 48 ∧ Row wq (w.heap.size + 1) (bv nonce).toArray 30 ∧ Below w.heap.size w wq) (fun i _ => (64 - intOf i).toNat)
          case atStart => exact ⟨0, by omega, rfl, qo, r4, q0, q1, qB⟩
          case round =>
            clear qo r4 q0 q1 qB
            obtain ⟨i, hi, rfl, ho, r4, q0, q1, qB⟩ := hrel
            by_cases hil : i < 64
            · have hxl := xorTo_length key nonce xs (64 * k + i)
              rw [HNN.out] at hxl
              obtain ⟨ce, fz⟩ := ho.cell (k := 64 * k + i) (by omega)
              rw [← List.getD_eq_getElem?_getD, xorTo_at key nonce xs (by rw [HNN.out]; omega)] at ce
              have cb := bv_cell r4 (j := i) (by rw [HBL.out]; omega)
              have hset := ho.set (k := 64 * k + i) (by omega) (xs.getD (64 * k + i) 0 ^^^ Bk.getD i 0)
              have hst := strmB_at key nonce k i (by omega)
              rw [HBK.out] at hst
              rw [← hst, xorTo_step key nonce xs (by rw [HNN.out]; omega), hst] at hset
              have hxr := u8_xor (xs.getD (64 * k + i) 0) (Bk.getD i 0)
              generalize xs.getD (64 * k + i) 0 ^^^ Bk.getD i 0 = z at *
              generalize xs.getD (64 * k + i) 0 = x at *
              clear hst hxl ho
              generalize Bk.getD i 0 = y at *
              have hw1 : IntKind.i64.wrap (64 * (k : Int) + (i : Int)) = 64 * (k : Int) + (i : Int) := IntWalk.i64_in _ (by omega)
              have hn1 : (64 * (k : Int) + (i : Int)).toNat = 64 * k + i := by omega
              have hn2 : 64 * (k : Int) + (i : Int) < (n : Int) := by omega
              have hn3 : 0 ≤ 64 * (k : Int) + (i : Int) := by omega
              have hil2 : (i : Int) < 64 := by omega
              have hi64 : (i : Int) < 64 := by omega
              have b4 : g4 < wr.heap.size := r4.lt
              have bg : g < wr.heap.size := World.block_lt_of_cell? _ _ ce
              go_upto_region 12 with fail
              (refine wp_region_linN (Below wr.heap.size) (Below wr.heap.size) (wayB _) (wayB _) (fun _ _ h => h) (.free 0 (.free 1 (.free 2 (.free 3 (.free 4 (.hot 5 (.free 6 (.free 7 (.hot 8 (.free 9 (.free 10 (.op 11 [(5, 11), (8, 11)] [] [] .nil)))))))))))) rfl (by kernel_rfl) (by kernel_rfl) (fun _ _ _ _ _ h => h) ?_; (first | (apply linN_free; (simp only [List.getElem?_toArray, List.getElem?_cons_succ, List.getElem?_cons_zero]; rfl); (rfl); (intro w'; (first | (go_simp; done) | (go_simp; with_reducible rfl) | (go_simp; go_bits; with_reducible rfl) | (go_simp; go_bits; done))); try simp only [Act.put, List.setIfInBounds_toArray, List.set_cons_zero, List.set_cons_succ]) | (apply linN_freeSkip; (simp only [List.getElem?_toArray, List.getElem?_cons_succ, List.getElem?_cons_zero]; rfl); (rfl); try simp only [Act.put, List.setIfInBounds_toArray, List.set_cons_zero, List.set_cons_succ])); (first | (apply linN_free; (simp only [List.getElem?_toArray, List.getElem?_cons_succ, List.getElem?_cons_zero]; rfl); (rfl); (intro w'; (first | (go_simp; done) | (go_simp; with_reducible rfl) | (go_simp; go_bits; with_reducible rfl) | (go_simp; go_bits; done))); try simp only [Act.put, List.setIfInBounds_toArray, List.set_cons_zero, List.set_cons_succ]) | (apply linN_freeSkip; (simp only [List.getElem?_toArray, List.getElem?_cons_succ, List.getElem?_cons_zero]; rfl); (rfl); try simp only [Act.put, List.setIfInBounds_toArray, List.set_cons_zero, List.set_cons_succ])); (first | (apply linN_free; (simp only [List.getElem?_toArray, List.getElem?_cons_succ, List.getElem?_cons_zero]; rfl); (rfl); (intro w'; (first | (go_simp; done) | (go_simp; with_reducible rfl) | (go_simp; go_bits; with_reducible rfl) | (go_simp; go_bits; done))); try simp only [Act.put, List.setIfInBounds_toArray, List.set_cons_zero, List.set_cons_succ]) | (apply linN_freeSkip; (simp only [List.getElem?_toArray, List.getElem?_cons_succ, List.getElem?_cons_zero]; rfl); (rfl); try simp only [Act.put, List.setIfInBounds_toArray, List.set_cons_zero, List.set_cons_succ])); (first | (apply linN_free; (simp only [List.getElem?_toArray, List.getElem?_cons_succ, List.getElem?_cons_zero]; rfl); (rfl); (intro w'; (first | (go_simp; done) | (go_simp; with_reducible rfl) | (go_simp; go_bits; with_reducible rfl) | (go_simp; go_bits; done))); try simp only [Act.put, List.setIfInBounds_toArray, List.set_cons_zero, List.set_cons_succ]) | (apply linN_freeSkip; (simp only [List.getElem?_toArray, List.getElem?_cons_succ, List.getElem?_cons_zero]; rfl); (rfl); try simp only [Act.put, List.setIfInBounds_toArray, List.set_cons_zero, List.set_cons_succ])); (first | (apply linN_free; (simp only [List.getElem?_toArray, List.getElem?_cons_succ, List.getElem?_cons_zero]; rfl); (rfl); (intro w'; (first | (go_simp; done) | (go_simp; with_reducible rfl) | (go_simp; go_bits; with_reducible rfl) | (go_simp; go_bits; done))); try simp only [Act.put, List.setIfInBounds_toArray, List.set_cons_zero, List.set_cons_succ]) | (apply linN_freeSkip; (simp only [List.getElem?_toArray, List.getElem?_cons_succ, List.getElem?_cons_zero]; rfl); (rfl); try simp only [Act.put, List.setIfInBounds_toArray, List.set_cons_zero, List.set_cons_succ])); (first | (apply linN_hot; (simp only [List.getElem?_toArray, List.getElem?_cons_succ, List.getElem?_cons_zero]; rfl); (rfl); (intro w' hb'; (try have k_ce := keepB (by first | assumption | omega | (simp; done) | (simp; omega)) hb' ce); (try have k_cb := keepB (by first | assumption | omega | (simp; done) | (simp; omega)) hb' cb); (first | (go_simp; done) | (go_simp; with_reducible rfl) | (go_simp; go_bits; with_reducible rfl) | (go_simp; go_bits; done))); try simp only [Act.put, List.setIfInBounds_toArray, List.set_cons_zero, List.set_cons_succ]) | (apply linN_hotSkip; (simp only [List.getElem?_toArray, List.getElem?_cons_succ, List.getElem?_cons_zero]; rfl); (rfl); try simp only [Act.put, List.setIfInBounds_toArray, List.set_cons_zero, List.set_cons_succ])); (first | (apply linN_free; (simp only [List.getElem?_toArray, List.getElem?_cons_succ, List.getElem?_cons_zero]; rfl); (rfl); (intro w'; (first | (go_simp; done) | (go_simp; with_reducible rfl) | (go_simp; go_bits; with_reducible rfl) | (go_simp; go_bits; done))); try simp only [Act.put, List.setIfInBounds_toArray, List.set_cons_zero, List.set_cons_succ]) | (apply linN_freeSkip; (simp only [List.getElem?_toArray, List.getElem?_cons_succ, List.getElem?_cons_zero]; rfl); (rfl); try simp only [Act.put, List.setIfInBounds_toArray, List.set_cons_zero, List.set_cons_succ])); (first | (apply linN_free; (simp only [List.getElem?_toArray, List.getElem?_cons_succ, List.getElem?_cons_zero]; rfl); (rfl); (intro w'; (first | (go_simp; done) | (go_simp; with_reducible rfl) | (go_simp; go_bits; with_reducible rfl) | (go_simp; go_bits; done))); try simp only [Act.put, List.setIfInBounds_toArray, List.set_cons_zero, List.set_cons_succ]) | (apply linN_freeSkip; (simp only [List.getElem?_toArray, List.getElem?_cons_succ, List.getElem?_cons_zero]; rfl); (rfl); try simp only [Act.put, List.setIfInBounds_toArray, List.set_cons_zero, List.set_cons_succ])); (first | (apply linN_hot; (simp only [List.getElem?_toArray, List.getElem?_cons_succ, List.getElem?_cons_zero]; rfl); (rfl); (intro w' hb'; (try have k_ce := keepB (by first | assumption | omega | (simp; done) | (simp; omega)) hb' ce); (try have k_cb := keepB (by first | assumption | omega | (simp; done) | (simp; omega)) hb' cb); (first | (go_simp; done) | (go_simp; with_reducible rfl) | (go_simp; go_bits; with_reducible rfl) | (go_simp; go_bits; done))); try simp only [Act.put, List.setIfInBounds_toArray, List.set_cons_zero, List.set_cons_succ]) | (apply linN_hotSkip; (simp only [List.getElem?_toArray, List.getElem?_cons_succ, List.getElem?_cons_zero]; rfl); (rfl); try simp only [Act.put, List.setIfInBounds_toArray, List.set_cons_zero, List.set_cons_succ])); (first | (apply linN_free; (simp only [List.getElem?_toArray, List.getElem?_cons_succ, List.getElem?_cons_zero]; rfl); (rfl); (intro w'; (first | (go_simp; done) | (go_simp; with_reducible rfl) | (go_simp; go_bits; with_reducible rfl) | (go_simp; go_bits; done))); try simp only [Act.put, List.setIfInBounds_toArray, List.set_cons_zero, List.set_cons_succ]) | (apply linN_freeSkip; (simp only [List.getElem?_toArray, List.getElem?_cons_succ, List.getElem?_cons_zero]; rfl); (rfl); try simp only [Act.put, List.setIfInBounds_toArray, List.set_cons_zero, List.set_cons_succ])); (first | (apply linN_free; (simp only [List.getElem?_toArray, List.getElem?_cons_succ, List.getElem?_cons_zero]; rfl); (rfl); (intro w'; (first | (go_simp; done) | (go_simp; with_reducible rfl) | (go_simp; go_bits; with_reducible rfl) | (go_simp; go_bits; done))); try simp only [Act.put, List.setIfInBounds_toArray, List.set_cons_zero, List.set_cons_succ]) | (apply linN_freeSkip; (simp only [List.getElem?_toArray, List.getElem?_cons_succ, List.getElem?_cons_zero]; rfl); (rfl); try simp only [Act.put, List.setIfInBounds_toArray, List.set_cons_zero, List.set_cons_succ])); (first | (apply linN_pass (wayB _) (wayB _); (simp only [List.getElem?_toArray, List.getElem?_cons_succ, List.getElem?_cons_zero]; rfl); (rfl); try simp only [Act.put, List.setIfInBounds_toArray, List.set_cons_zero, List.set_cons_succ]) | (apply linN_op; (simp only [List.getElem?_toArray, List.getElem?_cons_succ, List.getElem?_cons_zero]; rfl); (rfl); intro K hK; (first | (go_simp; (first | skip))); refine hK _ _ ?_ ?_; (exact trivial); clear hK; try simp only [Act.put, List.setIfInBounds_toArray, List.set_cons_zero, List.set_cons_succ])); refine linN_end ?_)
              have t4 : Row _ g4 _ _ := r4.set_other (64 * k + i) (.int .u8 (z.toNat : Int)) (show g4 ≠ g by omega)
              have t0 : Row _ w.heap.size _ _ := q0.set_other (64 * k + i) (.int .u8 (z.toNat : Int)) (show w.heap.size ≠ g by omega)
              have t1 : Row _ (w.heap.size + 1) _ _ := q1.set_other (64 * k + i) (.int .u8 (z.toNat : Int)) (show w.heap.size + 1 ≠ g by omega)
              have tB := qB.setCell (p := ⟨g, 64 * k + i, none⟩) hgB (.int .u8 (z.toNat : Int))
              clear r4 q0 q1 qB ce fz cb hxr hw1 hn1
              go_wp2
              go_roundw
              case rel => exact ⟨i + 1, by omega, by go_num, hset, t4, t0, t1, below_drew tB⟩
              case measure => simp [intOf]; omega
            · obtain rfl : i = 64 := by omega
              have hfin : OwnB wr w.heap.size 5 (.slice (some ⟨g, 0, none⟩) n ca1) (xorTo key nonce xs (64 * (k + 1))) := by rw [show 64 * (k + 1) = 64 * k + 64 by omega]; exact ho
              go_wp2
              go_roundw
              case rel => exact ⟨k + 1, by omega, by rw [show 64 * ((k + 1 : Nat) : Int) = 64 * (k : Int) + 64 by omega], hfin, q0, q1, qB⟩
              case measure => simp [intOf]; omega
        · have hmin : (n : Int) < 64 * (k : Int) + 64 := by omega
          have hcap : (n : Int) ≤ (ca1 : Int) := by omega
          go_wp2_with fail
          go_loopw [56] (fun s56 wq => ∃ i : Nat, i ≤ (n - 64 * k) ∧ s56 = .int .i64 (i : Int) ∧ OwnB wq w.heap.size 5 (.slice (some ⟨g, 0, none⟩) n ca1) (xorTo key nonce xs (64 * k + i)) ∧ Row wq g4 (bv Bk).toArray 92 ∧ Row wq w.heap.size (bv key).toArray 48 ∧ Row wq (w.heap.size + 1) (bv nonce).toArray 30 ∧ Below w.heap.size w wq) (fun i _ => ((n - 64 * k) - intOf i).toNat)
          case atStart => exact ⟨0, by omega, rfl, qo, r4, q0, q1, qB⟩
          case round =>
            clear qo r4 q0 q1 qB
            obtain ⟨i, hi, rfl, ho, r4, q0, q1, qB⟩ := hrel
            by_cases hil : i < (n - 64 * k)
            · have hxl := xorTo_length key nonce xs (64 * k + i)
              rw [HNN.out] at hxl
              obtain ⟨ce, fz⟩ := ho.cell (k := 64 * k + i) (by omega)
              rw [← List.getD_eq_getElem?_getD, xorTo_at key nonce xs (by rw [HNN.out]; omega)] at ce
              have cb := bv_cell r4 (j := i) (by rw [HBL.out]; omega)
              have hset := ho.set (k := 64 * k + i) (by omega) (xs.getD (64 * k + i) 0 ^^^ Bk.getD i 0)
              have hst := strmB_at key nonce k i (by omega)
              rw [HBK.out] at hst
              rw [← hst, xorTo_step key nonce xs (by rw [HNN.out]; omega), hst] at hset
              have hxr := u8_xor (xs.getD (64 * k + i) 0) (Bk.getD i 0)
              generalize xs.getD (64 * k + i) 0 ^^^ Bk.getD i 0 = z at *
              generalize xs.getD (64 * k + i) 0 = x at *
              clear hst hxl ho
              generalize Bk.getD i 0 = y at *
              have hw1 : IntKind.i64.wrap (64 * (k : Int) + (i : Int)) = 64 * (k : Int) + (i : Int) := IntWalk.i64_in _ (by omega)
              have hn1 : (64 * (k : Int) + (i : Int)).toNat = 64 * k + i := by omega
              have hn2 : 64 * (k : Int) + (i : Int) < (n : Int) := by omega
              have hn3 : 0 ≤ 64 * (k : Int) + (i : Int) := by omega
              have hil2 : (i : Int) < ((n - 64 * k : Nat) : Int) := by omega
              have hi64 : (i : Int) < 64 := by omega
              have b4 : g4 < wr.heap.size := r4.lt
              have bg : g < wr.heap.size := World.block_lt_of_cell? _ _ ce
              go_upto_region 12 with fail
              (refine wp_region_linN (Below wr.heap.size) (Below wr.heap.size) (wayB _) (wayB _) (fun _ _ h => h) (.free 0 (.free 1 (.free 2 (.free 3 (.free 4 (.hot 5 (.free 6 (.free 7 (.hot 8 (.free 9 (.free 10 (.op 11 [(5, 11), (8, 11)] [] [] .nil)))))))))))) rfl (by kernel_rfl) (by kernel_rfl) (fun _ _ _ _ _ h => h) ?_; (first | (apply linN_free; (simp only [List.getElem?_toArray, List.getElem?_cons_succ, List.getElem?_cons_zero]; rfl); (rfl); (intro w'; (first | (go_simp; done) | (go_simp; with_reducible rfl) | (go_simp; go_bits; with_reducible rfl) | (go_simp; go_bits; done))); try simp only [Act.put, List.setIfInBounds_toArray, List.set_cons_zero, List.set_cons_succ]) | (apply linN_freeSkip; (simp only [List.getElem?_toArray, List.getElem?_cons_succ, List.getElem?_cons_zero]; rfl); (rfl); try simp only [Act.put, List.setIfInBounds_toArray, List.set_cons_zero, List.set_cons_succ])); (first | (apply linN_free; (simp only [List.getElem?_toArray, List.getElem?_cons_succ, List.getElem?_cons_zero]; rfl); (rfl); (intro w'; (first | (go_simp; done) | (go_simp; with_reducible rfl) | (go_simp; go_bits; with_reducible rfl) | (go_simp; go_bits; done))); try simp only [Act.put, List.setIfInBounds_toArray, List.set_cons_zero, List.set_cons_succ]) | (apply linN_freeSkip; (simp only [List.getElem?_toArray, List.getElem?_cons_succ, List.getElem?_cons_zero]; rfl); (rfl); try simp only [Act.put, List.setIfInBounds_toArray, List.set_cons_zero, List.set_cons_succ])); (first | (apply linN_free; (simp only [List.getElem?_toArray, List.getElem?_cons_succ, List.getElem?_cons_zero]; rfl); (rfl); (intro w'; (first | (go_simp; done) | (go_simp; with_reducible rfl) | (go_simp; go_bits; with_reducible rfl) | (go_simp; go_bits; done))); try simp only [Act.put, List.setIfInBounds_toArray, List.set_cons_zero, List.set_cons_succ]) | (apply linN_freeSkip; (simp only [List.getElem?_toArray, List.getElem?_cons_succ, List.getElem?_cons_zero]; rfl); (rfl); try simp only [Act.put, List.setIfInBounds_toArray, List.set_cons_zero, List.set_cons_succ])); (first | (apply linN_free; (simp only [List.getElem?_toArray, List.getElem?_cons_succ, List.getElem?_cons_zero]; rfl); (rfl); (intro w'; (first | (go_simp; done) | (go_simp; with_reducible rfl) | (go_simp; go_bits; with_reducible rfl) | (go_simp; go_bits; done))); try simp only [Act.put, List.setIfInBounds_toArray, List.set_cons_zero, List.set_cons_succ]) | (apply linN_freeSkip; (simp only [List.getElem?_toArray, List.getElem?_cons_succ, List.getElem?_cons_zero]; rfl); (rfl); try simp only [Act.put, List.setIfInBounds_toArray, List.set_cons_zero, List.set_cons_succ])); (first | (apply linN_free; (simp only [List.getElem?_toArray, List.getElem?_cons_succ, List.getElem?_cons_zero]; rfl); (rfl); (intro w'; (first | (go_simp; done) | (go_simp; with_reducible rfl) | (go_simp; go_bits; with_reducible rfl) | (go_simp; go_bits; done))); try simp only [Act.put, List.setIfInBounds_toArray, List.set_cons_zero, List.set_cons_succ]) | (apply linN_freeSkip; (simp only [List.getElem?_toArray, List.getElem?_cons_succ, List.getElem?_cons_zero]; rfl); (rfl); try simp only [Act.put, List.setIfInBounds_toArray, List.set_cons_zero, List.set_cons_succ])); (first | (apply linN_hot; (simp only [List.getElem?_toArray, List.getElem?_cons_succ, List.getElem?_cons_zero]; rfl); (rfl); (intro w' hb'; (try have k_ce := keepB (by first | assumption | omega | (simp; done) | (simp; omega)) hb' ce); (try have k_cb := keepB (by first | assumption | omega | (simp; done) | (simp; omega)) hb' cb); (first | (go_simp; done) | (go_simp; with_reducible rfl) | (go_simp; go_bits; with_reducible rfl) | (go_simp; go_bits; done))); try simp only [Act.put, List.setIfInBounds_toArray, List.set_cons_zero, List.set_cons_succ]) | (apply linN_hotSkip; (simp only [List.getElem?_toArray, List.getElem?_cons_succ, List.getElem?_cons_zero]; rfl); (rfl); try simp only [Act.put, List.setIfInBounds_toArray, List.set_cons_zero, List.set_cons_succ])); (first | (apply linN_free; (simp only [List.getElem?_toArray, List.getElem?_cons_succ, List.getElem?_cons_zero]; rfl); (rfl); (intro w'; (first | (go_simp; done) | (go_simp; with_reducible rfl) | (go_simp; go_bits; with_reducible rfl) | (go_simp; go_bits; done))); try simp only [Act.put, List.setIfInBounds_toArray, List.set_cons_zero, List.set_cons_succ]) | (apply linN_freeSkip; (simp only [List.getElem?_toArray, List.getElem?_cons_succ, List.getElem?_cons_zero]; rfl); (rfl); try simp only [Act.put, List.setIfInBounds_toArray, List.set_cons_zero, List.set_cons_succ])); (first | (apply linN_free; (simp only [List.getElem?_toArray, List.getElem?_cons_succ, List.getElem?_cons_zero]; rfl); (rfl); (intro w'; (first | (go_simp; done) | (go_simp; with_reducible rfl) | (go_simp; go_bits; with_reducible rfl) | (go_simp; go_bits; done))); try simp only [Act.put, List.setIfInBounds_toArray, List.set_cons_zero, List.set_cons_succ]) | (apply linN_freeSkip; (simp only [List.getElem?_toArray, List.getElem?_cons_succ, List.getElem?_cons_zero]; rfl); (rfl); try simp only [Act.put, List.setIfInBounds_toArray, List.set_cons_zero, List.set_cons_succ])); (first | (apply linN_hot; (simp only [List.getElem?_toArray, List.getElem?_cons_succ, List.getElem?_cons_zero]; rfl); (rfl); (intro w' hb'; (try have k_ce := keepB (by first | assumption | omega | (simp; done) | (simp; omega)) hb' ce); (try have k_cb := keepB (by first | assumption | omega | (simp; done) | (simp; omega)) hb' cb); (first | (go_simp; done) | (go_simp; with_reducible rfl) | (go_simp; go_bits; with_reducible rfl) | (go_simp; go_bits; done))); try simp only [Act.put, List.setIfInBounds_toArray, List.set_cons_zero, List.set_cons_succ]) | (apply linN_hotSkip; (simp only [List.getElem?_toArray, List.getElem?_cons_succ, List.getElem?_cons_zero]; rfl); (rfl); try simp only [Act.put, List.setIfInBounds_toArray, List.set_cons_zero, List.set_cons_succ])); (first | (apply linN_free; (simp only [List.getElem?_toArray, List.getElem?_cons_succ, List.getElem?_cons_zero]; rfl); (rfl); (intro w'; (first | (go_simp; done) | (go_simp; with_reducible rfl) | (go_simp; go_bits; with_reducible rfl) | (go_simp; go_bits; done))); try simp only [Act.put, List.setIfInBounds_toArray, List.set_cons_zero, List.set_cons_succ]) | (apply linN_freeSkip; (simp only [List.getElem?_toArray, List.getElem?_cons_succ, List.getElem?_cons_zero]; rfl); (rfl); try simp only [Act.put, List.setIfInBounds_toArray, List.set_cons_zero, List.set_cons_succ])); (first | (apply linN_free; (simp only [List.getElem?_toArray, List.getElem?_cons_succ, List.getElem?_cons_zero]; rfl); (rfl); (intro w'; (first | (go_simp; done) | (go_simp; with_reducible rfl) | (go_simp; go_bits; with_reducible rfl) | (go_simp; go_bits; done))); try simp only [Act.put, List.setIfInBounds_toArray, List.set_cons_zero, List.set_cons_succ]) | (apply linN_freeSkip; (simp only [List.getElem?_toArray, List.getElem?_cons_succ, List.getElem?_cons_zero]; rfl); (rfl); try simp only [Act.put, List.setIfInBounds_toArray, List.set_cons_zero, List.set_cons_succ])); (first | (apply linN_pass (wayB _) (wayB _); (simp only [List.getElem?_toArray, List.getElem?_cons_succ, List.getElem?_cons_zero]; rfl); (rfl); try simp only [Act.put, List.setIfInBounds_toArray, List.set_cons_zero, List.set_cons_succ]) | (apply linN_op; (simp only [List.getElem?_toArray, List.getElem?_cons_succ, List.getElem?_cons_zero]; rfl); (rfl); intro K hK; (first | (go_simp; (first | skip))); refine hK _ _ ?_ ?_; (exact trivial); clear hK; try simp only [Act.put, List.setIfInBounds_toArray, List.set_cons_zero, List.set_cons_succ])); refine linN_end ?_)
              have t4 : Row _ g4 _ _ := r4.set_other (64 * k + i) (.int .u8 (z.toNat : Int)) (show g4 ≠ g by omega)
              have t0 : Row _ w.heap.size _ _ := q0.set_other (64 * k + i) (.int .u8 (z.toNat : Int)) (show w.heap.size ≠ g by omega)
              have t1 : Row _ (w.heap.size + 1) _ _ := q1.set_other (64 * k + i) (.int .u8 (z.toNat : Int)) (show w.heap.size + 1 ≠ g by omega)
              have tB := qB.setCell (p := ⟨g, 64 * k + i, none⟩) hgB (.int .u8 (z.toNat : Int))
              clear r4 q0 q1 qB ce fz cb hxr hw1 hn1
              go_wp2
              go_roundw
              case rel => exact ⟨i + 1, by omega, by go_num, hset, t4, t0, t1, below_drew tB⟩
              case measure => simp [intOf]; omega
            · obtain rfl : i = (n - 64 * k) := by omega
              have hfin : OwnB wr w.heap.size 5 (.slice (some ⟨g, 0, none⟩) n ca1) (xorTo key nonce xs (64 * (k + 1))) := by rw [xorTo_end key nonce xs (m := 64 * (k + 1)) (by rw [HNN.out]; omega)]; rw [xorTo_end key nonce xs (m := 64 * k + (n - 64 * k)) (by rw [HNN.out]; omega)] at ho; exact ho
              go_wp2
              go_roundw
              case rel => exact ⟨k + 1, by omega, by rw [show 64 * ((k + 1 : Nat) : Int) = 64 * (k : Int) + 64 by omega], hfin, q0, q1, qB⟩
              case measure => simp [intOf]; omega
      · have hlt' : ¬ 64 * (k : Int) < (n : Int) := by omega
        rw [xorTo_end key nonce xs (m := 64 * k) (by rw [HNN.out]; omega)] at ho
        go_wp2
        go_ret2
        exact ⟨_, rfl, ho, hB⟩
end Go.Proofs.Ytlbpmboknmbcgaa
