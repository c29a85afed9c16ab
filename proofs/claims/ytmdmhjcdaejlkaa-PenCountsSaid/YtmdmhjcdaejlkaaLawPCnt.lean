/- The walk of PenCounts. -/
import Derived.Test.YtmdmhjcdaejlkaaAwk9
import Derived.Test.YtmdmhjcdaejlkaaMat
import Derived.Test.YtmdmhjcdaejlkaaEq12
set_option linter.unusedVariables false
set_option linter.unusedSimpArgs false
namespace Go.Proofs.Ytmdmhjcdaejlkaa
open Go.RowKit

/-- what a write that fits leaves: the last event's head -/
structure PcT (D D' : Dk) (at_ : Int) (k : Nat) (H B : List UInt8) : Prop where
  len : D'.trace.length = k + 1
  ev : D'.trace[k]? = some ⟨2, at_, H, B⟩
theorem pct {D : Dk} {k : Nat} (hk : D.trace.length = k) (hs : D.size = 50) (at_ : Int) (key : List UInt8) (boot seq : Nat) (xs : List UInt8) (hx : xs.length ≤ 28) :
    PcT D (D.write at_ (sealL key boot seq xs 50)) at_ k (headL12 boot seq) (sealL key boot seq xs 50) := by
  have hl : (sealL key boot seq xs 50).length = 50 := sealL_length (by omega)
  have hf : fitL 50 (sealL key boot seq xs 50) = sealL key boot seq xs 50 := fitL_full 50 _ (by rw [hl]; rfl)
  have hh : headL (sealL key boot seq xs 50) = headL12 boot seq := by
    rw [← sealL_take (key := key) (boot := boot) (seq := seq) (plain := xs) (size := 50)]
    unfold headL
    rw [hl]
    simp
  refine ⟨by rw [write_trace]; simp [hk], ?_⟩
  rw [write_trace, List.getElem?_append_right (by omega), hk, Nat.sub_self, hs, hf, hh]
  rfl
set_option maxHeartbeats 8000000 in
set_option maxRecDepth 100000 in
theorem w_pcnt0 (key : List UInt8) (hk : key.length = 32) (boot : Nat) (hb : boot < 4294967296) (A0 : Option Addr) (l0 c0 : Nat) (xss : List (List UInt8)) (w : World) (hM : Mat w A0 l0 xss) :
    Calls Try.prog 4 #[.agg (bv key).toArray, .int .u32 (boot : Int), .slice A0 l0 c0] w fun e w' => e = .returned (.bool true) ∧ Below w.heap.size w w' := by
  have HK := Lib.hid hk
  have HB := Lib.hid hb
  have HM := Lib.hid hM
  have r0 := Row.new w (bv key).toArray 22
  have hB0 := below_alloc (Below.refl w.heap.size w) (.cells (bv key).toArray 22)
  have hlB : w.heap.size < (w.alloc (.cells (bv key).toArray 22)).heap.size := by simp
  clear hk hb hM
  go_enter Try.func4, Try.ntmps4
  go_upto_region 1 with fail
  generalize w.alloc (.cells (bv key).toArray 22) = w0 at *
  generalize hBs : w0.heap.size = bs at *
  have HNW := Lib.hid (i_new 3 50 w0 (by decide) (by decide))
  rw [hBs] at HNW
  clear hBs
  go_upto_region 2 with (go_at_call 17; (with_reducible refine HNW.out.mono ?_); rintro e w1 ⟨b, rfl, hI, hb1⟩)
  have r1 := r0.below hb1 (by omega)
  have hB1 := hB0.trans (hb1.mono (Nat.le_of_lt hlB))
  have hfr : Free (dkNew 3 50) := ⟨rfl, rfl⟩
  have hsz : (dkNew 3 50).size = 50 := rfl
  generalize dkNew 3 50 = D0 at *
  have HN1 := Lib.hid (p_new b key HK.out boot HB.out w1)
  go_upto_region 5 with (first | (apply wpl_loadS (ty := 22); rfl; rfl; rfl; kernel_rfl; exact r1; (simp only [List.size_toArray, bv_length, HK.out]; kernel_rfl); simp only [Act.put, List.setIfInBounds_toArray, List.set_cons_zero, List.set_cons_succ]) | (go_at_call 18; (with_reducible refine HN1.out.mono ?_); rintro e w2 ⟨g, rfl, hP, hg, hb2⟩))
  have hgb : bs ≤ g := Nat.le_trans hI.le hg
  have hI2 := hI.below hb2
  have r2 := r1.below hb2 r1.lt
  have hB2 := below_two hB1 hb2
  clear HNW HN1 hI hb1 hB0 r0 r1 hB1 hb2 hg
  go_wp2_with fail
  go_loopw [9, 10] (fun s9 s10 wr => ∃ (i q : Nat) (D : Dk), i ≤ 20 ∧ q ≤ i ∧ s9 = .int .u64 (q : Int) ∧ s10 = .int .i64 (i : Int) ∧ Free D ∧ D.size = 50 ∧ In wr bs b D (4 * i) ∧ PenAt wr g b key boot q ∧ Row wr w.heap.size (bv key).toArray 22 ∧ Below w.heap.size w wr) (fun _ s10 _ => (20 - intOf s10).toNat)
  case atStart => exact ⟨0, 0, D0, by omega, by omega, rfl, rfl, hfr, hsz, hI2, hP, r2, hB2⟩
  case round =>
    obtain ⟨i, q, D, hi, hqi, rfl, rfl, hfr, hsz, hIr, hPr, rr, hBr⟩ := hrel
    clear hI2 hP r2 hB2
    by_cases hend : (i : Int) < (l0 : Int) ∧ (i : Int) < 20
    · obtain ⟨q0, q1⟩ := hend
      obtain ⟨xs, hxs⟩ : ∃ xs, xss[i]? = some xs := ⟨_, List.getElem?_eq_getElem (by have := HM.out.1; omega)⟩
      obtain ⟨ad0, v0, rfl, hc0, hx0⟩ := HM.out.2 i xs hxs
      obtain ⟨Ax, cx, rfl, hxc, -, hxr, -⟩ := hx0
      have hlt0 : ad0.block < w.heap.size := by have := World.block_lt_of_cell? w _ hc0; rwa [ad_block] at this
      obtain ⟨k, hk⟩ : ∃ k, D.trace.length = k := ⟨_, rfl⟩
      have hkl := hIr.bd.ln
      rw [hk] at hkl
      have HKT := Lib.hid hk
      have HTR := Lib.hid (i_trace hIr (by omega))
      have hfx : fitsB xs.length D.size = decide (xs.length ≤ 28) := by
        rw [hsz]; unfold fitsB
        by_cases h : xs.length ≤ 28
        · simp [h]; omega
        · simp [h]; omega
      clear hk
      go_upto_region 10 with (go_at_call 26; (with_reducible refine HTR.out.mono ?_); rintro e w3 ⟨vt, rfl, ht3, hI3, hb3⟩; (obtain ⟨ts9, -, -, ht6⟩ := ht3); (obtain ⟨A9, c9, rfl, -, -⟩ := own_form ht6); rw [HKT.out])
      have hP3 := hPr.below hb3 hPr.lt
      have r3 := rr.below hb3 rr.lt
      have hB3 := below_two hBr hb3
      clear HTR ht6 hIr hPr rr hBr hb3
      have hm := m3 (i : Int)
      obtain ⟨at_, hat⟩ : ∃ at_ : Nat, (i : Int) % 4 = (at_ : Int) := ⟨i % 4, by omega⟩
      rw [hat] at hm
      have hat4 : at_ < 4 := by omega
      have hc3 : w3.cell? (ad0.add i) = some (.slice Ax xs.length cx) := (hB3.cell (p := ad0.add i) (by rw [ad_block]; exact hlt0)).trans hc0
      have hx3 : RdB w3 Ax xs.length xs := hxr.below hB3 (Nat.le_refl _)
      clear hat
      have hwsp : w.heap.size < bs := hlB
      have hci : ∀ w', Below w3.heap.size w3 w' → w'.cell? (ad0.add i) = some (.slice Ax xs.length cx) := fun w' hb => (hb.cell (p := ad0.add i) (World.block_lt_of_cell? w3 _ hc3)).trans hc3
      have hwf := wf_i64 (x := (at_ : Int)) (by omega) (by omega)
      have hqy : q < 18446744073709551615 := by omega
      have HQY := Lib.hid hqy
      have e50 : D.size.toNat = 50 := by rw [hsz]; rfl
      clear hqy
      by_cases h28 : xs.length ≤ 28
      case' pos =>
        have HW := Lib.hid (p_write hP3 hI3 (by omega) hgb hfr.goes (at_ : Int) hwf Ax xs.length cx xs hx3 (Nat.zero_le _) HQY.out true (by rw [hfx]; exact decide_eq_true h28))
        rw [e50] at HW
        simp only [if_true] at HW
        have hpc := pct HKT.out hsz (at_ : Int) key boot q xs h28
        have hfr4 : Free (D.write (at_ : Int) (sealL key boot q xs 50)) := hfr.write _ _
        have hsz4 : (D.write (at_ : Int) (sealL key boot q xs 50)).size = 50 := (write_size _ _ _).trans hsz
        have h28i : (xs.length : Int) ≤ 28 := by omega
        clear h28 hfx
        generalize sealL key boot q xs 50 = SB at *
        generalize D.write (at_ : Int) SB = D4 at *
        go_upto_region 11 with (go_at_call 19; (with_reducible refine HW.out.mono ?_); rintro e w4 ⟨rfl, hI4, hP4, hp4⟩)
        have r4 := hp4.2 _ _ _ r3 (by decide) (by omega)
        have hB4 := hB3.trans (hp4.1.mono (Nat.le_of_lt hwsp))
        have hc4 : w4.cell? (ad0.add i) = some (.slice Ax xs.length cx) := (hB4.cell (p := ad0.add i) (by rw [ad_block]; exact hlt0)).trans hc0
        have HT4 := Lib.hid (i_trace hI4 (by omega))
        have HPC := Lib.hid hpc
        clear HW hp4 hP3 hI3 hB3 r3 hc3 hx3 hci hpc
        go_upto_region 15 with (go_at_call 26; (with_reducible refine HT4.out.mono ?_); rintro e w5 ⟨vt, rfl, ht5, hI5, hb5⟩)
        obtain ⟨g', cap', A', n', c', ev, hl12, -, f5⟩ := ht5.elem HPC.out.ev
        subst ev
        obtain ⟨k1, hk1⟩ : ∃ k1, k + 1 = k1 := ⟨_, rfl⟩
        rw [HPC.out.len, hk1]
        have hki : (k : Int) + 1 = (k1 : Int) := by omega
        have hwk : IntKind.i64.wrap (k1 : Int) = (k1 : Int) := IntWalk.i64_in _ (by omega)
        have hkk : (k : Int) < (k1 : Int) := by omega
        have hk0 : (0 : Int) ≤ (k : Int) := by omega
        clear hk1
        have h2 : ∀ p v, (bv (headL12 boot q))[p]? = some v → w5.drew.cell? ((⟨g', k * 15 + 2, none⟩ : Addr).add p) = some v := fun p v hv => by
          have hp : p < 12 := by have := (List.getElem?_eq_some_iff.1 hv).1; rw [bv_length, headL12_length] at this; exact this
          have := f5 (2 + p) v (by show ([Value.int .i64 2, .int .i64 (at_ : Int)] ++ bv (headL12 boot q) ++ [.slice A' n' c'])[2 + p]? = _; rw [List.append_assoc, List.getElem?_append_right (by simp), List.getElem?_append_left (by simp [bv_length, headL12_length]; omega)]; simpa using hv)
          rw [ad_none] at this ⊢
          rw [Nat.add_assoc]
          exact this
        have H2 := Lib.hid h2
        have hq12 : ∀ W, (Op.equalIn 10000 43 (.agg (bv (headL12 boot q)).toArray) (.agg (bv (headL12 boot q)).toArray)).run Try.prog W = .ok true W := eq12 _ (headL12_length boot q)
        have HRH := Lib.hid (c_rHead boot q HB.out w5.drew)
        have HH12 := Lib.hid (headL12_length boot q)
        have hP5 := (hP4.below hb5 hP4.lt)
        have r5 := r4.below hb5 r4.lt
        have hB5 := hB4.trans (hb5.mono hB4.size)
        obtain ⟨y, hy⟩ : ∃ y : Nat, q + 1 = y := ⟨_, rfl⟩
        have hyi : (q : Int) + 1 = (y : Int) := by omega
        have hwy : IntKind.u64.wrap (y : Int) = (y : Int) := IntWalk.u64_in _ ⟨by omega, by omega⟩
        rw [hy] at hP5
        have hyq : y ≤ i + 1 := by omega
        clear hy h2 f5 ht5 hl12 hb5 HT4 hP4 r4 hB4 hI4 HPC hc4
        generalize headL12 boot q = H at *
        (refine wp_region_linN (KpP) (KpP) (wayKpP) (wayKpP) (fun _ _ h => h) (.free 0 (.free 1 (.free 2 (.free 3 (.free 4 (.free 5 (.free 6 (.free 7 (.free 8 (.free 9 (.hot 10 (.free 11 (.free 12 (.op 13 [] [10] [] (.free 14 (.free 15 .nil)))))))))))))))) rfl (by kernel_rfl) (by kernel_rfl) (fun _ _ _ _ _ h => h) ?_; (first | (apply linN_hotLoad (ty := 43) (vs := bv H) (ad := ⟨g', k * 15 + 2, none⟩); (simp only [List.getElem?_toArray, List.getElem?_cons_succ, List.getElem?_cons_zero]; rfl); (rfl); (rfl); (rfl); (intro _; kernel_rfl); (rw [bv_length, HH12.out]; kernel_rfl); (intro w' hR p v hv; exact kpP_cell hR (H2.out p v hv)); try simp only [Act.put, List.setIfInBounds_toArray, List.set_cons_zero, List.set_cons_succ]) | (apply linN_free; (simp only [List.getElem?_toArray, List.getElem?_cons_succ, List.getElem?_cons_zero]; rfl); (rfl); (intro w'; (first | (go_simp; done) | (go_simp; with_reducible rfl) | (go_simp; go_bits; with_reducible rfl) | (go_simp; go_bits; done))); try simp only [Act.put, List.setIfInBounds_toArray, List.set_cons_zero, List.set_cons_succ]) | (apply linN_freeSkip; (simp only [List.getElem?_toArray, List.getElem?_cons_succ, List.getElem?_cons_zero]; rfl); (rfl); try simp only [Act.put, List.setIfInBounds_toArray, List.set_cons_zero, List.set_cons_succ])); (first | (apply linN_hotLoad (ty := 43) (vs := bv H) (ad := ⟨g', k * 15 + 2, none⟩); (simp only [List.getElem?_toArray, List.getElem?_cons_succ, List.getElem?_cons_zero]; rfl); (rfl); (rfl); (rfl); (intro _; kernel_rfl); (rw [bv_length, HH12.out]; kernel_rfl); (intro w' hR p v hv; exact kpP_cell hR (H2.out p v hv)); try simp only [Act.put, List.setIfInBounds_toArray, List.set_cons_zero, List.set_cons_succ]) | (apply linN_free; (simp only [List.getElem?_toArray, List.getElem?_cons_succ, List.getElem?_cons_zero]; rfl); (rfl); (intro w'; (first | (go_simp; done) | (go_simp; with_reducible rfl) | (go_simp; go_bits; with_reducible rfl) | (go_simp; go_bits; done))); try simp only [Act.put, List.setIfInBounds_toArray, List.set_cons_zero, List.set_cons_succ]) | (apply linN_freeSkip; (simp only [List.getElem?_toArray, List.getElem?_cons_succ, List.getElem?_cons_zero]; rfl); (rfl); try simp only [Act.put, List.setIfInBounds_toArray, List.set_cons_zero, List.set_cons_succ])); (first | (apply linN_hotLoad (ty := 43) (vs := bv H) (ad := ⟨g', k * 15 + 2, none⟩); (simp only [List.getElem?_toArray, List.getElem?_cons_succ, List.getElem?_cons_zero]; rfl); (rfl); (rfl); (rfl); (intro _; kernel_rfl); (rw [bv_length, HH12.out]; kernel_rfl); (intro w' hR p v hv; exact kpP_cell hR (H2.out p v hv)); try simp only [Act.put, List.setIfInBounds_toArray, List.set_cons_zero, List.set_cons_succ]) | (apply linN_free; (simp only [List.getElem?_toArray, List.getElem?_cons_succ, List.getElem?_cons_zero]; rfl); (rfl); (intro w'; (first | (go_simp; done) | (go_simp; with_reducible rfl) | (go_simp; go_bits; with_reducible rfl) | (go_simp; go_bits; done))); try simp only [Act.put, List.setIfInBounds_toArray, List.set_cons_zero, List.set_cons_succ]) | (apply linN_freeSkip; (simp only [List.getElem?_toArray, List.getElem?_cons_succ, List.getElem?_cons_zero]; rfl); (rfl); try simp only [Act.put, List.setIfInBounds_toArray, List.set_cons_zero, List.set_cons_succ])); (first | (apply linN_hotLoad (ty := 43) (vs := bv H) (ad := ⟨g', k * 15 + 2, none⟩); (simp only [List.getElem?_toArray, List.getElem?_cons_succ, List.getElem?_cons_zero]; rfl); (rfl); (rfl); (rfl); (intro _; kernel_rfl); (rw [bv_length, HH12.out]; kernel_rfl); (intro w' hR p v hv; exact kpP_cell hR (H2.out p v hv)); try simp only [Act.put, List.setIfInBounds_toArray, List.set_cons_zero, List.set_cons_succ]) | (apply linN_free; (simp only [List.getElem?_toArray, List.getElem?_cons_succ, List.getElem?_cons_zero]; rfl); (rfl); (intro w'; (first | (go_simp; done) | (go_simp; with_reducible rfl) | (go_simp; go_bits; with_reducible rfl) | (go_simp; go_bits; done))); try simp only [Act.put, List.setIfInBounds_toArray, List.set_cons_zero, List.set_cons_succ]) | (apply linN_freeSkip; (simp only [List.getElem?_toArray, List.getElem?_cons_succ, List.getElem?_cons_zero]; rfl); (rfl); try simp only [Act.put, List.setIfInBounds_toArray, List.set_cons_zero, List.set_cons_succ])); (first | (apply linN_hotLoad (ty := 43) (vs := bv H) (ad := ⟨g', k * 15 + 2, none⟩); (simp only [List.getElem?_toArray, List.getElem?_cons_succ, List.getElem?_cons_zero]; rfl); (rfl); (rfl); (rfl); (intro _; kernel_rfl); (rw [bv_length, HH12.out]; kernel_rfl); (intro w' hR p v hv; exact kpP_cell hR (H2.out p v hv)); try simp only [Act.put, List.setIfInBounds_toArray, List.set_cons_zero, List.set_cons_succ]) | (apply linN_free; (simp only [List.getElem?_toArray, List.getElem?_cons_succ, List.getElem?_cons_zero]; rfl); (rfl); (intro w'; (first | (go_simp; done) | (go_simp; with_reducible rfl) | (go_simp; go_bits; with_reducible rfl) | (go_simp; go_bits; done))); try simp only [Act.put, List.setIfInBounds_toArray, List.set_cons_zero, List.set_cons_succ]) | (apply linN_freeSkip; (simp only [List.getElem?_toArray, List.getElem?_cons_succ, List.getElem?_cons_zero]; rfl); (rfl); try simp only [Act.put, List.setIfInBounds_toArray, List.set_cons_zero, List.set_cons_succ])); (first | (apply linN_hotLoad (ty := 43) (vs := bv H) (ad := ⟨g', k * 15 + 2, none⟩); (simp only [List.getElem?_toArray, List.getElem?_cons_succ, List.getElem?_cons_zero]; rfl); (rfl); (rfl); (rfl); (intro _; kernel_rfl); (rw [bv_length, HH12.out]; kernel_rfl); (intro w' hR p v hv; exact kpP_cell hR (H2.out p v hv)); try simp only [Act.put, List.setIfInBounds_toArray, List.set_cons_zero, List.set_cons_succ]) | (apply linN_free; (simp only [List.getElem?_toArray, List.getElem?_cons_succ, List.getElem?_cons_zero]; rfl); (rfl); (intro w'; (first | (go_simp; done) | (go_simp; with_reducible rfl) | (go_simp; go_bits; with_reducible rfl) | (go_simp; go_bits; done))); try simp only [Act.put, List.setIfInBounds_toArray, List.set_cons_zero, List.set_cons_succ]) | (apply linN_freeSkip; (simp only [List.getElem?_toArray, List.getElem?_cons_succ, List.getElem?_cons_zero]; rfl); (rfl); try simp only [Act.put, List.setIfInBounds_toArray, List.set_cons_zero, List.set_cons_succ])); (first | (apply linN_hotLoad (ty := 43) (vs := bv H) (ad := ⟨g', k * 15 + 2, none⟩); (simp only [List.getElem?_toArray, List.getElem?_cons_succ, List.getElem?_cons_zero]; rfl); (rfl); (rfl); (rfl); (intro _; kernel_rfl); (rw [bv_length, HH12.out]; kernel_rfl); (intro w' hR p v hv; exact kpP_cell hR (H2.out p v hv)); try simp only [Act.put, List.setIfInBounds_toArray, List.set_cons_zero, List.set_cons_succ]) | (apply linN_free; (simp only [List.getElem?_toArray, List.getElem?_cons_succ, List.getElem?_cons_zero]; rfl); (rfl); (intro w'; (first | (go_simp; done) | (go_simp; with_reducible rfl) | (go_simp; go_bits; with_reducible rfl) | (go_simp; go_bits; done))); try simp only [Act.put, List.setIfInBounds_toArray, List.set_cons_zero, List.set_cons_succ]) | (apply linN_freeSkip; (simp only [List.getElem?_toArray, List.getElem?_cons_succ, List.getElem?_cons_zero]; rfl); (rfl); try simp only [Act.put, List.setIfInBounds_toArray, List.set_cons_zero, List.set_cons_succ])); (first | (apply linN_hotLoad (ty := 43) (vs := bv H) (ad := ⟨g', k * 15 + 2, none⟩); (simp only [List.getElem?_toArray, List.getElem?_cons_succ, List.getElem?_cons_zero]; rfl); (rfl); (rfl); (rfl); (intro _; kernel_rfl); (rw [bv_length, HH12.out]; kernel_rfl); (intro w' hR p v hv; exact kpP_cell hR (H2.out p v hv)); try simp only [Act.put, List.setIfInBounds_toArray, List.set_cons_zero, List.set_cons_succ]) | (apply linN_free; (simp only [List.getElem?_toArray, List.getElem?_cons_succ, List.getElem?_cons_zero]; rfl); (rfl); (intro w'; (first | (go_simp; done) | (go_simp; with_reducible rfl) | (go_simp; go_bits; with_reducible rfl) | (go_simp; go_bits; done))); try simp only [Act.put, List.setIfInBounds_toArray, List.set_cons_zero, List.set_cons_succ]) | (apply linN_freeSkip; (simp only [List.getElem?_toArray, List.getElem?_cons_succ, List.getElem?_cons_zero]; rfl); (rfl); try simp only [Act.put, List.setIfInBounds_toArray, List.set_cons_zero, List.set_cons_succ])); (first | (apply linN_hotLoad (ty := 43) (vs := bv H) (ad := ⟨g', k * 15 + 2, none⟩); (simp only [List.getElem?_toArray, List.getElem?_cons_succ, List.getElem?_cons_zero]; rfl); (rfl); (rfl); (rfl); (intro _; kernel_rfl); (rw [bv_length, HH12.out]; kernel_rfl); (intro w' hR p v hv; exact kpP_cell hR (H2.out p v hv)); try simp only [Act.put, List.setIfInBounds_toArray, List.set_cons_zero, List.set_cons_succ]) | (apply linN_free; (simp only [List.getElem?_toArray, List.getElem?_cons_succ, List.getElem?_cons_zero]; rfl); (rfl); (intro w'; (first | (go_simp; done) | (go_simp; with_reducible rfl) | (go_simp; go_bits; with_reducible rfl) | (go_simp; go_bits; done))); try simp only [Act.put, List.setIfInBounds_toArray, List.set_cons_zero, List.set_cons_succ]) | (apply linN_freeSkip; (simp only [List.getElem?_toArray, List.getElem?_cons_succ, List.getElem?_cons_zero]; rfl); (rfl); try simp only [Act.put, List.setIfInBounds_toArray, List.set_cons_zero, List.set_cons_succ])); (first | (apply linN_hotLoad (ty := 43) (vs := bv H) (ad := ⟨g', k * 15 + 2, none⟩); (simp only [List.getElem?_toArray, List.getElem?_cons_succ, List.getElem?_cons_zero]; rfl); (rfl); (rfl); (rfl); (intro _; kernel_rfl); (rw [bv_length, HH12.out]; kernel_rfl); (intro w' hR p v hv; exact kpP_cell hR (H2.out p v hv)); try simp only [Act.put, List.setIfInBounds_toArray, List.set_cons_zero, List.set_cons_succ]) | (apply linN_free; (simp only [List.getElem?_toArray, List.getElem?_cons_succ, List.getElem?_cons_zero]; rfl); (rfl); (intro w'; (first | (go_simp; done) | (go_simp; with_reducible rfl) | (go_simp; go_bits; with_reducible rfl) | (go_simp; go_bits; done))); try simp only [Act.put, List.setIfInBounds_toArray, List.set_cons_zero, List.set_cons_succ]) | (apply linN_freeSkip; (simp only [List.getElem?_toArray, List.getElem?_cons_succ, List.getElem?_cons_zero]; rfl); (rfl); try simp only [Act.put, List.setIfInBounds_toArray, List.set_cons_zero, List.set_cons_succ])); (first | (apply linN_hotLoad (ty := 43) (vs := bv H) (ad := ⟨g', k * 15 + 2, none⟩); (simp only [List.getElem?_toArray, List.getElem?_cons_succ, List.getElem?_cons_zero]; rfl); (rfl); (rfl); (rfl); (intro _; kernel_rfl); (rw [bv_length, HH12.out]; kernel_rfl); (intro w' hR p v hv; exact kpP_cell hR (H2.out p v hv)); try simp only [Act.put, List.setIfInBounds_toArray, List.set_cons_zero, List.set_cons_succ]) | (apply linN_hot; (simp only [List.getElem?_toArray, List.getElem?_cons_succ, List.getElem?_cons_zero]; rfl); (rfl); (intro w' hb'; (first | (go_simp; done) | (go_simp; with_reducible rfl) | (go_simp; go_bits; with_reducible rfl) | (go_simp; go_bits; done))); try simp only [Act.put, List.setIfInBounds_toArray, List.set_cons_zero, List.set_cons_succ]) | (apply linN_hotSkip; (simp only [List.getElem?_toArray, List.getElem?_cons_succ, List.getElem?_cons_zero]; rfl); (rfl); try simp only [Act.put, List.setIfInBounds_toArray, List.set_cons_zero, List.set_cons_succ])); (first | (apply linN_hotLoad (ty := 43) (vs := bv H) (ad := ⟨g', k * 15 + 2, none⟩); (simp only [List.getElem?_toArray, List.getElem?_cons_succ, List.getElem?_cons_zero]; rfl); (rfl); (rfl); (rfl); (intro _; kernel_rfl); (rw [bv_length, HH12.out]; kernel_rfl); (intro w' hR p v hv; exact kpP_cell hR (H2.out p v hv)); try simp only [Act.put, List.setIfInBounds_toArray, List.set_cons_zero, List.set_cons_succ]) | (apply linN_free; (simp only [List.getElem?_toArray, List.getElem?_cons_succ, List.getElem?_cons_zero]; rfl); (rfl); (intro w'; (first | (go_simp; done) | (go_simp; with_reducible rfl) | (go_simp; go_bits; with_reducible rfl) | (go_simp; go_bits; done))); try simp only [Act.put, List.setIfInBounds_toArray, List.set_cons_zero, List.set_cons_succ]) | (apply linN_freeSkip; (simp only [List.getElem?_toArray, List.getElem?_cons_succ, List.getElem?_cons_zero]; rfl); (rfl); try simp only [Act.put, List.setIfInBounds_toArray, List.set_cons_zero, List.set_cons_succ])); (first | (apply linN_hotLoad (ty := 43) (vs := bv H) (ad := ⟨g', k * 15 + 2, none⟩); (simp only [List.getElem?_toArray, List.getElem?_cons_succ, List.getElem?_cons_zero]; rfl); (rfl); (rfl); (rfl); (intro _; kernel_rfl); (rw [bv_length, HH12.out]; kernel_rfl); (intro w' hR p v hv; exact kpP_cell hR (H2.out p v hv)); try simp only [Act.put, List.setIfInBounds_toArray, List.set_cons_zero, List.set_cons_succ]) | (apply linN_free; (simp only [List.getElem?_toArray, List.getElem?_cons_succ, List.getElem?_cons_zero]; rfl); (rfl); (intro w'; (first | (go_simp; done) | (go_simp; with_reducible rfl) | (go_simp; go_bits; with_reducible rfl) | (go_simp; go_bits; done))); try simp only [Act.put, List.setIfInBounds_toArray, List.set_cons_zero, List.set_cons_succ]) | (apply linN_freeSkip; (simp only [List.getElem?_toArray, List.getElem?_cons_succ, List.getElem?_cons_zero]; rfl); (rfl); try simp only [Act.put, List.setIfInBounds_toArray, List.set_cons_zero, List.set_cons_succ])); (first | (apply linN_pass (wayKpP) (wayKpP); (simp only [List.getElem?_toArray, List.getElem?_cons_succ, List.getElem?_cons_zero]; rfl); (rfl); try simp only [Act.put, List.setIfInBounds_toArray, List.set_cons_zero, List.set_cons_succ]) | (apply linN_op; (simp only [List.getElem?_toArray, List.getElem?_cons_succ, List.getElem?_cons_zero]; rfl); (rfl); intro K hK; (first | (go_simp; (first | (go_at_call 27; (with_reducible refine HRH.out.mono ?_); rintro e w6 ⟨rfl, hb6⟩; have hdr2 : KpP _ w6 := hb6) | skip))); refine hK _ _ ?_ ?_; (show (KpP) _ _; (first | exact hdr2 | assumption | exact (wayKpP).refl _ | exact (wayKpP).refl _ | exact Below.refl _ _ | exact ⟨rfl, rfl, rfl, Nat.le_refl _, fun _ _ => rfl⟩ | exact but_set _ _ _ _ _ | exact but_drew (but_set _ _ _ _ _) | exact but_upd (by assumption) | exact but_below (by assumption) | exact belowB_alloc (by first | omega | (simp; done) | (simp; omega)) _ | exact belowB_mono (by first | omega | (simp; done) | (simp; omega)) (by assumption) | (first | exact rg_alloc (by simp; omega) (by simp; omega) _ | exact FR.of_below (below_alloc (Below.refl _ _) _) (by first | assumption | (simp; omega)) | exact DR.of_below (below_alloc (Below.refl _ _) _) (by first | assumption | (simp; omega))))); clear hK; try simp only [Act.put, List.setIfInBounds_toArray, List.set_cons_zero, List.set_cons_succ])); (first | (apply linN_hotLoad (ty := 43) (vs := bv H) (ad := ⟨g', k * 15 + 2, none⟩); (simp only [List.getElem?_toArray, List.getElem?_cons_succ, List.getElem?_cons_zero]; rfl); (rfl); (rfl); (rfl); (intro _; kernel_rfl); (rw [bv_length, HH12.out]; kernel_rfl); (intro w' hR p v hv; exact kpP_cell hR (H2.out p v hv)); try simp only [Act.put, List.setIfInBounds_toArray, List.set_cons_zero, List.set_cons_succ]) | (apply linN_free; (simp only [List.getElem?_toArray, List.getElem?_cons_succ, List.getElem?_cons_zero]; rfl); (rfl); (intro w'; (first | (go_simp; done) | (go_simp; with_reducible rfl) | (go_simp; go_bits; with_reducible rfl) | (go_simp; go_bits; done))); try simp only [Act.put, List.setIfInBounds_toArray, List.set_cons_zero, List.set_cons_succ]) | (apply linN_freeSkip; (simp only [List.getElem?_toArray, List.getElem?_cons_succ, List.getElem?_cons_zero]; rfl); (rfl); try simp only [Act.put, List.setIfInBounds_toArray, List.set_cons_zero, List.set_cons_succ])); (first | (apply linN_hotLoad (ty := 43) (vs := bv H) (ad := ⟨g', k * 15 + 2, none⟩); (simp only [List.getElem?_toArray, List.getElem?_cons_succ, List.getElem?_cons_zero]; rfl); (rfl); (rfl); (rfl); (intro _; kernel_rfl); (rw [bv_length, HH12.out]; kernel_rfl); (intro w' hR p v hv; exact kpP_cell hR (H2.out p v hv)); try simp only [Act.put, List.setIfInBounds_toArray, List.set_cons_zero, List.set_cons_succ]) | (apply linN_free; (simp only [List.getElem?_toArray, List.getElem?_cons_succ, List.getElem?_cons_zero]; rfl); (rfl); (intro w'; (first | (go_simp; done) | (go_simp; with_reducible rfl) | (go_simp; go_bits; with_reducible rfl) | (go_simp; go_bits; done))); try simp only [Act.put, List.setIfInBounds_toArray, List.set_cons_zero, List.set_cons_succ]) | (apply linN_freeSkip; (simp only [List.getElem?_toArray, List.getElem?_cons_succ, List.getElem?_cons_zero]; rfl); (rfl); try simp only [Act.put, List.setIfInBounds_toArray, List.set_cons_zero, List.set_cons_succ])); refine linN_end ?_)
        have hbd : Below w5.heap.size w5 w6 := (below_drew (Below.refl _ _)).trans hb6
        have hP6 := hP5.below hbd hP5.lt
        have r6 := r5.below hbd r5.lt
        have hI6 := hI5.below hbd
        have hB6 := hB5.trans (hbd.mono hB5.size)
        clear hb6 hbd hP5 r5 hI5 hB5 H2 hq12 HRH HH12 hfr hsz
        generalize D4 = D5 at *
        go_upto_region 20 with fail
      case' neg =>
        have HW := Lib.hid (p_write hP3 hI3 (by omega) hgb hfr.goes (at_ : Int) hwf Ax xs.length cx xs hx3 (Nat.zero_le _) HQY.out false (by rw [hfx]; exact decide_eq_false h28))
        simp only [Bool.false_eq_true, if_false] at HW
        have h28i : ¬ (xs.length : Int) ≤ 28 := by omega
        clear h28 hfx
        go_upto_region 11 with (go_at_call 19; (with_reducible refine HW.out.mono ?_); rintro e w4 ⟨rfl, hI4, hP4, hp4⟩)
        have r4 := hp4.2 _ _ _ r3 (by decide) (by omega)
        have hB4 := hB3.trans (hp4.1.mono (Nat.le_of_lt hwsp))
        have hc4 : w4.cell? (ad0.add i) = some (.slice Ax xs.length cx) := (hB4.cell (p := ad0.add i) (by rw [ad_block]; exact hlt0)).trans hc0
        have HT4 := Lib.hid (i_trace hI4 (by omega))
        clear HW hp4 hP3 hI3 hB3 r3 hc3 hx3 hci
        go_upto_region 20 with (go_at_call 26; (with_reducible refine HT4.out.mono ?_); rintro e w6 ⟨vt, rfl, ht5, hI6, hb6⟩; (obtain ⟨ts9, -, -, ht6⟩ := ht5); (obtain ⟨A9, c9, rfl, -, -⟩ := own_form ht6); rw [HKT.out])
        have hP6 := hP4.below hb6 hP4.lt
        have r6 := r4.below hb6 r4.lt
        have hB6 := hB4.trans (hb6.mono hB4.size)
        have hfr4 := hfr
        have hsz4 := hsz
        have hyq : q ≤ i + 1 := by omega
        clear HT4 ht6 hP4 r4 hI4 hB4 hb6 hfr hsz hc4
        generalize q = y at *
        generalize D = D5 at *
      all_goals
        have hm1 := m1 (i : Int)
        obtain ⟨a2, ha2⟩ : ∃ a2 : Nat, (i : Int) % 2 = (a2 : Int) := ⟨i % 2, by omega⟩
        rw [ha2] at hm1
        have hwf2 := wf_i64 (x := (a2 : Int)) (by omega) (by omega)
        have HRD := Lib.hid (p_read hP6 hI6 (by omega) hfr4.goes (a2 : Int) hwf2)
        clear ha2 hwf2
        go_upto_region 21 with (go_at_call 20; (with_reducible refine HRD.out.mono ?_); rintro e w7 ⟨v7, rfl, -, hI7, hd7⟩)
        have hP7 := hP6.dr hd7
        have r7 := r6.dr hd7 (by decide)
        have hB7 := hB6.trans (hd7.below.mono (Nat.le_of_lt hwsp))
        have hfr7 := hfr4.read (a2 : Int)
        have hsz7 : (D5.read (a2 : Int)).size = 50 := hsz4
        have HFL := Lib.hid (p_flush hP7 hI7 (by omega) hfr7.goes)
        clear HRD hP6 r6 hB6 hd7 hI6
        generalize D5.read (a2 : Int) = D6 at *
        go_upto_region 22 with (go_at_call 28; (with_reducible refine HFL.out.mono ?_); rintro e w8 ⟨rfl, hI8, hd8⟩)
        have hP8 := hP7.dr hd8
        have r8 := r7.dr hd8 (by decide)
        have hB8 := hB7.trans (hd8.below.mono (Nat.le_of_lt hwsp))
        have hfr8 := hfr7.flush
        have hsz8 : D6.flush.size = 50 := hsz7
        have HSQ := Lib.hid (p_seq hP8)
        have hI9 : In w8 bs b D6.flush (4 * (i + 1)) := ⟨hI8.dk, hI8.le, hI8.bd.mono (by omega)⟩
        clear HFL hP7 r7 hB7 hd8 hI7 hI8
        go_wp2_with (go_at_call 29; (with_reducible refine HSQ.out.mono ?_); rintro e w' ⟨rfl, rfl⟩)
        go_roundw
        case rel => exact ⟨i + 1, y, _, by omega, hyq, rfl, by go_num, hfr8, hsz8, hI9, hP8, r8, hB8⟩
        case measure => simp [intOf]; omega
    · have hor : ¬ (i : Int) < (l0 : Int) ∨ ((i : Int) < (l0 : Int) ∧ ¬ (i : Int) < 20) := by omega
      obtain ⟨bt, hbt⟩ : ∃ bt : Nat, (boot + 1) % 4294967296 = bt := ⟨_, rfl⟩
      have hbw : IntKind.u32.wrap ((boot : Int) + 1) = (bt : Int) := by
        rw [IntKind.wrap_u32]; omega
      have hbtl : bt < 4294967296 := by omega
      have HBT := Lib.hid hbtl
      have hwsp : w.heap.size < bs := hlB
      obtain ⟨k, hk⟩ : ∃ k, D.trace.length = k := ⟨_, rfl⟩
      have hkl := hIr.bd.ln
      rw [hk] at hkl
      have HKT := Lib.hid hk
      have HN2 := Lib.hid (p_new b key HK.out bt HBT.out wr)
      clear hbt hbtl hk
      rcases hor with q | ⟨q1, q2⟩
      all_goals
        go_upto_region 25 with (first | (apply wpl_loadS (ty := 22); rfl; rfl; rfl; kernel_rfl; exact rr; (simp only [List.size_toArray, bv_length, HK.out]; kernel_rfl); simp only [Act.put, List.setIfInBounds_toArray, List.set_cons_zero, List.set_cons_succ]) | (go_at_call 18; (with_reducible refine HN2.out.mono ?_); rintro e w3 ⟨g2, rfl, hP3, hg2, hb3⟩))
        have hgb2 : bs ≤ g2 := Nat.le_trans hIr.le hg2
        have hI3 := hIr.below hb3
        have hB3 := below_two hBr hb3
        have e50 : D.size.toNat = 50 := by rw [hsz]; rfl
        have HW := Lib.hid (p_write hP3 hI3 (by omega) hgb2 hfr.goes 0 (by decide) none 0 0 [] (Rd.nil_ _ _) (Nat.zero_le _) (by decide) true (by rw [hsz]; decide))
        rw [e50] at HW
        simp only [if_true] at HW
        have hpc := pct HKT.out hsz 0 key bt 0 [] (by decide)
        have HPC := Lib.hid hpc
        clear hpc hfr hsz e50 HN2 hIr hPr rr hBr hb3 hP3 hg2
        generalize sealL key bt 0 [] 50 = SB at *
        generalize D.write 0 SB = D4 at *
        go_upto_region 27 with (go_at_call 19; (with_reducible refine HW.out.mono ?_); rintro e w4 ⟨rfl, hI4, hP4, hp4⟩)
        have hB4 := hB3.trans (hp4.1.mono (Nat.le_of_lt hwsp))
        have HT4 := Lib.hid (i_trace hI4 (by omega))
        clear HW hp4 hI3 hB3
        go_upto_region 28 with (go_at_call 26; (with_reducible refine HT4.out.mono ?_); rintro e w5 ⟨vt, rfl, ht5, hI5, hb5⟩)
        obtain ⟨g', cap', A', n', c', ev, hl12, -, f5⟩ := ht5.elem HPC.out.ev
        subst ev
        obtain ⟨k1, hk1⟩ : ∃ k1, k + 1 = k1 := ⟨_, rfl⟩
        rw [HPC.out.len, hk1]
        have hks : (k1 : Int) - 1 = (k : Int) := by omega
        have hwk : IntKind.i64.wrap (k : Int) = (k : Int) := IntWalk.i64_in _ (by omega)
        have hkk : (k : Int) < (k1 : Int) := by omega
        have hk0 : (0 : Int) ≤ (k : Int) := by omega
        clear hk1
        have h2 : ∀ p v, (bv (headL12 bt 0))[p]? = some v → w5.drew.cell? ((⟨g', k * 15 + 2, none⟩ : Addr).add p) = some v := fun p v hv => by
          have hp : p < 12 := by have := (List.getElem?_eq_some_iff.1 hv).1; rw [bv_length, headL12_length] at this; exact this
          have := f5 (2 + p) v (by show ([Value.int .i64 2, .int .i64 0] ++ bv (headL12 bt 0) ++ [.slice A' n' c'])[2 + p]? = _; rw [List.append_assoc, List.getElem?_append_right (by simp), List.getElem?_append_left (by simp [bv_length, headL12_length]; omega)]; simpa using hv)
          rw [ad_none] at this ⊢
          rw [Nat.add_assoc]
          exact this
        have H2 := Lib.hid h2
        have hq12 : ∀ W, (Op.equalIn 10000 43 (.agg (bv (headL12 bt 0)).toArray) (.agg (bv (headL12 bt 0)).toArray)).run Try.prog W = .ok true W := eq12 _ (headL12_length bt 0)
        have hrh := c_rHead bt 0 HBT.out w5.drew
        simp only [show ((0 : Nat) : Int) = 0 from rfl] at hrh
        have HRH := Lib.hid hrh
        clear hrh
        have HH12 := Lib.hid (headL12_length bt 0)
        have hP5 : PenAt w5.drew g2 b key bt (0 + 1) := ⟨(hP4.below hb5 hP4.lt).row, hP4.kl, hP4.bl⟩
        have HSQ := Lib.hid (p_seq hP5)
        have hB5 := hB4.trans (hb5.mono hB4.size)
        clear h2 f5 ht5 hl12 hb5 HT4 hP4 hB4 hI4 HPC hP5
        generalize headL12 bt 0 = H at *
        (refine wp_region_linN (KpP) (KpP) (wayKpP) (wayKpP) (fun _ _ h => h) (.free 0 (.op 1 [] [] [] (.free 2 (.free 3 (.free 4 (.free 5 (.free 6 (.free 7 (.free 8 (.free 9 (.hot 10 (.free 11 (.free 12 (.op 13 [] [10] [] (.free 14 (.free 15 (.free 16 (.op 17 [(16, 17), (15, 16), (14, 15), (10, 14)] [] [] (.free 18 (.free 19 .nil)))))))))))))))))))) rfl (by kernel_rfl) (by kernel_rfl) (fun _ _ _ _ _ h => h) ?_; (first | (apply linN_hotLoad (ty := 43) (vs := bv H) (ad := ⟨g', k * 15 + 2, none⟩); (simp only [List.getElem?_toArray, List.getElem?_cons_succ, List.getElem?_cons_zero]; rfl); (rfl); (rfl); (rfl); (intro _; kernel_rfl); (rw [bv_length, HH12.out]; kernel_rfl); (intro w' hR p v hv; exact kpP_cell hR (H2.out p v hv)); try simp only [Act.put, List.setIfInBounds_toArray, List.set_cons_zero, List.set_cons_succ]) | (apply linN_free; (simp only [List.getElem?_toArray, List.getElem?_cons_succ, List.getElem?_cons_zero]; rfl); (rfl); (intro w'; (first | (go_simp; done) | (go_simp; with_reducible rfl) | (go_simp; go_bits; with_reducible rfl) | (go_simp; go_bits; done))); try simp only [Act.put, List.setIfInBounds_toArray, List.set_cons_zero, List.set_cons_succ]) | (apply linN_freeSkip; (simp only [List.getElem?_toArray, List.getElem?_cons_succ, List.getElem?_cons_zero]; rfl); (rfl); try simp only [Act.put, List.setIfInBounds_toArray, List.set_cons_zero, List.set_cons_succ])); (first | (apply linN_pass (wayKpP) (wayKpP); (simp only [List.getElem?_toArray, List.getElem?_cons_succ, List.getElem?_cons_zero]; rfl); (rfl); try simp only [Act.put, List.setIfInBounds_toArray, List.set_cons_zero, List.set_cons_succ]) | (apply linN_op; (simp only [List.getElem?_toArray, List.getElem?_cons_succ, List.getElem?_cons_zero]; rfl); (rfl); intro K hK; (first | (go_simp; (first | (go_at_call 29; (with_reducible refine HSQ.out.mono ?_); rintro e w' ⟨rfl, rfl⟩; rw [show ((0 + 1 : Nat) : Int) = 1 from rfl]) | (go_at_call 27; (with_reducible refine HRH.out.mono ?_); rintro e w6 ⟨rfl, hb6⟩; have hdr2 : KpP _ w6 := hb6) | (go_at_call 16; (with_reducible refine (c_awake9 _).mono ?_); rintro e w7 ⟨rfl, hb7⟩) | skip))); refine hK _ _ ?_ ?_; (exact trivial); clear hK; try simp only [Act.put, List.setIfInBounds_toArray, List.set_cons_zero, List.set_cons_succ])); (first | (apply linN_hotLoad (ty := 43) (vs := bv H) (ad := ⟨g', k * 15 + 2, none⟩); (simp only [List.getElem?_toArray, List.getElem?_cons_succ, List.getElem?_cons_zero]; rfl); (rfl); (rfl); (rfl); (intro _; kernel_rfl); (rw [bv_length, HH12.out]; kernel_rfl); (intro w' hR p v hv; exact kpP_cell hR (H2.out p v hv)); try simp only [Act.put, List.setIfInBounds_toArray, List.set_cons_zero, List.set_cons_succ]) | (apply linN_free; (simp only [List.getElem?_toArray, List.getElem?_cons_succ, List.getElem?_cons_zero]; rfl); (rfl); (intro w'; (first | (go_simp; done) | (go_simp; with_reducible rfl) | (go_simp; go_bits; with_reducible rfl) | (go_simp; go_bits; done))); try simp only [Act.put, List.setIfInBounds_toArray, List.set_cons_zero, List.set_cons_succ]) | (apply linN_freeSkip; (simp only [List.getElem?_toArray, List.getElem?_cons_succ, List.getElem?_cons_zero]; rfl); (rfl); try simp only [Act.put, List.setIfInBounds_toArray, List.set_cons_zero, List.set_cons_succ])); (first | (apply linN_hotLoad (ty := 43) (vs := bv H) (ad := ⟨g', k * 15 + 2, none⟩); (simp only [List.getElem?_toArray, List.getElem?_cons_succ, List.getElem?_cons_zero]; rfl); (rfl); (rfl); (rfl); (intro _; kernel_rfl); (rw [bv_length, HH12.out]; kernel_rfl); (intro w' hR p v hv; exact kpP_cell hR (H2.out p v hv)); try simp only [Act.put, List.setIfInBounds_toArray, List.set_cons_zero, List.set_cons_succ]) | (apply linN_free; (simp only [List.getElem?_toArray, List.getElem?_cons_succ, List.getElem?_cons_zero]; rfl); (rfl); (intro w'; (first | (go_simp; done) | (go_simp; with_reducible rfl) | (go_simp; go_bits; with_reducible rfl) | (go_simp; go_bits; done))); try simp only [Act.put, List.setIfInBounds_toArray, List.set_cons_zero, List.set_cons_succ]) | (apply linN_freeSkip; (simp only [List.getElem?_toArray, List.getElem?_cons_succ, List.getElem?_cons_zero]; rfl); (rfl); try simp only [Act.put, List.setIfInBounds_toArray, List.set_cons_zero, List.set_cons_succ])); (first | (apply linN_hotLoad (ty := 43) (vs := bv H) (ad := ⟨g', k * 15 + 2, none⟩); (simp only [List.getElem?_toArray, List.getElem?_cons_succ, List.getElem?_cons_zero]; rfl); (rfl); (rfl); (rfl); (intro _; kernel_rfl); (rw [bv_length, HH12.out]; kernel_rfl); (intro w' hR p v hv; exact kpP_cell hR (H2.out p v hv)); try simp only [Act.put, List.setIfInBounds_toArray, List.set_cons_zero, List.set_cons_succ]) | (apply linN_free; (simp only [List.getElem?_toArray, List.getElem?_cons_succ, List.getElem?_cons_zero]; rfl); (rfl); (intro w'; (first | (go_simp; done) | (go_simp; with_reducible rfl) | (go_simp; go_bits; with_reducible rfl) | (go_simp; go_bits; done))); try simp only [Act.put, List.setIfInBounds_toArray, List.set_cons_zero, List.set_cons_succ]) | (apply linN_freeSkip; (simp only [List.getElem?_toArray, List.getElem?_cons_succ, List.getElem?_cons_zero]; rfl); (rfl); try simp only [Act.put, List.setIfInBounds_toArray, List.set_cons_zero, List.set_cons_succ])); (first | (apply linN_hotLoad (ty := 43) (vs := bv H) (ad := ⟨g', k * 15 + 2, none⟩); (simp only [List.getElem?_toArray, List.getElem?_cons_succ, List.getElem?_cons_zero]; rfl); (rfl); (rfl); (rfl); (intro _; kernel_rfl); (rw [bv_length, HH12.out]; kernel_rfl); (intro w' hR p v hv; exact kpP_cell hR (H2.out p v hv)); try simp only [Act.put, List.setIfInBounds_toArray, List.set_cons_zero, List.set_cons_succ]) | (apply linN_free; (simp only [List.getElem?_toArray, List.getElem?_cons_succ, List.getElem?_cons_zero]; rfl); (rfl); (intro w'; (first | (go_simp; done) | (go_simp; with_reducible rfl) | (go_simp; go_bits; with_reducible rfl) | (go_simp; go_bits; done))); try simp only [Act.put, List.setIfInBounds_toArray, List.set_cons_zero, List.set_cons_succ]) | (apply linN_freeSkip; (simp only [List.getElem?_toArray, List.getElem?_cons_succ, List.getElem?_cons_zero]; rfl); (rfl); try simp only [Act.put, List.setIfInBounds_toArray, List.set_cons_zero, List.set_cons_succ])); (first | (apply linN_hotLoad (ty := 43) (vs := bv H) (ad := ⟨g', k * 15 + 2, none⟩); (simp only [List.getElem?_toArray, List.getElem?_cons_succ, List.getElem?_cons_zero]; rfl); (rfl); (rfl); (rfl); (intro _; kernel_rfl); (rw [bv_length, HH12.out]; kernel_rfl); (intro w' hR p v hv; exact kpP_cell hR (H2.out p v hv)); try simp only [Act.put, List.setIfInBounds_toArray, List.set_cons_zero, List.set_cons_succ]) | (apply linN_free; (simp only [List.getElem?_toArray, List.getElem?_cons_succ, List.getElem?_cons_zero]; rfl); (rfl); (intro w'; (first | (go_simp; done) | (go_simp; with_reducible rfl) | (go_simp; go_bits; with_reducible rfl) | (go_simp; go_bits; done))); try simp only [Act.put, List.setIfInBounds_toArray, List.set_cons_zero, List.set_cons_succ]) | (apply linN_freeSkip; (simp only [List.getElem?_toArray, List.getElem?_cons_succ, List.getElem?_cons_zero]; rfl); (rfl); try simp only [Act.put, List.setIfInBounds_toArray, List.set_cons_zero, List.set_cons_succ])); (first | (apply linN_hotLoad (ty := 43) (vs := bv H) (ad := ⟨g', k * 15 + 2, none⟩); (simp only [List.getElem?_toArray, List.getElem?_cons_succ, List.getElem?_cons_zero]; rfl); (rfl); (rfl); (rfl); (intro _; kernel_rfl); (rw [bv_length, HH12.out]; kernel_rfl); (intro w' hR p v hv; exact kpP_cell hR (H2.out p v hv)); try simp only [Act.put, List.setIfInBounds_toArray, List.set_cons_zero, List.set_cons_succ]) | (apply linN_free; (simp only [List.getElem?_toArray, List.getElem?_cons_succ, List.getElem?_cons_zero]; rfl); (rfl); (intro w'; (first | (go_simp; done) | (go_simp; with_reducible rfl) | (go_simp; go_bits; with_reducible rfl) | (go_simp; go_bits; done))); try simp only [Act.put, List.setIfInBounds_toArray, List.set_cons_zero, List.set_cons_succ]) | (apply linN_freeSkip; (simp only [List.getElem?_toArray, List.getElem?_cons_succ, List.getElem?_cons_zero]; rfl); (rfl); try simp only [Act.put, List.setIfInBounds_toArray, List.set_cons_zero, List.set_cons_succ])); (first | (apply linN_hotLoad (ty := 43) (vs := bv H) (ad := ⟨g', k * 15 + 2, none⟩); (simp only [List.getElem?_toArray, List.getElem?_cons_succ, List.getElem?_cons_zero]; rfl); (rfl); (rfl); (rfl); (intro _; kernel_rfl); (rw [bv_length, HH12.out]; kernel_rfl); (intro w' hR p v hv; exact kpP_cell hR (H2.out p v hv)); try simp only [Act.put, List.setIfInBounds_toArray, List.set_cons_zero, List.set_cons_succ]) | (apply linN_free; (simp only [List.getElem?_toArray, List.getElem?_cons_succ, List.getElem?_cons_zero]; rfl); (rfl); (intro w'; (first | (go_simp; done) | (go_simp; with_reducible rfl) | (go_simp; go_bits; with_reducible rfl) | (go_simp; go_bits; done))); try simp only [Act.put, List.setIfInBounds_toArray, List.set_cons_zero, List.set_cons_succ]) | (apply linN_freeSkip; (simp only [List.getElem?_toArray, List.getElem?_cons_succ, List.getElem?_cons_zero]; rfl); (rfl); try simp only [Act.put, List.setIfInBounds_toArray, List.set_cons_zero, List.set_cons_succ])); (first | (apply linN_hotLoad (ty := 43) (vs := bv H) (ad := ⟨g', k * 15 + 2, none⟩); (simp only [List.getElem?_toArray, List.getElem?_cons_succ, List.getElem?_cons_zero]; rfl); (rfl); (rfl); (rfl); (intro _; kernel_rfl); (rw [bv_length, HH12.out]; kernel_rfl); (intro w' hR p v hv; exact kpP_cell hR (H2.out p v hv)); try simp only [Act.put, List.setIfInBounds_toArray, List.set_cons_zero, List.set_cons_succ]) | (apply linN_free; (simp only [List.getElem?_toArray, List.getElem?_cons_succ, List.getElem?_cons_zero]; rfl); (rfl); (intro w'; (first | (go_simp; done) | (go_simp; with_reducible rfl) | (go_simp; go_bits; with_reducible rfl) | (go_simp; go_bits; done))); try simp only [Act.put, List.setIfInBounds_toArray, List.set_cons_zero, List.set_cons_succ]) | (apply linN_freeSkip; (simp only [List.getElem?_toArray, List.getElem?_cons_succ, List.getElem?_cons_zero]; rfl); (rfl); try simp only [Act.put, List.setIfInBounds_toArray, List.set_cons_zero, List.set_cons_succ])); (first | (apply linN_hotLoad (ty := 43) (vs := bv H) (ad := ⟨g', k * 15 + 2, none⟩); (simp only [List.getElem?_toArray, List.getElem?_cons_succ, List.getElem?_cons_zero]; rfl); (rfl); (rfl); (rfl); (intro _; kernel_rfl); (rw [bv_length, HH12.out]; kernel_rfl); (intro w' hR p v hv; exact kpP_cell hR (H2.out p v hv)); try simp only [Act.put, List.setIfInBounds_toArray, List.set_cons_zero, List.set_cons_succ]) | (apply linN_hot; (simp only [List.getElem?_toArray, List.getElem?_cons_succ, List.getElem?_cons_zero]; rfl); (rfl); (intro w' hb'; (first | (go_simp; done) | (go_simp; with_reducible rfl) | (go_simp; go_bits; with_reducible rfl) | (go_simp; go_bits; done))); try simp only [Act.put, List.setIfInBounds_toArray, List.set_cons_zero, List.set_cons_succ]) | (apply linN_hotSkip; (simp only [List.getElem?_toArray, List.getElem?_cons_succ, List.getElem?_cons_zero]; rfl); (rfl); try simp only [Act.put, List.setIfInBounds_toArray, List.set_cons_zero, List.set_cons_succ])); (first | (apply linN_hotLoad (ty := 43) (vs := bv H) (ad := ⟨g', k * 15 + 2, none⟩); (simp only [List.getElem?_toArray, List.getElem?_cons_succ, List.getElem?_cons_zero]; rfl); (rfl); (rfl); (rfl); (intro _; kernel_rfl); (rw [bv_length, HH12.out]; kernel_rfl); (intro w' hR p v hv; exact kpP_cell hR (H2.out p v hv)); try simp only [Act.put, List.setIfInBounds_toArray, List.set_cons_zero, List.set_cons_succ]) | (apply linN_free; (simp only [List.getElem?_toArray, List.getElem?_cons_succ, List.getElem?_cons_zero]; rfl); (rfl); (intro w'; (first | (go_simp; done) | (go_simp; with_reducible rfl) | (go_simp; go_bits; with_reducible rfl) | (go_simp; go_bits; done))); try simp only [Act.put, List.setIfInBounds_toArray, List.set_cons_zero, List.set_cons_succ]) | (apply linN_freeSkip; (simp only [List.getElem?_toArray, List.getElem?_cons_succ, List.getElem?_cons_zero]; rfl); (rfl); try simp only [Act.put, List.setIfInBounds_toArray, List.set_cons_zero, List.set_cons_succ])); (first | (apply linN_hotLoad (ty := 43) (vs := bv H) (ad := ⟨g', k * 15 + 2, none⟩); (simp only [List.getElem?_toArray, List.getElem?_cons_succ, List.getElem?_cons_zero]; rfl); (rfl); (rfl); (rfl); (intro _; kernel_rfl); (rw [bv_length, HH12.out]; kernel_rfl); (intro w' hR p v hv; exact kpP_cell hR (H2.out p v hv)); try simp only [Act.put, List.setIfInBounds_toArray, List.set_cons_zero, List.set_cons_succ]) | (apply linN_free; (simp only [List.getElem?_toArray, List.getElem?_cons_succ, List.getElem?_cons_zero]; rfl); (rfl); (intro w'; (first | (go_simp; done) | (go_simp; with_reducible rfl) | (go_simp; go_bits; with_reducible rfl) | (go_simp; go_bits; done))); try simp only [Act.put, List.setIfInBounds_toArray, List.set_cons_zero, List.set_cons_succ]) | (apply linN_freeSkip; (simp only [List.getElem?_toArray, List.getElem?_cons_succ, List.getElem?_cons_zero]; rfl); (rfl); try simp only [Act.put, List.setIfInBounds_toArray, List.set_cons_zero, List.set_cons_succ])); (first | (apply linN_pass (wayKpP) (wayKpP); (simp only [List.getElem?_toArray, List.getElem?_cons_succ, List.getElem?_cons_zero]; rfl); (rfl); try simp only [Act.put, List.setIfInBounds_toArray, List.set_cons_zero, List.set_cons_succ]) | (apply linN_op; (simp only [List.getElem?_toArray, List.getElem?_cons_succ, List.getElem?_cons_zero]; rfl); (rfl); intro K hK; (first | (go_simp; (first | (go_at_call 29; (with_reducible refine HSQ.out.mono ?_); rintro e w' ⟨rfl, rfl⟩; rw [show ((0 + 1 : Nat) : Int) = 1 from rfl]) | (go_at_call 27; (with_reducible refine HRH.out.mono ?_); rintro e w6 ⟨rfl, hb6⟩; have hdr2 : KpP _ w6 := hb6) | (go_at_call 16; (with_reducible refine (c_awake9 _).mono ?_); rintro e w7 ⟨rfl, hb7⟩) | skip))); refine hK _ _ ?_ ?_; (show (KpP) _ _; (first | exact hdr2 | assumption | exact (wayKpP).refl _ | exact (wayKpP).refl _ | exact Below.refl _ _ | exact ⟨rfl, rfl, rfl, Nat.le_refl _, fun _ _ => rfl⟩ | exact but_set _ _ _ _ _ | exact but_drew (but_set _ _ _ _ _) | exact but_upd (by assumption) | exact but_below (by assumption) | exact belowB_alloc (by first | omega | (simp; done) | (simp; omega)) _ | exact belowB_mono (by first | omega | (simp; done) | (simp; omega)) (by assumption) | (first | exact rg_alloc (by simp; omega) (by simp; omega) _ | exact FR.of_below (below_alloc (Below.refl _ _) _) (by first | assumption | (simp; omega)) | exact DR.of_below (below_alloc (Below.refl _ _) _) (by first | assumption | (simp; omega))))); clear hK; try simp only [Act.put, List.setIfInBounds_toArray, List.set_cons_zero, List.set_cons_succ])); (first | (apply linN_hotLoad (ty := 43) (vs := bv H) (ad := ⟨g', k * 15 + 2, none⟩); (simp only [List.getElem?_toArray, List.getElem?_cons_succ, List.getElem?_cons_zero]; rfl); (rfl); (rfl); (rfl); (intro _; kernel_rfl); (rw [bv_length, HH12.out]; kernel_rfl); (intro w' hR p v hv; exact kpP_cell hR (H2.out p v hv)); try simp only [Act.put, List.setIfInBounds_toArray, List.set_cons_zero, List.set_cons_succ]) | (apply linN_free; (simp only [List.getElem?_toArray, List.getElem?_cons_succ, List.getElem?_cons_zero]; rfl); (rfl); (intro w'; (first | (go_simp; done) | (go_simp; with_reducible rfl) | (go_simp; go_bits; with_reducible rfl) | (go_simp; go_bits; done))); try simp only [Act.put, List.setIfInBounds_toArray, List.set_cons_zero, List.set_cons_succ]) | (apply linN_freeSkip; (simp only [List.getElem?_toArray, List.getElem?_cons_succ, List.getElem?_cons_zero]; rfl); (rfl); try simp only [Act.put, List.setIfInBounds_toArray, List.set_cons_zero, List.set_cons_succ])); (first | (apply linN_hotLoad (ty := 43) (vs := bv H) (ad := ⟨g', k * 15 + 2, none⟩); (simp only [List.getElem?_toArray, List.getElem?_cons_succ, List.getElem?_cons_zero]; rfl); (rfl); (rfl); (rfl); (intro _; kernel_rfl); (rw [bv_length, HH12.out]; kernel_rfl); (intro w' hR p v hv; exact kpP_cell hR (H2.out p v hv)); try simp only [Act.put, List.setIfInBounds_toArray, List.set_cons_zero, List.set_cons_succ]) | (apply linN_free; (simp only [List.getElem?_toArray, List.getElem?_cons_succ, List.getElem?_cons_zero]; rfl); (rfl); (intro w'; (first | (go_simp; done) | (go_simp; with_reducible rfl) | (go_simp; go_bits; with_reducible rfl) | (go_simp; go_bits; done))); try simp only [Act.put, List.setIfInBounds_toArray, List.set_cons_zero, List.set_cons_succ]) | (apply linN_freeSkip; (simp only [List.getElem?_toArray, List.getElem?_cons_succ, List.getElem?_cons_zero]; rfl); (rfl); try simp only [Act.put, List.setIfInBounds_toArray, List.set_cons_zero, List.set_cons_succ])); (first | (apply linN_hotLoad (ty := 43) (vs := bv H) (ad := ⟨g', k * 15 + 2, none⟩); (simp only [List.getElem?_toArray, List.getElem?_cons_succ, List.getElem?_cons_zero]; rfl); (rfl); (rfl); (rfl); (intro _; kernel_rfl); (rw [bv_length, HH12.out]; kernel_rfl); (intro w' hR p v hv; exact kpP_cell hR (H2.out p v hv)); try simp only [Act.put, List.setIfInBounds_toArray, List.set_cons_zero, List.set_cons_succ]) | (apply linN_free; (simp only [List.getElem?_toArray, List.getElem?_cons_succ, List.getElem?_cons_zero]; rfl); (rfl); (intro w'; (first | (go_simp; done) | (go_simp; with_reducible rfl) | (go_simp; go_bits; with_reducible rfl) | (go_simp; go_bits; done))); try simp only [Act.put, List.setIfInBounds_toArray, List.set_cons_zero, List.set_cons_succ]) | (apply linN_freeSkip; (simp only [List.getElem?_toArray, List.getElem?_cons_succ, List.getElem?_cons_zero]; rfl); (rfl); try simp only [Act.put, List.setIfInBounds_toArray, List.set_cons_zero, List.set_cons_succ])); (first | (apply linN_pass (wayKpP) (wayKpP); (simp only [List.getElem?_toArray, List.getElem?_cons_succ, List.getElem?_cons_zero]; rfl); (rfl); try simp only [Act.put, List.setIfInBounds_toArray, List.set_cons_zero, List.set_cons_succ]) | (apply linN_op; (simp only [List.getElem?_toArray, List.getElem?_cons_succ, List.getElem?_cons_zero]; rfl); (rfl); intro K hK; (first | (go_simp; (first | (go_at_call 29; (with_reducible refine HSQ.out.mono ?_); rintro e w' ⟨rfl, rfl⟩; rw [show ((0 + 1 : Nat) : Int) = 1 from rfl]) | (go_at_call 27; (with_reducible refine HRH.out.mono ?_); rintro e w6 ⟨rfl, hb6⟩; have hdr2 : KpP _ w6 := hb6) | (go_at_call 16; (with_reducible refine (c_awake9 _).mono ?_); rintro e w7 ⟨rfl, hb7⟩) | skip))); refine hK _ _ ?_ ?_; (exact trivial); clear hK; try simp only [Act.put, List.setIfInBounds_toArray, List.set_cons_zero, List.set_cons_succ])); (first | (apply linN_hotLoad (ty := 43) (vs := bv H) (ad := ⟨g', k * 15 + 2, none⟩); (simp only [List.getElem?_toArray, List.getElem?_cons_succ, List.getElem?_cons_zero]; rfl); (rfl); (rfl); (rfl); (intro _; kernel_rfl); (rw [bv_length, HH12.out]; kernel_rfl); (intro w' hR p v hv; exact kpP_cell hR (H2.out p v hv)); try simp only [Act.put, List.setIfInBounds_toArray, List.set_cons_zero, List.set_cons_succ]) | (apply linN_free; (simp only [List.getElem?_toArray, List.getElem?_cons_succ, List.getElem?_cons_zero]; rfl); (rfl); (intro w'; (first | (go_simp; done) | (go_simp; with_reducible rfl) | (go_simp; go_bits; with_reducible rfl) | (go_simp; go_bits; done))); try simp only [Act.put, List.setIfInBounds_toArray, List.set_cons_zero, List.set_cons_succ]) | (apply linN_freeSkip; (simp only [List.getElem?_toArray, List.getElem?_cons_succ, List.getElem?_cons_zero]; rfl); (rfl); try simp only [Act.put, List.setIfInBounds_toArray, List.set_cons_zero, List.set_cons_succ])); (first | (apply linN_hotLoad (ty := 43) (vs := bv H) (ad := ⟨g', k * 15 + 2, none⟩); (simp only [List.getElem?_toArray, List.getElem?_cons_succ, List.getElem?_cons_zero]; rfl); (rfl); (rfl); (rfl); (intro _; kernel_rfl); (rw [bv_length, HH12.out]; kernel_rfl); (intro w' hR p v hv; exact kpP_cell hR (H2.out p v hv)); try simp only [Act.put, List.setIfInBounds_toArray, List.set_cons_zero, List.set_cons_succ]) | (apply linN_free; (simp only [List.getElem?_toArray, List.getElem?_cons_succ, List.getElem?_cons_zero]; rfl); (rfl); (intro w'; (first | (go_simp; done) | (go_simp; with_reducible rfl) | (go_simp; go_bits; with_reducible rfl) | (go_simp; go_bits; done))); try simp only [Act.put, List.setIfInBounds_toArray, List.set_cons_zero, List.set_cons_succ]) | (apply linN_freeSkip; (simp only [List.getElem?_toArray, List.getElem?_cons_succ, List.getElem?_cons_zero]; rfl); (rfl); try simp only [Act.put, List.setIfInBounds_toArray, List.set_cons_zero, List.set_cons_succ])); refine linN_end ?_)
        go_wp2
        go_ret
        exact ⟨rfl, (below_two ((below_drew (Below.refl w5.heap.size w5)).trans hb6 |> fun h => hB5.trans (h.mono hB5.size)) hb7)⟩
theorem w_PenCounts (y0 : List UInt8) (a1 : Int) (a2 : Option Addr) (len2 cap2 : Nat) (w : World) (w0 : y0.length = 32) (w1 : (Lit.int .u32 a1).wf = true) (w2 : IsMat .u8 w a2 len2 cap2) :
    Calls Try.prog 4 #[.agg (bv y0).toArray, .int .u32 a1, .slice a2 len2 cap2] w fun e w' => e = .returned (.bool true) ∧ Below w.heap.size w w' := by
  have h1 : 0 ≤ a1 ∧ a1 ≤ 4294967295 := by simpa [Lit.wf, IntKind.min, IntKind.max, IntKind.signed, IntKind.bits] using w1
  obtain ⟨a, rfl⟩ : ∃ k : Nat, a1 = (k : Int) := ⟨a1.toNat, by omega⟩
  obtain ⟨xss, hM⟩ := mat_bytes w2
  exact w_pcnt0 y0 w0 a (by omega) a2 len2 cap2 xss w hM
end Go.Proofs.Ytmdmhjcdaejlkaa
