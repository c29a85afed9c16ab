/- The walk of PenOthers. -/
import Derived.Test.YtmdmhjcdaejlkaaAwk9
import Derived.Test.YtmdmhjcdaejlkaaRow
set_option linter.unusedVariables false
set_option linter.unusedSimpArgs false
namespace Go.Proofs.Ytmdmhjcdaejlkaa
open Go.RowKit

structure PoD (key B text raw : List UInt8) (D0 D1 D2 D3 : Dk) : Prop where
  a0 : D1.at_ D1.now 0 = B
  op : openL key B = some text
  a1 : D2.at_ D2.now 1 = fitL 50 raw
  st : D3.at_ D3.stable 1 = fitL 50 raw
theorem po_data (key : List UInt8) (a : Nat) (text raw : List UInt8) (hn : text.length ≤ 20) :
    PoD key (sealL key a 0 text 50) text raw (dkNew 2 50) ((dkNew 2 50).write 0 (sealL key a 0 text 50)) ((((dkNew 2 50).write 0 (sealL key a 0 text 50)).read 0).write 1 raw) (((((dkNew 2 50).write 0 (sealL key a 0 text 50)).read 0).write 1 raw).read 1).flush := by
  have hl : (sealL key a 0 text 50).length = 50 := sealL_length (by omega)
  have hop : openL key (sealL key a 0 text 50) = some text := openL_sealL (by omega) (by decide)
  generalize sealL key a 0 text 50 = B at *
  have h0 : (dkNew 2 50).has 0 = true := by decide
  have h1 : (((dkNew 2 50).write 0 B).read 0).has 1 = true := by
    show ((dkNew 2 50).write 0 B).has 1 = true
    rw [write_has]; decide
  have hs : (((dkNew 2 50).write 0 B).read 0).size = 50 := (write_size (dkNew 2 50) 0 B).trans rfl
  refine ⟨seal_at (s := 50) h0 rfl hl, hop, ?_, ?_⟩
  · rw [at_yes (by rw [write_has]; exact h1), write_size, write_now h1, hs]
    simp [fitL_fitL]
  · have e1 : ((((dkNew 2 50).write 0 B).read 0).write 1 raw).stable = fun _ => [] := by
      rw [write_stable]; show ((dkNew 2 50).write 0 B).stable = _; rw [write_stable]; rfl
    have e2 : ((((dkNew 2 50).write 0 B).read 0).write 1 raw).loose = [(0, fitL 50 B), (1, fitL 50 raw)] := by
      rw [write_loose h1, hs]; show ((dkNew 2 50).write 0 B).loose ++ _ = _; rw [write_loose h0]; rfl
    have e3 : ((((dkNew 2 50).write 0 B).read 0).write 1 raw).has 1 = true := by rw [write_has]; exact h1
    have e4 : ((((dkNew 2 50).write 0 B).read 0).write 1 raw).size = 50 := by rw [write_size]; exact hs
    generalize ((((dkNew 2 50).write 0 B).read 0).write 1 raw) = E at *
    have e5 : (E.read 1).flush.stable = layL E.stable E.loose := rfl
    rw [at_yes (show (E.read 1).flush.has 1 = true from e3), e5, e1, e2, show (E.read 1).flush.size = E.size from rfl, e4]
    exact fitL_fitL 50 raw
set_option maxHeartbeats 8000000 in
set_option maxRecDepth 100000 in
theorem w_poth0 (key : List UInt8) (hk : key.length = 32) (a b2 : Nat) (ha : a < 4294967296) (hb2 : b2 < 4294967296) (A : Option Addr) (n c : Nat) (text : List UInt8) (A5 : Option Addr) (nr cr : Nat) (raw : List UInt8) (w : World)
    (hR : RdB w A n text) (hn2 : (n : Int) ≤ 9223372036854775807) (hR5 : RdB w A5 nr raw) (hc5 : nr ≤ cr) (hcm : cr ≤ maxLen) (hnr2 : (nr : Int) ≤ 9223372036854775807) :
    Calls Try.prog 3 #[.agg (bv key).toArray, .int .u32 (a : Int), .int .u32 (b2 : Int), .slice A n c, .slice A5 nr cr] w fun e w' => e = .returned (.bool true) ∧ Below w.heap.size w w' := by
  have HK := Lib.hid hk
  have HA := Lib.hid ha
  have HB2 := Lib.hid hb2
  have HCM := Lib.hid hcm
  have r0 := Row.new w (bv key).toArray 22
  have hB0 := below_alloc (Below.refl w.heap.size w) (.cells (bv key).toArray 22)
  have hbl := hR.len
  have hblr := hR5.len
  clear hk ha hb2 hcm
  by_cases hbig : (20 : Int) < (n : Int)
  · clear hbl hblr
    go_enter Try.func3, Try.ntmps3
    go_wp2_with (go_at_call 16; (with_reducible refine (c_awake9 _).mono ?_); rintro e w9 ⟨rfl, hb9⟩)
    go_ret
    exact ⟨rfl, hB0.trans (hb9.mono hB0.size)⟩
  by_cases hbig2 : (200 : Int) < (nr : Int)
  · clear hbl hblr
    go_enter Try.func3, Try.ntmps3
    go_wp2_with (go_at_call 16; (with_reducible refine (c_awake9 _).mono ?_); rintro e w9 ⟨rfl, hb9⟩)
    go_ret
    exact ⟨rfl, hB0.trans (hb9.mono hB0.size)⟩
  have hn : n ≤ 20 := by omega
  have hnr : nr ≤ 200 := by omega
  have hpd := po_data key a text raw (by omega)
  have hlB : w.heap.size < (w.alloc (.cells (bv key).toArray 22)).heap.size := by simp
  clear hn2 hnr2
  have HBL := Lib.hid hbl
  have HBLR := Lib.hid hblr
  clear hbl hblr
  go_enter Try.func3, Try.ntmps3
  go_upto_region 3 with fail
  generalize w.alloc (.cells (bv key).toArray 22) = w0 at *
  generalize hBs : w0.heap.size = bs at *
  have HBS := Lib.hid hBs
  have HNW := Lib.hid (i_new 2 50 w0 (by decide) (by decide))
  rw [hBs] at HNW
  clear hBs
  go_upto_region 4 with (go_at_call 17; (with_reducible refine HNW.out.mono ?_); rintro e w1 ⟨b, rfl, hI, hb1⟩)
  have r1 := r0.below hb1 (by omega)
  have hB1 := hB0.trans (hb1.mono (Nat.le_of_lt hlB))
  have hfr : Free (dkNew 2 50) := ⟨rfl, rfl⟩
  have hsz : (dkNew 2 50).size = 50 := rfl
  have e50 : (dkNew 2 50).size.toNat = 50 := rfl
  have hId := hI.below (below_drew (Below.refl w1.heap.size w1))
  have r1d : Row w1.drew _ _ _ := r1
  have HN1 := Lib.hid (fun W => p_new b key HK.out a HA.out W)
  have HN2 := Lib.hid (fun W => p_new b key HK.out b2 HB2.out W)
  have HPD := Lib.hid hpd
  clear HNW hpd hb1 r0 hB0 hI
  (refine wp_region_linN (KpP) (KpP) (wayKpP) (wayKpP) (fun _ _ h => h) (.free 0 (.hot 1 (.free 2 (.free 4 (.hot 5 (.free 6 (.op 3 [(1, 3)] [5] [] (.op 7 [(5, 7)] [] [] (.free 8 (.free 9 .nil)))))))))) rfl (by kernel_rfl) (by kernel_rfl) (fun _ _ _ _ _ h => h) ?_; (first | (apply linN_hotLoad (ty := 22) (vs := bv key); (simp only [List.getElem?_toArray, List.getElem?_cons_succ, List.getElem?_cons_zero]; rfl); (rfl); (rfl); (rfl); (intro _; kernel_rfl); (rw [bv_length, HK.out]; kernel_rfl); (intro w' hR; exact row_cells (Row.below r1d hR r1d.lt)); try simp only [Act.put, List.setIfInBounds_toArray, List.set_cons_zero, List.set_cons_succ]) | (apply linN_free; (simp only [List.getElem?_toArray, List.getElem?_cons_succ, List.getElem?_cons_zero]; rfl); (rfl); (intro w'; (first | (go_simp; done) | (go_simp; with_reducible rfl) | (go_simp; go_bits; with_reducible rfl) | (go_simp; go_bits; done))); try simp only [Act.put, List.setIfInBounds_toArray, List.set_cons_zero, List.set_cons_succ]) | (apply linN_freeSkip; (simp only [List.getElem?_toArray, List.getElem?_cons_succ, List.getElem?_cons_zero]; rfl); (rfl); try simp only [Act.put, List.setIfInBounds_toArray, List.set_cons_zero, List.set_cons_succ])); (first | (apply linN_hotLoad (ty := 22) (vs := bv key); (simp only [List.getElem?_toArray, List.getElem?_cons_succ, List.getElem?_cons_zero]; rfl); (rfl); (rfl); (rfl); (intro _; kernel_rfl); (rw [bv_length, HK.out]; kernel_rfl); (intro w' hR; exact row_cells (Row.below r1d hR r1d.lt)); try simp only [Act.put, List.setIfInBounds_toArray, List.set_cons_zero, List.set_cons_succ]) | (apply linN_hot; (simp only [List.getElem?_toArray, List.getElem?_cons_succ, List.getElem?_cons_zero]; rfl); (rfl); (intro w' hb'; (first | (go_simp; done) | (go_simp; with_reducible rfl) | (go_simp; go_bits; with_reducible rfl) | (go_simp; go_bits; done))); try simp only [Act.put, List.setIfInBounds_toArray, List.set_cons_zero, List.set_cons_succ]) | (apply linN_hotSkip; (simp only [List.getElem?_toArray, List.getElem?_cons_succ, List.getElem?_cons_zero]; rfl); (rfl); try simp only [Act.put, List.setIfInBounds_toArray, List.set_cons_zero, List.set_cons_succ])); (first | (apply linN_hotLoad (ty := 22) (vs := bv key); (simp only [List.getElem?_toArray, List.getElem?_cons_succ, List.getElem?_cons_zero]; rfl); (rfl); (rfl); (rfl); (intro _; kernel_rfl); (rw [bv_length, HK.out]; kernel_rfl); (intro w' hR; exact row_cells (Row.below r1d hR r1d.lt)); try simp only [Act.put, List.setIfInBounds_toArray, List.set_cons_zero, List.set_cons_succ]) | (apply linN_free; (simp only [List.getElem?_toArray, List.getElem?_cons_succ, List.getElem?_cons_zero]; rfl); (rfl); (intro w'; (first | (go_simp; done) | (go_simp; with_reducible rfl) | (go_simp; go_bits; with_reducible rfl) | (go_simp; go_bits; done))); try simp only [Act.put, List.setIfInBounds_toArray, List.set_cons_zero, List.set_cons_succ]) | (apply linN_freeSkip; (simp only [List.getElem?_toArray, List.getElem?_cons_succ, List.getElem?_cons_zero]; rfl); (rfl); try simp only [Act.put, List.setIfInBounds_toArray, List.set_cons_zero, List.set_cons_succ])); (first | (apply linN_hotLoad (ty := 22) (vs := bv key); (simp only [List.getElem?_toArray, List.getElem?_cons_succ, List.getElem?_cons_zero]; rfl); (rfl); (rfl); (rfl); (intro _; kernel_rfl); (rw [bv_length, HK.out]; kernel_rfl); (intro w' hR; exact row_cells (Row.below r1d hR r1d.lt)); try simp only [Act.put, List.setIfInBounds_toArray, List.set_cons_zero, List.set_cons_succ]) | (apply linN_free; (simp only [List.getElem?_toArray, List.getElem?_cons_succ, List.getElem?_cons_zero]; rfl); (rfl); (intro w'; (first | (go_simp; done) | (go_simp; with_reducible rfl) | (go_simp; go_bits; with_reducible rfl) | (go_simp; go_bits; done))); try simp only [Act.put, List.setIfInBounds_toArray, List.set_cons_zero, List.set_cons_succ]) | (apply linN_freeSkip; (simp only [List.getElem?_toArray, List.getElem?_cons_succ, List.getElem?_cons_zero]; rfl); (rfl); try simp only [Act.put, List.setIfInBounds_toArray, List.set_cons_zero, List.set_cons_succ])); (first | (apply linN_hotLoad (ty := 22) (vs := bv key); (simp only [List.getElem?_toArray, List.getElem?_cons_succ, List.getElem?_cons_zero]; rfl); (rfl); (rfl); (rfl); (intro _; kernel_rfl); (rw [bv_length, HK.out]; kernel_rfl); (intro w' hR; exact row_cells (Row.below r1d hR r1d.lt)); try simp only [Act.put, List.setIfInBounds_toArray, List.set_cons_zero, List.set_cons_succ]) | (apply linN_hot; (simp only [List.getElem?_toArray, List.getElem?_cons_succ, List.getElem?_cons_zero]; rfl); (rfl); (intro w' hb'; (first | (go_simp; done) | (go_simp; with_reducible rfl) | (go_simp; go_bits; with_reducible rfl) | (go_simp; go_bits; done))); try simp only [Act.put, List.setIfInBounds_toArray, List.set_cons_zero, List.set_cons_succ]) | (apply linN_hotSkip; (simp only [List.getElem?_toArray, List.getElem?_cons_succ, List.getElem?_cons_zero]; rfl); (rfl); try simp only [Act.put, List.setIfInBounds_toArray, List.set_cons_zero, List.set_cons_succ])); (first | (apply linN_hotLoad (ty := 22) (vs := bv key); (simp only [List.getElem?_toArray, List.getElem?_cons_succ, List.getElem?_cons_zero]; rfl); (rfl); (rfl); (rfl); (intro _; kernel_rfl); (rw [bv_length, HK.out]; kernel_rfl); (intro w' hR; exact row_cells (Row.below r1d hR r1d.lt)); try simp only [Act.put, List.setIfInBounds_toArray, List.set_cons_zero, List.set_cons_succ]) | (apply linN_free; (simp only [List.getElem?_toArray, List.getElem?_cons_succ, List.getElem?_cons_zero]; rfl); (rfl); (intro w'; (first | (go_simp; done) | (go_simp; with_reducible rfl) | (go_simp; go_bits; with_reducible rfl) | (go_simp; go_bits; done))); try simp only [Act.put, List.setIfInBounds_toArray, List.set_cons_zero, List.set_cons_succ]) | (apply linN_freeSkip; (simp only [List.getElem?_toArray, List.getElem?_cons_succ, List.getElem?_cons_zero]; rfl); (rfl); try simp only [Act.put, List.setIfInBounds_toArray, List.set_cons_zero, List.set_cons_succ])); (first | (apply linN_pass (wayKpP) (wayKpP); (simp only [List.getElem?_toArray, List.getElem?_cons_succ, List.getElem?_cons_zero]; rfl); (rfl); try simp only [Act.put, List.setIfInBounds_toArray, List.set_cons_zero, List.set_cons_succ]) | (apply linN_op; (simp only [List.getElem?_toArray, List.getElem?_cons_succ, List.getElem?_cons_zero]; rfl); (rfl); intro K hK; (first | (go_simp; (first | (go_at_call 18; (with_reducible refine (HN1.out _).mono ?_); rintro e w2 ⟨g1, rfl, hP1, hg1, hb2'⟩; have hdr2 : KpP _ w2 := hb2') | (go_at_call 18; (with_reducible refine (HN2.out _).mono ?_); rintro e w3 ⟨g2, rfl, hP2, hg2, hb3⟩; have hdr2 : KpP _ w3 := hb3) | skip))); refine hK _ _ ?_ ?_; (show (KpP) _ _; (first | exact hdr2 | assumption | exact (wayKpP).refl _ | exact (wayKpP).refl _ | exact Below.refl _ _ | exact ⟨rfl, rfl, rfl, Nat.le_refl _, fun _ _ => rfl⟩ | exact but_set _ _ _ _ _ | exact but_drew (but_set _ _ _ _ _) | exact but_upd (by assumption) | exact but_below (by assumption) | exact belowB_alloc (by first | omega | (simp; done) | (simp; omega)) _ | exact belowB_mono (by first | omega | (simp; done) | (simp; omega)) (by assumption) | (first | exact rg_alloc (by simp; omega) (by simp; omega) _ | exact FR.of_below (below_alloc (Below.refl _ _) _) (by first | assumption | (simp; omega)) | exact DR.of_below (below_alloc (Below.refl _ _) _) (by first | assumption | (simp; omega))))); clear hK; try simp only [Act.put, List.setIfInBounds_toArray, List.set_cons_zero, List.set_cons_succ])); (first | (apply linN_pass (wayKpP) (wayKpP); (simp only [List.getElem?_toArray, List.getElem?_cons_succ, List.getElem?_cons_zero]; rfl); (rfl); try simp only [Act.put, List.setIfInBounds_toArray, List.set_cons_zero, List.set_cons_succ]) | (apply linN_op; (simp only [List.getElem?_toArray, List.getElem?_cons_succ, List.getElem?_cons_zero]; rfl); (rfl); intro K hK; (first | (go_simp; (first | (go_at_call 18; (with_reducible refine (HN1.out _).mono ?_); rintro e w2 ⟨g1, rfl, hP1, hg1, hb2'⟩; have hdr2 : KpP _ w2 := hb2') | (go_at_call 18; (with_reducible refine (HN2.out _).mono ?_); rintro e w3 ⟨g2, rfl, hP2, hg2, hb3⟩; have hdr2 : KpP _ w3 := hb3) | skip))); refine hK _ _ ?_ ?_; (exact trivial); clear hK; try simp only [Act.put, List.setIfInBounds_toArray, List.set_cons_zero, List.set_cons_succ])); (first | (apply linN_hotLoad (ty := 22) (vs := bv key); (simp only [List.getElem?_toArray, List.getElem?_cons_succ, List.getElem?_cons_zero]; rfl); (rfl); (rfl); (rfl); (intro _; kernel_rfl); (rw [bv_length, HK.out]; kernel_rfl); (intro w' hR; exact row_cells (Row.below r1d hR r1d.lt)); try simp only [Act.put, List.setIfInBounds_toArray, List.set_cons_zero, List.set_cons_succ]) | (apply linN_free; (simp only [List.getElem?_toArray, List.getElem?_cons_succ, List.getElem?_cons_zero]; rfl); (rfl); (intro w'; (first | (go_simp; done) | (go_simp; with_reducible rfl) | (go_simp; go_bits; with_reducible rfl) | (go_simp; go_bits; done))); try simp only [Act.put, List.setIfInBounds_toArray, List.set_cons_zero, List.set_cons_succ]) | (apply linN_freeSkip; (simp only [List.getElem?_toArray, List.getElem?_cons_succ, List.getElem?_cons_zero]; rfl); (rfl); try simp only [Act.put, List.setIfInBounds_toArray, List.set_cons_zero, List.set_cons_succ])); (first | (apply linN_hotLoad (ty := 22) (vs := bv key); (simp only [List.getElem?_toArray, List.getElem?_cons_succ, List.getElem?_cons_zero]; rfl); (rfl); (rfl); (rfl); (intro _; kernel_rfl); (rw [bv_length, HK.out]; kernel_rfl); (intro w' hR; exact row_cells (Row.below r1d hR r1d.lt)); try simp only [Act.put, List.setIfInBounds_toArray, List.set_cons_zero, List.set_cons_succ]) | (apply linN_free; (simp only [List.getElem?_toArray, List.getElem?_cons_succ, List.getElem?_cons_zero]; rfl); (rfl); (intro w'; (first | (go_simp; done) | (go_simp; with_reducible rfl) | (go_simp; go_bits; with_reducible rfl) | (go_simp; go_bits; done))); try simp only [Act.put, List.setIfInBounds_toArray, List.set_cons_zero, List.set_cons_succ]) | (apply linN_freeSkip; (simp only [List.getElem?_toArray, List.getElem?_cons_succ, List.getElem?_cons_zero]; rfl); (rfl); try simp only [Act.put, List.setIfInBounds_toArray, List.set_cons_zero, List.set_cons_succ])); refine linN_end ?_)
  have hbb : Below w1.drew.heap.size w1.drew w3 := hb2'.trans (hb3.mono hb2'.size)
  have hP1' := hP1.below hb3 hP1.lt
  have hI3 := hId.below hbb
  have r3 := r1d.below hbb r1d.lt
  have hg1w : w1.heap.size ≤ g1 := hg1
  have hg2w : w2.heap.size ≤ g2 := hg2
  have hg12 : g2 ≠ g1 := by have := hP1.lt; omega
  have hgb1 : bs ≤ g1 := Nat.le_trans hId.le hg1
  have hgb2 : bs ≤ g2 := Nat.le_trans (Nat.le_trans hId.le hb2'.size) hg2
  have hwbs : w.heap.size < bs := hlB
  have hB3 : Below w.heap.size w w3 := (below_drew hB1).trans (hbb.mono hB1.size)
  have HW := Lib.hid (p_write hP1' hI3 (by decide) hgb1 hfr.goes 0 (by decide) A n c text (hR.below hB3 (Nat.le_refl _)) (by omega) (by decide) true (by rw [hsz, fitsB_iff]; omega))
  rw [e50] at HW
  simp only [if_true] at HW
  clear hb2' hb3 hP1 hId hbb r1d r1 HN1 HN2 hB1 hg1 hg2 hP1' hI3
  go_upto_region 7 with (go_at_call 19; (with_reducible refine HW.out.mono ?_); rintro e w4 ⟨rfl, hI4, -, hp4⟩)
  have hP4 := hP2.pr hp4 hg12
  have r4 := hp4.2 _ _ _ r3 (by decide) (by omega)
  have hB4 := hB3.trans (hp4.1.mono (Nat.le_of_lt hwbs))
  have q0 := HPD.out.a0
  have q1 := HPD.out.op
  have q2 := HPD.out.a1
  have q3 := HPD.out.st
  have hfr1 : Free ((dkNew 2 50).write 0 (sealL key a 0 text 50)) := hfr.write _ _
  clear HPD HW hp4 hP2 r3 hB3 hfr hsz e50
  generalize sealL key a 0 text 50 = B at *
  generalize (dkNew 2 50).write 0 B = D1 at *
  have h1 : opP key B = text := by unfold opP; rw [q1]; rfl
  have h2 : (openL key B).isSome = true := by rw [q1]; rfl
  have HR4 := Lib.hid (p_read hP4 hI4 (by decide) hfr1.goes 0 (by decide))
  rw [q0, h1, h2] at HR4
  have hfr2 : Free ((D1.read 0).write 1 raw) := (hfr1.read 0).write _ _
  have hfr1' := hfr1.read 0
  clear q0 q1 h1 h2 hfr1
  generalize D1.read 0 = D1r at *
  go_upto_region 8 with (go_at_call 20; (with_reducible refine HR4.out.mono ?_); rintro e w5 ⟨v5, rfl, ho5, hI5, hd5⟩)
  obtain ⟨A5x, d5, rfl, ld5, -, -⟩ := ho5.form
  have hx5 := BytesAt.of_own (base := bs) ho5
  have hP5 := hP4.dr hd5
  have r5 := r4.dr hd5 (by decide)
  have hB5 := hB4.trans (hd5.below.mono (Nat.le_of_lt hwbs))
  have hraw : BytesAt w5 bs (.slice A5 nr cr) raw := by
    have h := hR5.below hB5 (Nat.le_refl _)
    refine ⟨A5, cr, by rw [HBLR.out], by rw [HBLR.out]; exact hc5, HCM.out, by rw [HBLR.out]; exact h, fun ad e h0 => ?_⟩
    subst e
    rw [HBLR.out] at h0
    exact .inl (Nat.lt_trans (Rd.block_lt hR5 h0) hwbs)
  have HWR := Lib.hid (i_write hI5 (by decide) hfr1'.goes 1 _ raw (by decide) hraw)
  clear HR4 ho5 hP4 r4 hB4 hd5 hraw hI4
  generalize hD2 : D1r.write 1 raw = D2 at *
  clear hD2
  go_upto_region 9 with (go_at_call 21; (with_reducible refine HWR.out.mono ?_); rintro e w6 ⟨rfl, hI6, hd6⟩)
  have hx6 := hx5.keep hd6 (by decide)
  have hP6 := hP5.dr hd6
  have r6 := r5.dr hd6 (by decide)
  have hB6 := hB5.trans (hd6.below.mono (Nat.le_of_lt hwbs))
  have HR6 := Lib.hid (p_read hP6 hI6 (by decide) hfr2.goes 1 (by decide))
  rw [q2] at HR6
  have hl50 : (fitL 50 raw).length = 50 := fitL_length 50 raw
  have hfr3 := hfr2.read 1
  clear q2 HWR hP5 r5 hB5 hd6 hI5 hx5 hfr1' hfr2
  generalize D2.read 1 = D3 at *
  generalize fitL 50 raw = X at *
  have HLX := Lib.hid hl50
  clear hl50
  go_upto_region 10 with (go_at_call 20; (with_reducible refine HR6.out.mono ?_); rintro e w7 ⟨v7, rfl, ho7, hI7, hd7⟩)
  obtain ⟨A7, d7, rfl, ld7, -, -⟩ := ho7.form
  have hy7 := BytesAt.of_own (base := bs) ho7
  have hx7 := hx6.keep hd7 (by decide)
  have r7 := r6.dr hd7 (by decide)
  have hB7 := hB6.trans (hd7.below.mono (Nat.le_of_lt hwbs))
  have HFL := Lib.hid (i_flush hI7 (by decide) hfr3.goes)
  clear HR6 ho7 hP6 r6 hB6 hd7 hI6 hx6 hfr3
  generalize D3.flush = D4 at *
  go_upto_region 11 with (go_at_call 22; (with_reducible refine HFL.out.mono ?_); rintro e w8 ⟨rfl, hI8, hd8⟩)
  have hx8 := hx7.keep hd8 (by decide)
  have hy8 := hy7.keep hd8 (by decide)
  have r8 := r7.dr hd8 (by decide)
  have hB8 := hB7.trans (hd8.below.mono (Nat.le_of_lt hwbs))
  have hI8d := hI8.below (below_drew (Below.refl w8.heap.size w8))
  have r8d : Row w8.drew _ _ _ := r8
  have HST := Lib.hid (i_stable hI8d (by decide) 1 (by decide))
  rw [q3] at HST
  clear q3 HFL r7 hB7 hd8 hI7 hx7 hy7
  (refine wp_region_linN (KpP) (KpP) (wayKpP) (wayKpP) (fun _ _ h => h) (.hot 0 (.free 1 (.op 2 [] [0] [] (.op 3 [(0, 3)] [] [] (.free 4 (.free 5 (.free 6 (.free 7 (.free 8 (.free 9 (.free 10 (.free 11 (.free 12 .nil))))))))))))) rfl (by kernel_rfl) (by kernel_rfl) (fun _ _ _ _ _ h => h) ?_; (first | (apply linN_hotLoad (ty := 22) (vs := bv key); (simp only [List.getElem?_toArray, List.getElem?_cons_succ, List.getElem?_cons_zero]; rfl); (rfl); (rfl); (rfl); (intro _; kernel_rfl); (rw [bv_length, HK.out]; kernel_rfl); (intro w' hR; exact row_cells (Row.below r8d hR r8d.lt)); try simp only [Act.put, List.setIfInBounds_toArray, List.set_cons_zero, List.set_cons_succ]) | (apply linN_hot; (simp only [List.getElem?_toArray, List.getElem?_cons_succ, List.getElem?_cons_zero]; rfl); (rfl); (intro w' hb'; (first | (go_simp; done) | (go_simp; with_reducible rfl) | (go_simp; go_bits; with_reducible rfl) | (go_simp; go_bits; done))); try simp only [Act.put, List.setIfInBounds_toArray, List.set_cons_zero, List.set_cons_succ]) | (apply linN_hotSkip; (simp only [List.getElem?_toArray, List.getElem?_cons_succ, List.getElem?_cons_zero]; rfl); (rfl); try simp only [Act.put, List.setIfInBounds_toArray, List.set_cons_zero, List.set_cons_succ])); (first | (apply linN_hotLoad (ty := 22) (vs := bv key); (simp only [List.getElem?_toArray, List.getElem?_cons_succ, List.getElem?_cons_zero]; rfl); (rfl); (rfl); (rfl); (intro _; kernel_rfl); (rw [bv_length, HK.out]; kernel_rfl); (intro w' hR; exact row_cells (Row.below r8d hR r8d.lt)); try simp only [Act.put, List.setIfInBounds_toArray, List.set_cons_zero, List.set_cons_succ]) | (apply linN_free; (simp only [List.getElem?_toArray, List.getElem?_cons_succ, List.getElem?_cons_zero]; rfl); (rfl); (intro w'; (first | (go_simp; done) | (go_simp; with_reducible rfl) | (go_simp; go_bits; with_reducible rfl) | (go_simp; go_bits; done))); try simp only [Act.put, List.setIfInBounds_toArray, List.set_cons_zero, List.set_cons_succ]) | (apply linN_freeSkip; (simp only [List.getElem?_toArray, List.getElem?_cons_succ, List.getElem?_cons_zero]; rfl); (rfl); try simp only [Act.put, List.setIfInBounds_toArray, List.set_cons_zero, List.set_cons_succ])); (first | (apply linN_pass (wayKpP) (wayKpP); (simp only [List.getElem?_toArray, List.getElem?_cons_succ, List.getElem?_cons_zero]; rfl); (rfl); try simp only [Act.put, List.setIfInBounds_toArray, List.set_cons_zero, List.set_cons_succ]) | (apply linN_op; (simp only [List.getElem?_toArray, List.getElem?_cons_succ, List.getElem?_cons_zero]; rfl); (rfl); intro K hK; (first | (go_simp; (first | (go_at_call 24; (with_reducible refine HST.out.mono ?_); rintro e w9 ⟨v9, rfl, ho9, hI9, hb9⟩; have hdr2 : KpP _ w9 := hb9; obtain ⟨A9, d9, rfl, ld9, -, hr9⟩ := ho9.form; rw [HLX.out] at hr9 ld9 ⊢) | (go_at_call 23; (with_reducible refine (c_rOpenT key HK.out A9 50 d9 X w9 hr9 ld9 (by decide)).mono ?_); rintro e w10 ⟨v10, rfl, ho10, hb10⟩) | skip))); refine hK _ _ ?_ ?_; (show (KpP) _ _; (first | exact hdr2 | assumption | exact (wayKpP).refl _ | exact (wayKpP).refl _ | exact Below.refl _ _ | exact ⟨rfl, rfl, rfl, Nat.le_refl _, fun _ _ => rfl⟩ | exact but_set _ _ _ _ _ | exact but_drew (but_set _ _ _ _ _) | exact but_upd (by assumption) | exact but_below (by assumption) | exact belowB_alloc (by first | omega | (simp; done) | (simp; omega)) _ | exact belowB_mono (by first | omega | (simp; done) | (simp; omega)) (by assumption) | (first | exact rg_alloc (by simp; omega) (by simp; omega) _ | exact FR.of_below (below_alloc (Below.refl _ _) _) (by first | assumption | (simp; omega)) | exact DR.of_below (below_alloc (Below.refl _ _) _) (by first | assumption | (simp; omega))))); clear hK; try simp only [Act.put, List.setIfInBounds_toArray, List.set_cons_zero, List.set_cons_succ])); (first | (apply linN_pass (wayKpP) (wayKpP); (simp only [List.getElem?_toArray, List.getElem?_cons_succ, List.getElem?_cons_zero]; rfl); (rfl); try simp only [Act.put, List.setIfInBounds_toArray, List.set_cons_zero, List.set_cons_succ]) | (apply linN_op; (simp only [List.getElem?_toArray, List.getElem?_cons_succ, List.getElem?_cons_zero]; rfl); (rfl); intro K hK; (first | (go_simp; (first | (go_at_call 24; (with_reducible refine HST.out.mono ?_); rintro e w9 ⟨v9, rfl, ho9, hI9, hb9⟩; have hdr2 : KpP _ w9 := hb9; obtain ⟨A9, d9, rfl, ld9, -, hr9⟩ := ho9.form; rw [HLX.out] at hr9 ld9 ⊢) | (go_at_call 23; (with_reducible refine (c_rOpenT key HK.out A9 50 d9 X w9 hr9 ld9 (by decide)).mono ?_); rintro e w10 ⟨v10, rfl, ho10, hb10⟩) | skip))); refine hK _ _ ?_ ?_; (exact trivial); clear hK; try simp only [Act.put, List.setIfInBounds_toArray, List.set_cons_zero, List.set_cons_succ])); (first | (apply linN_hotLoad (ty := 22) (vs := bv key); (simp only [List.getElem?_toArray, List.getElem?_cons_succ, List.getElem?_cons_zero]; rfl); (rfl); (rfl); (rfl); (intro _; kernel_rfl); (rw [bv_length, HK.out]; kernel_rfl); (intro w' hR; exact row_cells (Row.below r8d hR r8d.lt)); try simp only [Act.put, List.setIfInBounds_toArray, List.set_cons_zero, List.set_cons_succ]) | (apply linN_free; (simp only [List.getElem?_toArray, List.getElem?_cons_succ, List.getElem?_cons_zero]; rfl); (rfl); (intro w'; (first | (go_simp; done) | (go_simp; with_reducible rfl) | (go_simp; go_bits; with_reducible rfl) | (go_simp; go_bits; done))); try simp only [Act.put, List.setIfInBounds_toArray, List.set_cons_zero, List.set_cons_succ]) | (apply linN_freeSkip; (simp only [List.getElem?_toArray, List.getElem?_cons_succ, List.getElem?_cons_zero]; rfl); (rfl); try simp only [Act.put, List.setIfInBounds_toArray, List.set_cons_zero, List.set_cons_succ])); (first | (apply linN_hotLoad (ty := 22) (vs := bv key); (simp only [List.getElem?_toArray, List.getElem?_cons_succ, List.getElem?_cons_zero]; rfl); (rfl); (rfl); (rfl); (intro _; kernel_rfl); (rw [bv_length, HK.out]; kernel_rfl); (intro w' hR; exact row_cells (Row.below r8d hR r8d.lt)); try simp only [Act.put, List.setIfInBounds_toArray, List.set_cons_zero, List.set_cons_succ]) | (apply linN_free; (simp only [List.getElem?_toArray, List.getElem?_cons_succ, List.getElem?_cons_zero]; rfl); (rfl); (intro w'; (first | (go_simp; done) | (go_simp; with_reducible rfl) | (go_simp; go_bits; with_reducible rfl) | (go_simp; go_bits; done))); try simp only [Act.put, List.setIfInBounds_toArray, List.set_cons_zero, List.set_cons_succ]) | (apply linN_freeSkip; (simp only [List.getElem?_toArray, List.getElem?_cons_succ, List.getElem?_cons_zero]; rfl); (rfl); try simp only [Act.put, List.setIfInBounds_toArray, List.set_cons_zero, List.set_cons_succ])); (first | (apply linN_hotLoad (ty := 22) (vs := bv key); (simp only [List.getElem?_toArray, List.getElem?_cons_succ, List.getElem?_cons_zero]; rfl); (rfl); (rfl); (rfl); (intro _; kernel_rfl); (rw [bv_length, HK.out]; kernel_rfl); (intro w' hR; exact row_cells (Row.below r8d hR r8d.lt)); try simp only [Act.put, List.setIfInBounds_toArray, List.set_cons_zero, List.set_cons_succ]) | (apply linN_free; (simp only [List.getElem?_toArray, List.getElem?_cons_succ, List.getElem?_cons_zero]; rfl); (rfl); (intro w'; (first | (go_simp; done) | (go_simp; with_reducible rfl) | (go_simp; go_bits; with_reducible rfl) | (go_simp; go_bits; done))); try simp only [Act.put, List.setIfInBounds_toArray, List.set_cons_zero, List.set_cons_succ]) | (apply linN_freeSkip; (simp only [List.getElem?_toArray, List.getElem?_cons_succ, List.getElem?_cons_zero]; rfl); (rfl); try simp only [Act.put, List.setIfInBounds_toArray, List.set_cons_zero, List.set_cons_succ])); (first | (apply linN_hotLoad (ty := 22) (vs := bv key); (simp only [List.getElem?_toArray, List.getElem?_cons_succ, List.getElem?_cons_zero]; rfl); (rfl); (rfl); (rfl); (intro _; kernel_rfl); (rw [bv_length, HK.out]; kernel_rfl); (intro w' hR; exact row_cells (Row.below r8d hR r8d.lt)); try simp only [Act.put, List.setIfInBounds_toArray, List.set_cons_zero, List.set_cons_succ]) | (apply linN_free; (simp only [List.getElem?_toArray, List.getElem?_cons_succ, List.getElem?_cons_zero]; rfl); (rfl); (intro w'; (first | (go_simp; done) | (go_simp; with_reducible rfl) | (go_simp; go_bits; with_reducible rfl) | (go_simp; go_bits; done))); try simp only [Act.put, List.setIfInBounds_toArray, List.set_cons_zero, List.set_cons_succ]) | (apply linN_freeSkip; (simp only [List.getElem?_toArray, List.getElem?_cons_succ, List.getElem?_cons_zero]; rfl); (rfl); try simp only [Act.put, List.setIfInBounds_toArray, List.set_cons_zero, List.set_cons_succ])); (first | (apply linN_hotLoad (ty := 22) (vs := bv key); (simp only [List.getElem?_toArray, List.getElem?_cons_succ, List.getElem?_cons_zero]; rfl); (rfl); (rfl); (rfl); (intro _; kernel_rfl); (rw [bv_length, HK.out]; kernel_rfl); (intro w' hR; exact row_cells (Row.below r8d hR r8d.lt)); try simp only [Act.put, List.setIfInBounds_toArray, List.set_cons_zero, List.set_cons_succ]) | (apply linN_free; (simp only [List.getElem?_toArray, List.getElem?_cons_succ, List.getElem?_cons_zero]; rfl); (rfl); (intro w'; (first | (go_simp; done) | (go_simp; with_reducible rfl) | (go_simp; go_bits; with_reducible rfl) | (go_simp; go_bits; done))); try simp only [Act.put, List.setIfInBounds_toArray, List.set_cons_zero, List.set_cons_succ]) | (apply linN_freeSkip; (simp only [List.getElem?_toArray, List.getElem?_cons_succ, List.getElem?_cons_zero]; rfl); (rfl); try simp only [Act.put, List.setIfInBounds_toArray, List.set_cons_zero, List.set_cons_succ])); (first | (apply linN_hotLoad (ty := 22) (vs := bv key); (simp only [List.getElem?_toArray, List.getElem?_cons_succ, List.getElem?_cons_zero]; rfl); (rfl); (rfl); (rfl); (intro _; kernel_rfl); (rw [bv_length, HK.out]; kernel_rfl); (intro w' hR; exact row_cells (Row.below r8d hR r8d.lt)); try simp only [Act.put, List.setIfInBounds_toArray, List.set_cons_zero, List.set_cons_succ]) | (apply linN_free; (simp only [List.getElem?_toArray, List.getElem?_cons_succ, List.getElem?_cons_zero]; rfl); (rfl); (intro w'; (first | (go_simp; done) | (go_simp; with_reducible rfl) | (go_simp; go_bits; with_reducible rfl) | (go_simp; go_bits; done))); try simp only [Act.put, List.setIfInBounds_toArray, List.set_cons_zero, List.set_cons_succ]) | (apply linN_freeSkip; (simp only [List.getElem?_toArray, List.getElem?_cons_succ, List.getElem?_cons_zero]; rfl); (rfl); try simp only [Act.put, List.setIfInBounds_toArray, List.set_cons_zero, List.set_cons_succ])); (first | (apply linN_hotLoad (ty := 22) (vs := bv key); (simp only [List.getElem?_toArray, List.getElem?_cons_succ, List.getElem?_cons_zero]; rfl); (rfl); (rfl); (rfl); (intro _; kernel_rfl); (rw [bv_length, HK.out]; kernel_rfl); (intro w' hR; exact row_cells (Row.below r8d hR r8d.lt)); try simp only [Act.put, List.setIfInBounds_toArray, List.set_cons_zero, List.set_cons_succ]) | (apply linN_free; (simp only [List.getElem?_toArray, List.getElem?_cons_succ, List.getElem?_cons_zero]; rfl); (rfl); (intro w'; (first | (go_simp; done) | (go_simp; with_reducible rfl) | (go_simp; go_bits; with_reducible rfl) | (go_simp; go_bits; done))); try simp only [Act.put, List.setIfInBounds_toArray, List.set_cons_zero, List.set_cons_succ]) | (apply linN_freeSkip; (simp only [List.getElem?_toArray, List.getElem?_cons_succ, List.getElem?_cons_zero]; rfl); (rfl); try simp only [Act.put, List.setIfInBounds_toArray, List.set_cons_zero, List.set_cons_succ])); (first | (apply linN_hotLoad (ty := 22) (vs := bv key); (simp only [List.getElem?_toArray, List.getElem?_cons_succ, List.getElem?_cons_zero]; rfl); (rfl); (rfl); (rfl); (intro _; kernel_rfl); (rw [bv_length, HK.out]; kernel_rfl); (intro w' hR; exact row_cells (Row.below r8d hR r8d.lt)); try simp only [Act.put, List.setIfInBounds_toArray, List.set_cons_zero, List.set_cons_succ]) | (apply linN_free; (simp only [List.getElem?_toArray, List.getElem?_cons_succ, List.getElem?_cons_zero]; rfl); (rfl); (intro w'; (first | (go_simp; done) | (go_simp; with_reducible rfl) | (go_simp; go_bits; with_reducible rfl) | (go_simp; go_bits; done))); try simp only [Act.put, List.setIfInBounds_toArray, List.set_cons_zero, List.set_cons_succ]) | (apply linN_freeSkip; (simp only [List.getElem?_toArray, List.getElem?_cons_succ, List.getElem?_cons_zero]; rfl); (rfl); try simp only [Act.put, List.setIfInBounds_toArray, List.set_cons_zero, List.set_cons_succ])); (first | (apply linN_hotLoad (ty := 22) (vs := bv key); (simp only [List.getElem?_toArray, List.getElem?_cons_succ, List.getElem?_cons_zero]; rfl); (rfl); (rfl); (rfl); (intro _; kernel_rfl); (rw [bv_length, HK.out]; kernel_rfl); (intro w' hR; exact row_cells (Row.below r8d hR r8d.lt)); try simp only [Act.put, List.setIfInBounds_toArray, List.set_cons_zero, List.set_cons_succ]) | (apply linN_free; (simp only [List.getElem?_toArray, List.getElem?_cons_succ, List.getElem?_cons_zero]; rfl); (rfl); (intro w'; (first | (go_simp; done) | (go_simp; with_reducible rfl) | (go_simp; go_bits; with_reducible rfl) | (go_simp; go_bits; done))); try simp only [Act.put, List.setIfInBounds_toArray, List.set_cons_zero, List.set_cons_succ]) | (apply linN_freeSkip; (simp only [List.getElem?_toArray, List.getElem?_cons_succ, List.getElem?_cons_zero]; rfl); (rfl); try simp only [Act.put, List.setIfInBounds_toArray, List.set_cons_zero, List.set_cons_succ])); refine linN_end ?_)
  have hbb : Below w8.drew.heap.size w8.drew w10 := hb9.trans (hb10.mono hb9.size)
  have hdd : DR dTy bs w8 w10 := (DR.of_below (S := dTy) (below_drew (Below.refl w8.heap.size w8)) hI8.le).trans (DR.of_below (S := dTy) hbb (show bs ≤ w8.drew.heap.size from hI8.le))
  have hx10 := hx8.keep hdd (by decide)
  have hy10 := hy8.keep hdd (by decide)
  have hB10 := hB8.trans (hdd.below.mono (Nat.le_of_lt hwbs))
  obtain ⟨Ax, dx, ex, -, -, rx, -⟩ := hx10
  simp only [Value.slice.injEq] at ex
  obtain ⟨rfl, -, rfl⟩ := ex
  obtain ⟨Ay, dy, ey, -, -, ry, -⟩ := hy10
  simp only [Value.slice.injEq] at ey
  obtain ⟨rfl, -, rfl⟩ := ey
  obtain ⟨A10, d10, rfl, -, -, r10⟩ := ho10.form
  have hRt : RdB w10 A n text := hR.below hB10 (Nat.le_refl _)
  have HS1 := Lib.hid (c_rSame w10 A5x A text.length n d5 c text text rx hRt true (by simp))
  have HS2 := Lib.hid (c_rSame w10 A7 A10 (opP key X).length (opP key X).length d7 d10 (opP key X) (opP key X) ry r10 true (by simp))
  clear hbb hdd hx8 hy8 hb9 hb10 hB8 ho9 ho10 hI8 hI8d hI9 hr9 r8 r8d HST rx ry r10 hRt
  generalize (opP key X).length = lp at *
  generalize (openL key X).isSome = ok at *
  go_wp2_with (first | (go_at_call 25; first | ((with_reducible refine HS1.out.mono ?_); rintro e w' ⟨rfl, rfl⟩) | ((with_reducible refine HS2.out.mono ?_); rintro e w' ⟨rfl, rfl⟩)) | (go_at_call 16; (with_reducible refine (c_awake9 _).mono ?_); rintro e w11 ⟨rfl, hb11⟩))
  go_ret
  exact ⟨rfl, below_two hB10 hb11⟩
theorem w_PenOthers (y0 : List UInt8) (a1 a2 : Int) (a3 : Option Addr) (len3 cap3 : Nat) (z3 : List Int) (a4 : Option Addr) (len4 cap4 : Nat) (z4 : List Int) (w : World) (w0 : y0.length = 32) (w1 : (Lit.int .u32 a1).wf = true) (w2 : (Lit.int .u32 a2).wf = true) (w3 : IsRow .u8 w a3 len3 cap3 z3) (w4 : IsRow .u8 w a4 len4 cap4 z4) :
    Calls Try.prog 3 #[.agg (bv y0).toArray, .int .u32 a1, .int .u32 a2, .slice a3 len3 cap3, .slice a4 len4 cap4] w fun e w' => e = .returned (.bool true) ∧ Below w.heap.size w w' := by
  have hcap : len4 ≤ cap4 ∧ cap4 ≤ maxLen := by
    rcases w4 with ⟨_, rfl, rfl, _⟩ | ⟨x, _, h1, h2, _⟩
    · exact ⟨Nat.le_refl _, Nat.zero_le _⟩
    · exact ⟨h1, h2⟩
  obtain ⟨xs, hR, hm⟩ := row_bytes w3
  obtain ⟨ys, hR5, hm5⟩ := row_bytes w4
  have hmx : len3 ≤ 9223372036854775807 := hm
  have hmy : len4 ≤ 9223372036854775807 := hm5
  have h1 : 0 ≤ a1 ∧ a1 ≤ 4294967295 := by simpa [Lit.wf, IntKind.min, IntKind.max, IntKind.signed, IntKind.bits] using w1
  have h2 : 0 ≤ a2 ∧ a2 ≤ 4294967295 := by simpa [Lit.wf, IntKind.min, IntKind.max, IntKind.signed, IntKind.bits] using w2
  obtain ⟨a, rfl⟩ : ∃ k : Nat, a1 = (k : Int) := ⟨a1.toNat, by omega⟩
  obtain ⟨b, rfl⟩ : ∃ k : Nat, a2 = (k : Int) := ⟨a2.toNat, by omega⟩
  exact w_poth0 y0 w0 a b (by omega) (by omega) a3 len3 cap3 xs a4 len4 cap4 ys w hR (by omega) hR5 hcap.1 hcap.2 (by omega)
end Go.Proofs.Ytmdmhjcdaejlkaa
