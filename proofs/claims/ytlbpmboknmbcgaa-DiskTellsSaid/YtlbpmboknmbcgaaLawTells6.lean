/- The walk of DiskTells. -/
import Derived.Test.YtlbpmboknmbcgaaLawAgain
import Derived.Test.YtlbpmboknmbcgaaMat
import Derived.Test.YtlbpmboknmbcgaaEq12
import Derived.Test.YtlbpmboknmbcgaaOrdT
set_option linter.unusedVariables false
set_option linter.unusedSimpArgs false
namespace Go.Proofs.Ytlbpmboknmbcgaa
open Go.RowKit

structure Te (D : Dk) (i : Nat) : Prop where
  bl : D.blocks = 4
  sz : D.size = 16
  fr : Free D
  tr : D.trace.length = 2 * i
theorem Te.next {D : Dk} {i : Nat} (h : Te D i) (k : Int) (xs : List UInt8) : Te ((D.write k xs).read k) (i + 1) :=
  ⟨(write_blocks _ _ _).trans h.bl, (write_size _ _ _).trans h.sz, (h.fr.write _ _).read _, by show ((D.write k xs).trace ++ [_]).length = _; rw [write_trace]; simp [h.tr]; omega⟩
theorem Te.trace {D : Dk} {i : Nat} (h : Te D i) (k : Int) (hk : 0 ≤ k ∧ k < 4) (xs : List UInt8) :
    (D.write k xs).at_ (D.write k xs).now k = fitL 16 xs ∧ ((D.write k xs).read k).trace[2 * i]? = some ⟨2, k, headL (fitL 16 xs), fitL 16 xs⟩ ∧ ((D.write k xs).read k).trace[2 * i + 1]? = some ⟨1, k, headL (fitL 16 xs), []⟩ := by
  have hh : D.has k = true := has_true hk.1 (by rw [h.bl]; exact hk.2)
  have e : (D.write k xs).at_ (D.write k xs).now k = fitL 16 xs := by
    rw [at_yes (by rw [write_has]; exact hh), write_now hh, write_size, h.sz]
    simp only [if_true, fitL_fitL]
  refine ⟨e, ?_, ?_⟩
  · show ((D.write k xs).trace ++ [_])[2 * i]? = _
    rw [write_trace, List.append_assoc, List.getElem?_append_right (by rw [h.tr]; omega), h.tr, Nat.sub_self, h.sz]
    rfl
  · show ((D.write k xs).trace ++ [⟨1, k, headL ((D.write k xs).at_ (D.write k xs).now k), []⟩])[2 * i + 1]? = _
    rw [e, List.getElem?_append_right (by rw [write_trace]; simp [h.tr]), write_trace]
    simp [h.tr]
set_option maxHeartbeats 4000000 in
set_option maxRecDepth 100000 in
theorem w_tells60 (A0 A1 : Option Addr) (l0 c0 l1 c1 : Nat) (xss : List (List UInt8)) (ts : List Int) (w : World) (hM : Mat w A0 l0 xss) (hR : Rd w A1 l1 (iv ts)) :
    Calls Try.prog 5 #[.slice A0 l0 c0, .slice A1 l1 c1] w fun e w' => e = .returned (.bool true) ∧ Below w.heap.size w w' := by
  have HM := Lib.hid hM
  clear hM
  go_enter Try.func5, Try.ntmps5
  go_wp2_with fail
  refine (i_new 4 16 w (by decide) (by decide)).mono ?_
  rintro e w1 ⟨b, rfl, hI, hB⟩
  have hte : Te (dkNew 4 16) 0 := ⟨by decide, by decide, ⟨rfl, rfl⟩, rfl⟩
  generalize dkNew 4 16 = D0 at *
  go_wp2
  go_loopw [6, 7] (fun s6 s7 wr => ∃ (i : Nat) (D : Dk), i ≤ 15 ∧ s6 = .int .i64 ((2 * i : Nat) : Int) ∧ s7 = .int .i64 (i : Int) ∧ Te D i ∧ In wr w.heap.size b D (2 * i) ∧ Below w.heap.size w wr) (fun _ s7 _ => 15 - (intOf s7).toNat)
  case atStart => exact ⟨0, D0, by omega, rfl, rfl, hte, hI, hB⟩
  case round =>
    obtain ⟨i, D, hi, rfl, rfl, hT, hIr, hBr⟩ := hrel
    clear hI hB hte
    by_cases hend : (i : Int) < (l0 : Int) ∧ (i : Int) < (l1 : Int) ∧ (i : Int) < 15
    · obtain ⟨q0, q1, q2⟩ := hend
      have hRr : Rd wr A1 l1 (iv ts) := hR.below hBr (Nat.le_refl _)
      obtain ⟨ad1, v1, rfl, hv1, hc1⟩ := hRr.at_ (j := i) (by omega)
      have hlen : ts.length = l1 := by have := hR.1; rwa [iv_length] at this
      rw [iv_get, List.getElem?_eq_getElem (by omega)] at hv1
      cases hv1
      have hl0 := HM.out.1
      obtain ⟨ad0, v0, rfl, hc0, hx0⟩ := HM.out.2 i xss[i] (List.getElem?_eq_getElem (by omega))
      have hlt0 : ad0.block < w.heap.size := by have := World.block_lt_of_cell? w _ hc0; rwa [ad_block] at this
      have hc0r : wr.cell? (ad0.add i) = some v0 := (hBr.cell (p := ad0.add i) (by rw [ad_block]; exact hlt0)).trans hc0
      generalize ts[i] = tv at *
      generalize xss[i] = xs at *
      have hm := m3 tv
      obtain ⟨k, hk⟩ : ∃ k : Nat, tv % 4 = (k : Int) := ⟨(tv % 4).toNat, by omega⟩
      have hk4 : k < 4 := by omega
      rw [hk] at hm
      obtain ⟨t1, t2, t3⟩ := hT.trace (k : Int) ⟨by omega, by omega⟩ xs
      have hT' := hT.next (k : Int) xs
      have hwf := wf_i64 (x := (k : Int)) (by omega) (by omega)
      go_wp2_with fail
      refine (i_write hIr (by omega) hT.fr.goes (k : Int) v0 xs hwf (hx0.keep (DR.of_below (S := []) hBr (Nat.le_refl _)) (by simp))).mono ?_
      rintro e w2 ⟨rfl, hI2, hd2⟩
      have hB2 := hBr.trans hd2.below
      go_wp2_with fail
      refine (i_read hI2 (by omega) (hT.fr.write _ _).goes (k : Int) hwf).mono ?_
      rintro e w3 ⟨vb, rfl, ho3, hI3, hd3⟩
      have hB3 := hB2.trans hd3.below
      rw [t1] at ho3
      generalize (D.write (k : Int) xs).read (k : Int) = D3 at *
      have hyl : (fitL 16 xs).length = 16 := fitL_length _ _
      generalize fitL 16 xs = ys at *
      clear hI2 hIr hBr hB2 hd2 hd3 hc1 hc0r hRr t1 hx0 hc0
      go_wp2_with fail
      refine (i_stable hI3 (by omega) (k : Int) hwf).mono ?_
      rintro e w4 ⟨vs, rfl, -, hI4, hb4⟩
      have hB4 := below_two hB3 hb4
      have ho4 := ho3.below hb4
      go_wp2_with fail
      refine (i_trace hI4 (by omega)).mono ?_
      rintro e w5 ⟨vt, rfl, ht5, hI5, hb5⟩
      have hB5 := below_two hB4 hb5
      have ho5 := ho4.below hb5
      clear hI4 hI3 hB4 hB3 ho4 ho3 hb4 hb5
      obtain ⟨g, cap, Aw, nw, cw, rfl, hl2, hb2, f2⟩ := ht5.elem t2
      obtain ⟨g', cap', Ar, nr, cr, ev, hl3, hb3, f3⟩ := ht5.elem t3
      simp only [Value.slice.injEq, Option.some.injEq, Addr.mk.injEq] at ev
      obtain ⟨⟨rfl, -, -⟩, -, rfl⟩ := ev
      rw [hT'.tr] at ht5 ⊢
      have hh12 : headL ys = ys.take 12 := by unfold headL; rw [hyl]; simp
      obtain ⟨x0, x1, x2, x3, x4, x5, x6, x7, x8, x9, x10, x11, hxs⟩ := len12 (headL_length ys)
      have hb5' := hI5.le
      have F : ∀ w', Below w5.heap.size w5 w' → ∀ p v, w5.cell? p = some v → w'.cell? p = some v := fun w' hb p v hc => (hb.cell (World.block_lt_of_cell? w5 _ hc)).trans hc
      obtain ⟨m, hm2⟩ : ∃ m, m = 2 * i := ⟨_, rfl⟩
      have e15 : 2 * i + 1 = m + 1 := by omega
      rw [e15] at f3
      rw [← hm2] at f2
      have p0 := f2 0 _ rfl
      have p1 := f3 0 _ rfl
      have p2 := f2 1 _ rfl
      have p3 := f3 1 _ rfl
      have p4 := f2 14 _ (by have := evC_14 2 (k : Int) (headL ys) (.slice Aw nw cw) (headL_length ys); rwa [List.getElem?_toArray] at this)
      have p5 := f3 14 _ (by have := evC_14 1 (k : Int) (headL ys) (.slice Ar nr cr) (headL_length ys); rwa [List.getElem?_toArray] at this)
      rw [ad_none] at p0 p1 p2 p3 p4 p5
      replace p0 : w5.cell? ⟨g, m * 15, none⟩ = some (.int .i64 2) := p0
      replace p1 : w5.cell? ⟨g, (m + 1) * 15, none⟩ = some (.int .i64 1) := p1
      have h2 : ∀ q v, (bv (headL ys))[q]? = some v → w5.cell? ((⟨g, m * 15 + 2, none⟩ : Addr).add q) = some v := fun q v hv => by
        have hq : q < 12 := by have := (List.getElem?_eq_some_iff.1 hv).1; rw [bv_length, headL_length] at this; exact this
        have := f2 (2 + q) v (by show ([Value.int .i64 2, .int .i64 (k : Int)] ++ bv (headL ys) ++ [.slice Aw nw cw])[2 + q]? = _; rw [List.append_assoc, List.getElem?_append_right (by simp), List.getElem?_append_left (by simp [bv_length, headL_length]; omega)]; simpa using hv)
        rw [ad_none] at this ⊢
        rw [Nat.add_assoc]
        exact this
      have h3 : ∀ q v, (bv (headL ys))[q]? = some v → w5.cell? ((⟨g, (m + 1) * 15 + 2, none⟩ : Addr).add q) = some v := fun q v hv => by
        have hq : q < 12 := by have := (List.getElem?_eq_some_iff.1 hv).1; rw [bv_length, headL_length] at this; exact this
        have := f3 (2 + q) v (by show ([Value.int .i64 1, .int .i64 (k : Int)] ++ bv (headL ys) ++ [.slice Ar nr cr])[2 + q]? = _; rw [List.append_assoc, List.getElem?_append_right (by simp), List.getElem?_append_left (by simp [bv_length, headL_length]; omega)]; simpa using hv)
        rw [ad_none] at this ⊢
        rw [Nat.add_assoc]
        exact this
      obtain ⟨Aw', cw', ew, -, -, rw0, -⟩ := hb2
      simp only [Value.slice.injEq] at ew
      obtain ⟨rfl, rfl, rfl⟩ := ew
      obtain ⟨Ar', cr', er, -, -, -, -⟩ := hb3
      simp only [Value.slice.injEq] at er
      obtain ⟨rfl, rfl, rfl⟩ := er
      obtain ⟨Ab, cb, rfl, hcb, -, rb⟩ := ho5.form
      have s1 : ∀ w', Below w5.heap.size w5 w' → (convert 22 9 (.slice Aw ys.length cw)).run Try.prog w' = .ok (.string (strB ys)) w' := fun w' hb => run_str (P := Try.prog) w' 22 5 Try.underlying22 Try.underlying5 Aw _ cw _ (rw0.below hb (Nat.le_refl _)) 9 Try.underlying9
      have s2 : ∀ w', Below w5.heap.size w5 w' → (convert 22 9 (.slice Ab ys.length cb)).run Try.prog w' = .ok (.string (strB ys)) w' := fun w' hb => run_str (P := Try.prog) w' 22 5 Try.underlying22 Try.underlying5 Ab _ cb _ (rb.below hb (Nat.le_refl _)) 9 Try.underlying9
      have s3 : ∀ w', Below w5.heap.size w5 w' → (convert 22 9 (.slice Ab 12 cb)).run Try.prog w' = .ok (.string (strB (ys.take 12))) w' := fun w' hb => run_str (P := Try.prog) w' 22 5 Try.underlying22 Try.underlying5 Ab _ cb _ (by have := (rb.cut (k := 12) (by omega)).below hb (Nat.le_refl _); rwa [← bv_take] at this) 9 Try.underlying9
      have s4 : ∀ w', Below w5.heap.size w5 w' → (convert 22 9 (.slice (some ⟨g, m * 15 + 2, none⟩) 12 12)).run Try.prog w' = .ok (.string (strB (ys.take 12))) w' := fun w' hb => by
        rw [← hh12]
        refine run_str (P := Try.prog) w' 22 5 Try.underlying22 Try.underlying5 _ _ 12 _ ?_ 9 Try.underlying9
        exact ⟨by rw [bv_length, headL_length], fun _ => ⟨_, rfl, fun q v hv => F w' hb _ _ (h2 q v hv)⟩⟩
      clear t2 t3 ht5 f2 f3 rw0 rb hl2 hl3 HM hR
      have g1 : (2 * (i : Int)) = (m : Int) := by omega
      have g2 : 2 * (i + 1) = m + 2 := by omega
      have hm30 : m ≤ 30 := by omega
      rw [g1, g2]
      rw [hyl] at s1 s2
      rw [hyl]
      have HG := Lib.hid hm2
      have HXS := Lib.hid hxs
      have HH12 := Lib.hid hh12
      have hw0 : IntKind.i64.wrap (m : Int) = (m : Int) := by simp [IntKind.wrap, IntKind.bits, IntKind.signed]; omega
      have hw1 : IntKind.i64.wrap ((m : Int) + 2 - 1) = (m : Int) + 1 := by simp [IntKind.wrap, IntKind.bits, IntKind.signed]; omega
      have hcb' : (12 : Int) ≤ (cb : Int) := by omega
      have hn1 : ((m : Int) + 1).toNat = m + 1 := by omega
      have hz0 : (0 : Int) ≤ (m : Int) := by omega
      have hz1 : (0 : Int) ≤ (m : Int) + 1 := by omega
      have hz2 : (m : Int) < (m : Int) + 2 := by omega
      have hz3 : (m : Int) + 1 < (m : Int) + 2 := by omega
      have heq := fun W => eq12 (headL ys) (headL_length ys) W
      clear hm2 g1 g2 e15 hxs hh12 hb5'
      go_upto_region 14 with fail
      (refine wp_region_linG (Below w5.heap.size) (wayB w5.heap.size) [(0, true), (1, true), (2, true), (3, true), (4, true), (5, true), (6, true), (7, true), (8, true), (9, true), (10, true), (11, true), (12, true), (13, true), (14, true), (15, true), (16, true), (17, true), (18, true), (19, true), (20, true), (21, true), (22, true), (23, true), (24, true), (25, true), (26, true), (27, true), (28, true), (29, true), (30, true), (31, true), (32, true), (33, true), (34, true), (35, true), (36, true), (37, true), (38, true), (39, true), (40, true), (41, true), (42, true), (43, true), (44, true), (45, true), (46, true), (47, true), (48, true), (49, true), (50, true), (51, true), (52, true), (53, true), (54, true), (55, true), (56, true), (57, true), (58, true), (59, true), (60, true), (61, true), (62, true), (63, true), (64, true), (65, true), (66, true), (67, true), (68, true), (69, true), (70, true), (71, true), (72, true), (73, true), (74, true), (75, true), (76, true), (77, true), (78, true), (79, true), (80, true), (81, true), (82, true), (83, true), (84, true), (85, true), (86, true), (87, true), (88, true), (89, true), (90, true), (91, true), (92, true), (93, true), (94, true), (95, true), (96, true)] rfl rfl (by kernel_rfl) (Eq.trans (by kernel_rfl) okT) (fun _ _ _ _ _ h => h) ?_; dsimp only; (iterate 97 (first | (apply linG_load (ty := 30) (vs := bv (headL ys)) (ad := ⟨g, (m + 1) * 15 + 2, none⟩); (simp only [List.getElem?_toArray, List.getElem?_cons_succ, List.getElem?_cons_zero]; rfl); (rfl); (rfl); (rfl); (intro _; kernel_rfl); (rw [bv_length, headL_length]; kernel_rfl); (intro w' hR q v hv; exact F _ ((below_drew (Below.refl w5.heap.size w5)).trans hR) _ _ (h3 q v hv)); try simp only [Act.put, List.setIfInBounds_toArray, List.set_cons_zero, List.set_cons_succ]) | (apply linG_load (ty := 30) (vs := bv (headL ys)) (ad := ⟨g, m * 15 + 2, none⟩); (simp only [List.getElem?_toArray, List.getElem?_cons_succ, List.getElem?_cons_zero]; rfl); (rfl); (rfl); (rfl); (intro _; kernel_rfl); (rw [bv_length, headL_length]; kernel_rfl); (intro w' hR q v hv; exact F _ ((below_drew (Below.refl w5.heap.size w5)).trans hR) _ _ (h2 q v hv)); try simp only [Act.put, List.setIfInBounds_toArray, List.set_cons_zero, List.set_cons_succ]) | (apply linG_take; (simp only [List.getElem?_toArray, List.getElem?_cons_succ, List.getElem?_cons_zero]; rfl); (rfl); (intro w' hb'; (have hb2 := (below_drew (Below.refl w5.heap.size w5)).trans hb'); (have r0 := F _ hb2 _ _ p0); (have r1 := F _ hb2 _ _ p1); (have r2 := F _ hb2 _ _ p2); (have r3 := F _ hb2 _ _ p3); (have r4 := F _ hb2 _ _ p4); (have r5 := F _ hb2 _ _ p5); (have r6 := s1 _ hb2); (have r7 := s2 _ hb2); (have r8 := s3 _ hb2); (have r9 := s4 _ hb2); (first | (go_simp; done) | (go_simp; with_reducible rfl) | (go_simp; go_bits; with_reducible rfl) | (go_simp; go_bits; done))); try simp only [Act.put, List.setIfInBounds_toArray, List.set_cons_zero, List.set_cons_succ]) | (apply linG_skip; (simp only [List.getElem?_toArray, List.getElem?_cons_succ, List.getElem?_cons_zero]; rfl); (rfl); try simp only [Act.put, List.setIfInBounds_toArray, List.set_cons_zero, List.set_cons_succ]) | (apply linG_pass (wayB w5.heap.size); (simp only [List.getElem?_toArray, List.getElem?_cons_succ, List.getElem?_cons_zero]; rfl); (rfl); try simp only [Act.put, List.setIfInBounds_toArray, List.set_cons_zero, List.set_cons_succ]) | (apply linG_op; (simp only [List.getElem?_toArray, List.getElem?_cons_succ, List.getElem?_cons_zero]; rfl); (rfl); intro K hK; (first | (go_simp; (first | skip))); refine hK _ _ ?_ ?_; (first | exact hdr2 | assumption | (first | exact rg_alloc (by simp; omega) (by simp; omega) _ | exact FR.of_below (below_alloc (Below.refl _ _) _) (by first | assumption | (simp; omega)) | exact DR.of_below (below_alloc (Below.refl _ _) _) (by first | assumption | (simp; omega)))); clear hK; try simp only [Act.put, List.setIfInBounds_toArray, List.set_cons_zero, List.set_cons_succ]))); (try refine linG_end ?_))
      have hm2 := HG.out
      go_wp2
      exact ⟨⟨i + 1, D3, by omega, by congr 1; omega, rfl, hT', hI5.fr (FR.refl [] [] w.heap.size w5).drew, below_drew hB5⟩, by simp [intOf]; omega⟩
    · have hor : ¬ (i : Int) < (l0 : Int) ∨ ((i : Int) < (l0 : Int) ∧ ¬ (i : Int) < (l1 : Int)) ∨ ((i : Int) < (l0 : Int) ∧ (i : Int) < (l1 : Int) ∧ ¬ (i : Int) < 15) := by omega
      rcases hor with q | ⟨q1, q2⟩ | ⟨q1, q2, q3⟩
      all_goals
        go_wp2_with fail
        refine (c_awake6 _).mono ?_
        rintro e w9 ⟨rfl, hb9⟩
        have hB9 := below_two hBr hb9
        go_wp2
        exact ⟨rfl, .bool true, by simp [results, Try.results5], rfl, hB9⟩
theorem w_DiskTells (a0 : Option Addr) (len0 cap0 : Nat) (a1 : Option Addr) (len1 cap1 : Nat) (z1 : List Int) (w : World) (w0 : IsMat .u8 w a0 len0 cap0) (w1 : IsRow .i64 w a1 len1 cap1 z1) :
    Calls Try.prog 5 #[.slice a0 len0 cap0, .slice a1 len1 cap1] w fun e w' => e = .returned (.bool true) ∧ Below w.heap.size w w' := by
  obtain ⟨xs, hR, hm, hw⟩ := row_ints w1
  obtain ⟨xss, hM⟩ := mat_bytes w0
  exact w_tells60 a0 a1 len0 cap0 len1 cap1 xss xs w hM hR
end Go.Proofs.Ytlbpmboknmbcgaa
