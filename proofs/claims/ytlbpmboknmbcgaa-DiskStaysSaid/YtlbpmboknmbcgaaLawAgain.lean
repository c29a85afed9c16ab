/- The walk of DiskAgain. -/
import Derived.Test.YtlbpmboknmbcgaaLawBounds
set_option linter.unusedVariables false
set_option linter.unusedSimpArgs false
namespace Go.Proofs.Ytlbpmboknmbcgaa
open Go.RowKit

theorem row_ints {w : World} {a : Option Addr} {len cap : Nat} {zs : List Int} (h : IsRow .i64 w a len cap zs) : ∃ xs : List Int, Rd w a len (iv xs) ∧ len ≤ maxLen ∧ ∀ x ∈ xs, (Lit.int .i64 x).wf = true := by
  rcases h with ⟨rfl, rfl, rfl, rfl⟩ | ⟨x, rfl, hl, hm, hz, hc, hw⟩
  · exact ⟨[], Rd.nil_ _ _, Nat.zero_le _, fun x hx => by cases hx⟩
  · refine ⟨zs.take len, ⟨by simp [iv]; omega, fun _ => ⟨x, rfl, fun j v hv => ?_⟩⟩, Nat.le_trans hl hm, fun y hy => hw y (List.mem_of_mem_take hy)⟩
    rw [iv_get, List.getElem?_take] at hv
    split at hv
    · rename_i hj
      have hj' : j < zs.length := by omega
      rw [List.getElem?_eq_getElem hj'] at hv
      cases hv
      have := hc j hj'
      rwa [List.getD_eq_getElem?_getD, List.getElem?_eq_getElem hj'] at this
    · cases hv
theorem of_wf_i64' {a : Int} (h : (Lit.int .i64 a).wf = true) : -9223372036854775808 ≤ a ∧ a ≤ 9223372036854775807 := by
  simp [Lit.wf, IntKind.min, IntKind.max, IntKind.bits, IntKind.signed] at h
  omega
theorem of_byte {i : Nat} (h : i < 256) : (UInt8.ofNat i).toNat = i := by simp; omega
set_option maxRecDepth 100000 in
theorem ag1 (W : World) (base g g6 b n : Nat) (D : Dk) (i : Nat) (hi : i < 30) (h : In W base b D n) (hn : n ≤ 900000) (hg : D.goes = false) (r3 : Row W g #[.pointer (some ⟨b, 0, none⟩)] 23) (r6 : Row W g6 #[.int .i64 (i : Int)] 3) :
    Calls Try.prog 26 #[.pointer (some ⟨g, 0, none⟩), .pointer (some ⟨g6, 0, none⟩)] W fun e w' => e = .returned (.tuple #[]) ∧ In w' base b (D.write 0 [UInt8.ofNat i]) (n + 1) ∧ DR dTy base W w' := by
  have c3 := r3.cell 0 rfl
  have c6 := r6.cell 0 rfl
  have hw : IntKind.u8.wrap (i : Int) = (i : Int) := by simp [IntKind.wrap, IntKind.bits, IntKind.signed]; omega
  go_enter Try.func26, Try.ntmps26
  go_wp2_with fail
  have hv := bytes_lit W base [UInt8.ofNat i] 1 rfl (by decide) #[.int .u8 (i : Int)] (by simp [bv]; omega)
  refine (i_write (h.alloc _) hn hg 0 _ [UInt8.ofNat i] (by decide) hv).mono ?_
  rintro e w' ⟨rfl, h1, h2⟩
  have h3 := (DR.of_below (S := dTy) (below_alloc (Below.refl W.heap.size W) (.cells #[.int .u8 (i : Int)] 5)) h.le).trans h2
  go_wp2
  exact ⟨rfl, _, by simp [results, Try.results26], rfl, h1, h3⟩
set_option maxRecDepth 100000 in
theorem ag2 (W : World) (base g b n : Nat) (D : Dk) (h : In W base b D n) (hg : D.goes = true) (r3 : Row W g #[.pointer (some ⟨b, 0, none⟩)] 23) :
    Calls Try.prog 27 #[.pointer (some ⟨g, 0, none⟩)] W fun e w' => e = gonePanic ∧ In w' base b D.dead n ∧ DR dTy base W w' := by
  have c3 := r3.cell 0 rfl
  go_enter Try.func27, Try.ntmps27
  go_wp2_with fail
  refine (i_writeNo (h.alloc _) hg 0 _).mono ?_
  rintro e w' ⟨rfl, h1, h2⟩
  exact ⟨rfl, rfl, h1, (DR.of_below (S := dTy) (below_alloc (Below.refl W.heap.size W) _) h.le).trans h2⟩
theorem ag3 (W : World) (base g b n : Nat) (D : Dk) (h : In W base b D n) (hg : D.goes = true) (r3 : Row W g #[.pointer (some ⟨b, 0, none⟩)] 23) :
    Calls Try.prog 28 #[.pointer (some ⟨g, 0, none⟩)] W fun e w' => e = gonePanic ∧ In w' base b D.dead n ∧ DR dTy base W w' := by
  have c3 := r3.cell 0 rfl
  go_enter Try.func28, Try.ntmps28
  go_wp2_with fail
  refine (i_readNo h hg 0).mono ?_
  rintro e w' ⟨rfl, h1, h2⟩
  exact ⟨rfl, rfl, h1, h2⟩
theorem ag4 (W : World) (base g b n : Nat) (D : Dk) (h : In W base b D n) (r3 : Row W g #[.pointer (some ⟨b, 0, none⟩)] 23) :
    Calls Try.prog 30 #[.pointer (some ⟨g, 0, none⟩)] W fun e w' => e = gonePanic ∧ In w' base b (D.cut 0).dead n ∧ DR dTy base W w' := by
  have c3 := r3.cell 0 rfl
  go_enter Try.func30, Try.ntmps30
  go_wp2_with fail
  refine (i_cut h 0 (by decide)).mono ?_
  rintro e w1 ⟨rfl, h1, h2⟩
  have r3' := r3.dr h2 (by decide)
  clear c3
  have c3 := r3'.cell 0 rfl
  go_wp2_with fail
  refine (i_flushNo h1 (by show (D.off || (max (0 : Int) (-1) == 0)) = true; rw [show max (0 : Int) (-1) = 0 by decide]; simp)).mono ?_
  rintro e w' ⟨rfl, h3, h4⟩
  exact ⟨rfl, rfl, h3, h2.trans h4⟩
/-- the device between two rounds -/
structure Ag (D : Dk) (i : Nat) (x : UInt8) : Prop where
  bl : D.blocks = 2
  sz : D.size = 1
  lo : D.loose = []
  fr : Free D
  tr : D.trace.length = 2 * i
  st : fitL 1 (D.stable 0) = [x]
def agX (x : UInt8) (i : Nat) (c : Int) : UInt8 := if c % 3 = 0 then UInt8.ofNat i else if c % 3 = 2 then UInt8.ofNat i ^^^ 165 else x
theorem fit_one (y : UInt8) : fitL 1 [y] = [y] := by rfl
theorem Ag.next {D : Dk} {i : Nat} {x : UInt8} (h : Ag D i x) (c : Int) : Ag ((((D.cut 1).write 0 [UInt8.ofNat i]).dead.dead.crash [c])) (i + 1) (agX x i c) ∧ (D.cut 1).goes = false ∧ ((D.cut 1).write 0 [UInt8.ofNat i]).goes = true := by
  have hh : (D.cut 1).has 0 = true := has_true (by decide) (by show (0 : Int) < D.blocks; rw [h.bl]; decide)
  have e : (D.cut 1).write 0 [UInt8.ofNat i] = { (D.cut 1).step.noted ⟨2, 0, headL (fitL D.size [UInt8.ofNat i]), fitL D.size [UInt8.ofNat i]⟩ with now := fun j => if j = 0 then fitL D.size [UInt8.ofNat i] else D.now j, cN := D.cN + 1, loose := D.loose ++ [(0, fitL D.size [UInt8.ofNat i])] } := by
    unfold Dk.write
    rw [if_pos hh]
    rfl
  rw [e, h.sz, h.lo, fit_one]
  refine ⟨⟨h.bl, h.sz, rfl, ⟨rfl, rfl⟩, ?_, ?_⟩, ?_, ?_⟩
  · show ((D.trace ++ [_]) ++ [_]).length = _
    rw [List.length_append, List.length_append, h.tr]
    simp
    omega
  · show fitL 1 (crash1 D.stable (0, [UInt8.ofNat i]) (c % 3) 0) = _
    unfold crash1 agX
    have : c % 3 = 0 ∨ c % 3 = 1 ∨ c % 3 = 2 := by omega
    rcases this with q | q | q
    · rw [q]; simp [fit_one]
    · rw [q]; simp [h.st]
    · rw [q]; simp [garL, fit_one]
  · show (D.off || (max (1 : Int) (-1) == 0)) = false
    rw [h.fr.off]
    rfl
  · rfl
set_option maxHeartbeats 4000000 in
set_option maxRecDepth 100000 in
theorem w_again0 (A : Option Addr) (l cap : Nat) (ts : List Int) (w : World) (hR : Rd w A l (iv ts)) (hm : l ≤ maxLen) (hw : ∀ x ∈ ts, (Lit.int .i64 x).wf = true) :
    Calls Try.prog 4 #[.slice A l cap] w fun e w' => e = .returned (.bool true) ∧ Below w.heap.size w w' := by
  have hmf : ∀ (fn : Fn) (first cap : Array Value) (w : World), (Instr.makeFunc fn first cap).run Try.prog w = .ok (.func fn first cap) w := fun _ _ _ _ => rfl
  have HW := Lib.hid hw
  have HM := Lib.hid hm
  clear hw hm
  go_enter Try.func4, Try.ntmps4
  go_wp2_with fail
  refine (i_new 2 1 w (by decide) (by decide)).mono ?_
  rintro e w1 ⟨b, rfl, hI, hB⟩
  have hag : Ag (dkNew 2 1) 0 0 := ⟨by decide, by decide, rfl, ⟨rfl, rfl⟩, rfl, by decide⟩
  generalize dkNew 2 1 = D0 at *
  go_upto_region 5 with fail
  replace hI := hI.alloc (.cells #[.pointer (some ⟨b, 0, none⟩)] 23)
  replace hB := below_alloc hB (.cells #[.pointer (some ⟨b, 0, none⟩)] 23)
  have hr3 := Row.new w1 #[.pointer (some ⟨b, 0, none⟩)] 23
  have hs2 : (w1.alloc (.cells #[.pointer (some ⟨b, 0, none⟩)] 23)).heap.size = w1.heap.size + 1 := by simp
  have hgb := hI.le
  generalize hgv : w1.heap.size = g at *
  generalize (w1.alloc (.cells #[.pointer (some ⟨b, 0, none⟩)] 23)) = w2 at *
  go_wp2
  go_loopw [4, 5, 6] (fun s4 s5 s6 wr => ∃ (i : Nat) (x : UInt8) (D : Dk) (g6 : Nat), i ≤ 30 ∧ s4 = .int .u8 (x.toNat : Int) ∧ s5 = .int .i64 ((2 * i : Nat) : Int) ∧ s6 = .pointer (some ⟨g6, 0, none⟩) ∧ Ag D i x ∧ In wr w.heap.size b D (2 * i) ∧ Row wr g #[.pointer (some ⟨b, 0, none⟩)] 23 ∧ Row wr g6 #[.int .i64 (i : Int)] 3 ∧ w.heap.size ≤ g6 ∧ Below w.heap.size w wr) (fun _ s5 _ _ => 60 - (intOf s5).toNat)
  case atStart =>
    have hr6 := Row.new w2 #[.int .i64 0] 3
    rw [hs2] at hr6
    exact ⟨0, 0, D0, g + 1, by omega, rfl, rfl, rfl, hag, hI.alloc _, hr3.alloc _, hr6, by omega, below_alloc hB _⟩
  case round =>
    obtain ⟨i, x, D, g6, hi, rfl, rfl, rfl, hA, hIr, hr3r, hr6r, hg6, hBr⟩ := hrel
    have c3 := hr3r.cell 0 rfl
    have c6 := hr6r.cell 0 rfl
    clear hag hI hr3 hB hs2 hgb hgv
    by_cases hend : (i : Int) < (l : Int) ∧ (i : Int) < 30
    · obtain ⟨hl1, hl2⟩ := hend
      go_wp2_with fail
      have hil : i < l := by omega
      have hlen : ts.length = l := by have := hR.1; rwa [iv_length] at this
      obtain ⟨hA', hgo, hgo2⟩ := hA.next (ts[i]?.getD 0)
      refine (i_cut hIr 1 (by decide)).mono ?_
      rintro e w3 ⟨rfl, hI3, hd3⟩
      have hr33 := hr3r.dr hd3 (by decide)
      have hr63 := hr6r.dr hd3 (by decide)
      have hB3 := hBr.trans hd3.below
      clear c3 c6
      have c3 := hr33.cell 0 rfl
      have c6 := hr63.cell 0 rfl
      go_wp2_with fail
      refine (i_tryOk (fun _ => by kernel_rfl) hI3 fun W0 hb0 hi0 => ag1 W0 w.heap.size g g6 b _ _ i (by omega) hi0 (by omega) hgo (hr33.below hb0 hr33.lt) (hr63.below hb0 hr63.lt)).mono ?_
      rintro e w4 ⟨rfl, hI4, hd4⟩
      have hr34 := hr33.dr hd4 (by decide)
      have hr64 := hr63.dr hd4 (by decide)
      have hB4 := hB3.trans hd4.below
      clear c3 c6 hI3 hd3 hd4 hr33 hr63 hB3 hr3r hr6r hIr hBr
      have c3 := hr34.cell 0 rfl
      have c6 := hr64.cell 0 rfl
      go_wp2_with fail
      refine (i_tryGone (fun _ => by kernel_rfl) hI4 fun W0 hb0 hi0 => ag2 W0 w.heap.size g b _ _ hi0 hgo2 (hr34.below hb0 hr34.lt)).mono ?_
      rintro e w5 ⟨rfl, hI5, hd5⟩
      have hr35 := hr34.dr hd5 (by decide)
      have hr65 := hr64.dr hd5 (by decide)
      have hB5 := hB4.trans hd5.below
      clear c3 c6 hI4 hd5 hr34 hr64 hB4
      have c3 := hr35.cell 0 rfl
      have c6 := hr65.cell 0 rfl
      go_wp2_with fail
      refine (i_tryGone (fun _ => by kernel_rfl) hI5 fun W0 hb0 hi0 => ag3 W0 w.heap.size g b _ _ hi0 rfl (hr35.below hb0 hr35.lt)).mono ?_
      rintro e w6 ⟨rfl, hI6, hd6⟩
      have hr36 := hr35.dr hd6 (by decide)
      have hr66 := hr65.dr hd6 (by decide)
      have hB6 := hB5.trans hd6.below
      clear c3 c6 hI5 hd6 hr35 hr65 hB5
      have c3 := hr36.cell 0 rfl
      have c6 := hr66.cell 0 rfl
      have hR6 : Rd w6 A l (iv ts) := hR.below hB6 (Nat.le_refl _)
      obtain ⟨ad, v, rfl, hv, hcv⟩ := hR6.at_ hil
      have hti : ts[i]? = some (ts[i]?.getD 0) := by rw [List.getElem?_eq_getElem (by omega)]; rfl
      rw [iv_get, hti] at hv
      cases hv
      generalize htv : ts[i]?.getD 0 = tv at *
      have htw : (Lit.int .i64 tv).wf = true := HW.out tv (by rw [← htv]; rw [List.getElem?_eq_getElem (by omega)]; exact List.getElem_mem _)
      clear hti
      have CR : ∀ W0, DR dTy w.heap.size w6 W0 → In W0 w.heap.size b (((D.cut 1).write 0 [UInt8.ofNat i]).dead.dead) (2 * i + 1) → Calls Try.prog 29 #[.pointer (some ⟨b, 0, none⟩), .slice (some ⟨W0.heap.size, 0, none⟩) 1 1] (W0.alloc (.cells #[.int .i64 tv] 3)) fun e w' =>
          e = .returned (.tuple #[]) ∧ In w' w.heap.size b (((D.cut 1).write 0 [UInt8.ofNat i]).dead.dead.crash [tv]) (2 * i + 1 + 1) ∧ DR dTy w.heap.size (W0.alloc (.cells #[.int .i64 tv] 3)) w' ∧ DR dTy w.heap.size w6 w' := by
        intro W0 hf hin
        refine (i_crash (hin.alloc _) (by omega) _ _ _ [tv] (rd_lit W0 (iv [tv]) 3 (0, 0) 1 rfl) (by intro c hc; rw [List.mem_singleton.1 hc]; exact of_wf_i64' htw) (by decide) ?_).mono ?_
        · rintro ad e -
          cases e
          exact .inr ⟨_, _, Row.new _ _ _⟩
        · rintro e w' ⟨rfl, h1, h2⟩
          exact ⟨rfl, h1, h2, (hf.trans (DR.of_below (below_alloc (Below.refl _ _) _) (Nat.le_trans hI6.le hf.below.size))).trans h2⟩
      have hcell : ∀ w', DR dTy w.heap.size w6 w' → w'.cell? (ad.add i) = some (.int .i64 tv) := fun w' hf => (hf.below.cell (p := ad.add i) (by rw [ad_block]; exact Rd.block_lt hR (by omega))).trans hcv
      have hle6 := hI6.le
      have hI6' := hI6.fr (FR.refl [] [] w.heap.size w6).drew
      go_upto_region 14 with fail
      (refine wp_region_linG (DR dTy w.heap.size) (wayD dTy w.heap.size) [(0, true), (1, true), (2, true), (3, true), (4, true), (5, false), (6, false)] rfl rfl (by kernel_rfl) (by kernel_rfl) (fun _ _ _ _ _ h => h) ?_; (iterate 7 (first | (apply linG_take; (simp only [List.getElem?_toArray, List.getElem?_cons_succ, List.getElem?_cons_zero]; rfl); (rfl); (intro w' hb'; (try have k1 := (Row.dr hr36 ((DR.refl dTy w.heap.size w6).drew.trans hb') (by decide)).cell 0 rfl); (try have k2 := (Row.dr hr66 ((DR.refl dTy w.heap.size w6).drew.trans hb') (by decide)).cell 0 rfl); (try have k3 := hcell _ ((DR.refl dTy w.heap.size w6).drew.trans hb')); (first | (go_simp; done) | (go_simp; with_reducible rfl) | (go_simp; go_bits; with_reducible rfl) | (go_simp; go_bits; done))); try simp only [Act.put, List.setIfInBounds_toArray, List.set_cons_zero, List.set_cons_succ]) | (apply linG_skip; (simp only [List.getElem?_toArray, List.getElem?_cons_succ, List.getElem?_cons_zero]; rfl); (rfl); try simp only [Act.put, List.setIfInBounds_toArray, List.set_cons_zero, List.set_cons_succ]) | (apply linG_pass (wayD dTy w.heap.size); (simp only [List.getElem?_toArray, List.getElem?_cons_succ, List.getElem?_cons_zero]; rfl); (rfl); try simp only [Act.put, List.setIfInBounds_toArray, List.set_cons_zero, List.set_cons_succ]) | (apply linG_op; (simp only [List.getElem?_toArray, List.getElem?_cons_succ, List.getElem?_cons_zero]; rfl); (rfl); intro K hK; (first | (go_simp; (first | (go_at_call 29; refine (CR _ (DR.refl dTy w.heap.size w6).drew hI6').mono ?_; rintro e w7 ⟨rfl, hI7, hdr2, hd7⟩) | skip))); refine hK _ _ ?_ ?_; (first | exact hdr2 | assumption | (first | exact rg_alloc (by simp; omega) (by simp; omega) _ | exact FR.of_below (below_alloc (Below.refl _ _) _) (by first | assumption | (simp; omega)) | exact DR.of_below (below_alloc (Below.refl _ _) _) (by first | assumption | (simp; omega)))); clear hK; try simp only [Act.put, List.setIfInBounds_toArray, List.set_cons_zero, List.set_cons_succ]))); (try refine linG_end ?_))
      have hr37 := hr36.dr hd7 (by decide)
      have hr67 := hr66.dr hd7 (by decide)
      have hB7 := hB6.trans hd7.below
      have hR7 : Rd w7 (some ad) l (iv ts) := hR.below hB7 (Nat.le_refl _)
      have hc7 : w7.cell? (ad.add i) = some (.int .i64 tv) := ((hB7.cell (p := ad.add i) (by rw [ad_block]; exact Rd.block_lt hR (by omega))).trans (hB6.cell (p := ad.add i) (by rw [ad_block]; exact Rd.block_lt hR (by omega))).symm).trans hcv
      generalize hD5 : (((D.cut 1).write 0 [UInt8.ofNat i]).dead.dead.crash [tv]) = D5 at *
      clear c3 c6 CR hcell hle6 hI6' hI6 hdr2 hd7 hr36 hr66 hB6 hcv hR6 hA hgo hgo2
      have c3 := hr37.cell 0 rfl
      have c6 := hr67.cell 0 rfl
      have hcm := chs_mod tv (of_wf_i64' htw)
      have ht1 : -2 ≤ tv.tmod 3 ∧ tv.tmod 3 ≤ 2 := by
        have a1 := Int.tmod_lt_of_pos tv (show (0 : Int) < 3 by decide)
        have a2 := Int.lt_tmod_of_pos tv (show (0 : Int) < 3 by decide)
        omega
      obtain ⟨ht1, ht2⟩ := ht1
      have hw2 : IntKind.u8.wrap (i : Int) = (i : Int) := by simp [IntKind.wrap, IntKind.bits, IntKind.signed]; omega
      have h3 : tv % 3 = 0 ∨ tv % 3 = 1 ∨ tv % 3 = 2 := by omega
      rcases h3 with q | q | q
      all_goals rw [q] at hcm
      all_goals
        go_wp2_with fail
        first
          | have hV : ((agX x i tv).toNat : Int) = (i : Int) := by unfold agX; rw [if_pos q, of_byte (by omega)]
          | have hV : ((agX x i tv).toNat : Int) = (x.toNat : Int) := by unfold agX; rw [if_neg (by omega), if_neg (by omega)]
          | have hV : ((agX x i tv).toNat : Int) = bits BinOp.xor IntKind.u8 (i : Int) 165 := by unfold agX; rw [if_neg (by omega), if_pos q, ← xor165, of_byte (by omega)]
        generalize hy : agX x i tv = y at *
        refine (i_stable hI7 (by omega) 0 (by decide)).mono ?_
        rintro e w8 ⟨vs, rfl, ho8, hI8, hb8⟩
        rw [at_yes (has_true (by decide) (by rw [hA'.bl]; decide)), hA'.sz, hA'.st] at ho8
        have hr38 := hr37.below hb8 hr37.lt
        have hr68 := hr67.below hb8 hr67.lt
        have hB8 := below_two hB7 hb8
        obtain ⟨A8, c8, rfl, -, -, hrd8⟩ := ho8.form
        obtain ⟨ad8, rfl, hc8⟩ := hrd8.at_ (j := 0) (Nat.zero_lt_one)
        replace hc8 : w8.cell? ad8 = some (.int .u8 (y.toNat : Int)) := hc8
        rw [hV] at hc8
        clear c3 c6
        have c3 := hr38.cell 0 rfl
        have c6 := hr68.cell 0 rfl
        clear hI7 hr37 hr67 hB7 hR7 hc7 hrd8 ho8 hcm
        go_wp2_with fail
        refine (i_trace hI8 (by omega)).mono ?_
        rintro e w9 ⟨vt, rfl, ht9, hI9, hb9⟩
        obtain ⟨ts9, -, -, ht10⟩ := ht9
        obtain ⟨A9, c9, rfl, -, -⟩ := own_form ht10
        rw [hA'.tr] at ht10 ⊢
        have hr39 := hr38.below hb9 hr38.lt
        have hr69 := hr68.below hb9 hr68.lt
        have hB9 := below_two hB8 hb9
        clear c3 c6 ht10 hI8 hr38 hr68 hB8 hc8
        have c3 := hr39.cell 0 rfl
        have c6 := hr69.cell 0 rfl
        go_wp2
        have hrn : Row (w9.alloc (.cells #[.int .i64 ((i : Int) + 1)] 3)) w9.heap.size #[.int .i64 (((i + 1 : Nat)) : Int)] 3 := Row.new w9 #[.int .i64 ((i : Int) + 1)] 3
        exact ⟨⟨i + 1, y, D5, w9.heap.size, by omega, by rw [hV], by congr 1, rfl, hA', hI9.alloc _, hr39.alloc _, hrn, hI9.le, below_alloc hB9 _⟩, by simp [intOf]; omega⟩
    · have hor : ¬ (i : Int) < (l : Int) ∨ ((i : Int) < (l : Int) ∧ ¬ (i : Int) < 30) := by omega
      rcases hor with q | ⟨q1, q2⟩
      all_goals
        go_wp2_with fail
        refine (i_tryGone (fun _ => by kernel_rfl) hIr fun W0 hb0 hi0 => ag4 W0 w.heap.size g b _ _ hi0 (hr3r.below hb0 hr3r.lt)).mono ?_
        rintro e w4 ⟨rfl, hI4, hd4⟩
        have hB4 := hBr.trans hd4.below
        go_wp2_with fail
        refine (c_awake6 _).mono ?_
        rintro e w5 ⟨rfl, hb5⟩
        have hB5 := below_two hB4 hb5
        go_wp2
        exact ⟨rfl, .bool true, by simp [results, Try.results4], rfl, hB5⟩
theorem w_DiskAgain (a0 : Option Addr) (len0 cap0 : Nat) (z0 : List Int) (w : World) (w0 : IsRow .i64 w a0 len0 cap0 z0) :
    Calls Try.prog 4 #[.slice a0 len0 cap0] w fun e w' => e = .returned (.bool true) ∧ Below w.heap.size w w' := by
  obtain ⟨xs, hR, hm, hw⟩ := row_ints w0
  exact w_again0 a0 len0 cap0 xs w hR hm hw
end Go.Proofs.Ytlbpmboknmbcgaa
