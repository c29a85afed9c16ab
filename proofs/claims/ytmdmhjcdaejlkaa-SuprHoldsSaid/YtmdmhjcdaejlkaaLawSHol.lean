/- The walk of SuprHolds. -/
import Derived.Test.YtmdmhjcdaejlkaaSuprT
import Derived.Test.YtmdmhjcdaejlkaaLawSRis
set_option linter.unusedVariables false
set_option linter.unusedSimpArgs false
namespace Go.Proofs.Ytmdmhjcdaejlkaa
open Go.RowKit

theorem row_intsS {w : World} {a : Option Addr} {len cap : Nat} {zs : List Int} (h : IsRow .i64 w a len cap zs) : ∃ xs : List Int, Rd w a len (iv xs) ∧ len ≤ maxLen ∧ len ≤ cap ∧ ∀ x ∈ xs, -9223372036854775808 ≤ x ∧ x ≤ 9223372036854775807 := by
  rcases h with ⟨rfl, rfl, rfl, rfl⟩ | ⟨x, rfl, hl, hm, hz, hc, hw⟩
  · exact ⟨[], Rd.nil_ _ _, Nat.zero_le _, Nat.le_refl _, fun x hx => by cases hx⟩
  · refine ⟨zs.take len, ⟨by simp [iv]; omega, fun _ => ⟨x, rfl, fun j v hv => ?_⟩⟩, Nat.le_trans hl hm, hl, fun y hy => ?_⟩
    · rw [iv_get, List.getElem?_take] at hv
      split at hv
      · rename_i hj
        have hj' : j < zs.length := by omega
        rw [List.getElem?_eq_getElem hj'] at hv
        cases hv
        have := hc j hj'
        rwa [List.getD_eq_getElem?_getD, List.getElem?_eq_getElem hj'] at this
      · cases hv
    · have h := hw y (List.mem_of_mem_take hy)
      simp [Lit.wf, IntKind.min, IntKind.max, IntKind.bits, IntKind.signed] at h
      omega
theorem undIS : Try.prog.underlying 71 = some (.slice (Try.prog.elem 71)) := by
  rw [show Try.prog.elem 71 = 3 by unfold Program.elem; rw [Try.underlying71]]; exact Try.underlying71
theorem sizeIS (W : World) : (sizeOf (Try.prog.elem 71)).run Try.prog W = .ok 1 W := by
  rw [show Try.prog.elem 71 = 3 by unfold Program.elem; rw [Try.underlying71]]
  exact Try.sizeOf3 W
/-- xs[l:] of ints -/
theorem cut_intsS {W0 : World} {A : Option Addr} {n c : Nat} {xs : List Int} (hR : Rd W0 A n (iv xs)) (hc : n ≤ c) (x : Int) (l : Nat) (hx : x = (l : Int)) (hl : l ≤ n) :
    ∃ A', (∀ W, (Instr.slice 71 (.slice A n c) (some (.int .i64 x)) none none).run Try.prog W = .ok (.slice A' (n - l) (c - l)) W) ∧ Rd W0 A' (n - l) (iv (xs.drop l)) := by
  subst hx
  have hlen : xs.length = n := by have := hR.1; rwa [iv_length] at this
  refine ⟨if c = l then A else A.map (·.add l), fun W => ?_, ⟨by rw [iv_length, List.length_drop]; omega, fun h0 => ?_⟩⟩
  · have := run_slice_l (P := Try.prog) W 71 A n c undIS .i64 (l : Int) (by omega) (by omega)
    rw [this, sizeIS]
    simp [sliced]
  · obtain ⟨ad, rfl, hcc⟩ := hR.2 (by omega)
    rw [if_neg (by omega)]
    refine ⟨_, rfl, fun j v hv => ?_⟩
    rw [ad_add]
    apply hcc
    rw [iv_get] at hv ⊢
    rwa [List.getElem?_drop] at hv
theorem own_int {W : World} {B : Nat} {A : Option Addr} {n c : Nat} {xs : List Int} (h : OwnI W B (.slice A n c) xs) (base : Nat) : ∀ ad, A = some ad → 0 < n → ad.block < base ∨ ∃ cs fr, W.heap[ad.block]? = some (.cells cs 3 fr) := by
  intro ad e hn
  rcases h.2 with ⟨h0, h1⟩ | ⟨g, cap, cur, hv, hB, hrow, h5, h6, h7, h8⟩
  · simp only [Value.slice.injEq] at h0
    omega
  · simp only [Value.slice.injEq] at hv
    obtain ⟨rfl, -, -⟩ := hv
    cases e
    exact .inr ⟨_, _, hrow⟩
theorem u64_mask32 (e : Nat) (he : e < 18446744073709551616) : ∃ f : Nat, bits .and .u64 (e : Int) 4294967295 = (f : Int) ∧ f ≤ 4294967295 := by
  have h := u64_and_nat e 4294967295 he (by decide)
  exact ⟨e &&& 4294967295, h, Nat.and_le_right⟩
set_option maxHeartbeats 8000000 in
set_option maxRecDepth 100000 in
theorem w_shol0 (key : List UInt8) (hk : key.length = 32) (e : Nat) (he : e < 18446744073709551616) (A0 A1 : Option Addr) (l0 c0 l1 c1 : Nat) (ts us : List Int) (w : World) (hR0 : Rd w A0 l0 (iv ts)) (hR1 : Rd w A1 l1 (iv us)) (hc1 : l1 ≤ c1) (hu : ∀ x ∈ us, -9223372036854775808 ≤ x ∧ x ≤ 9223372036854775807) :
    Calls Try.prog 10 #[.agg (bv key).toArray, .int .u64 (e : Int), .slice A0 l0 c0, .slice A1 l1 c1] w fun e w' => e = .returned (.bool true) ∧ Below w.heap.size w w' := by
  have hmf : ∀ (fn : Fn) (first cap : Array Value) (w : World), (Instr.makeFunc fn first cap).run Try.prog w = .ok (.func fn first cap) w := fun _ _ _ _ => rfl
  have HU := Lib.hid hu
  have HK := Lib.hid hk
  obtain ⟨f, hfe, hfl⟩ := u64_mask32 e he
  have HFL := Lib.hid hfl
  have r0 := Row.new w (bv key).toArray 22
  have hB0 := below_alloc (Below.refl w.heap.size w) (.cells (bv key).toArray 22)
  have hlB : w.heap.size < (w.alloc (.cells (bv key).toArray 22)).heap.size := by simp
  clear hu hk he hfl
  go_enter Try.func10, Try.ntmps10
  go_upto_region 1 with fail
  generalize w.alloc (.cells (bv key).toArray 22) = w0 at *
  generalize hBs : w0.heap.size = bs at *
  have HNW := Lib.hid (i_new 4 40 w0 (by decide) (by decide))
  rw [hBs] at HNW
  clear hBs
  go_upto_region 4 with (go_at_call 17; (with_reducible refine HNW.out.mono ?_); rintro e w1 ⟨b, rfl, hI, hb1⟩)
  have r1 := r0.below hb1 (by omega)
  have hB1 := hB0.trans (hb1.mono (Nat.le_of_lt hlB))
  clear HNW hb1 r0 hB0
  obtain ⟨bo, hbo⟩ : ∃ bo, (openL key (List.replicate 40 0)).isSome = bo := ⟨_, rfl⟩
  have HBK := Lib.hid (c_blank10 key HK.out 40 (by decide) 40 rfl bo hbo w1)
  have HBO := Lib.hid hbo
  clear hbo
  cases bo with
  | true =>
    go_upto_region 5 with (first | (first | (apply wpl_loadS (ty := 22); rfl; rfl; rfl; kernel_rfl; exact r1; (simp only [List.size_toArray, bv_length, HK.out]; kernel_rfl); simp only [Act.put, List.setIfInBounds_toArray, List.set_cons_zero, List.set_cons_succ])) | (go_at_call 30; (with_reducible refine HBK.out.mono ?_); rintro e w3 ⟨rfl, hb3⟩))
    have hB3 := below_two hB1 hb3
    clear HBK r1 hI hB1 hb3 HBO
    go_wp2_with (go_at_call 31; (with_reducible refine (c_awake10 _).mono ?_); rintro e w4 ⟨rfl, hb4⟩)
    go_ret
    exact ⟨rfl, below_two hB3 hb4⟩
  | false =>
    have hbn : openL key (List.replicate 40 0) = none := by
      have hbo := HBO.out
      cases h : openL key (List.replicate 40 0) with
      | none => rfl
      | some x => rw [h] at hbo; cases hbo
    have hH := hd_first hbn (boot := 1) (e := f) (by have := HFL.out; omega)
    have HH := Lib.hid hH
    clear HBO hbn hH
    go_upto_region 6 with (first | (first | (apply wpl_loadS (ty := 22); rfl; rfl; rfl; kernel_rfl; exact r1; (simp only [List.size_toArray, bv_length, HK.out]; kernel_rfl); simp only [Act.put, List.setIfInBounds_toArray, List.set_cons_zero, List.set_cons_succ])) | (go_at_call 30; (with_reducible refine HBK.out.mono ?_); rintro e w2 ⟨rfl, hb2⟩))
    have r2 := r1.below hb2 r1.lt
    have hI2 := hI.below hb2
    have hB2 := below_two hB1 hb2
    clear HBK r1 hI hB1 hb2
    have hn1 := p_new b key HK.out 1 (by decide) w2
    simp only [show ((1 : Nat) : Int) = 1 from rfl] at hn1
    have HN1 := Lib.hid hn1
    clear hn1
    go_upto_region 7 with (first | (first | (apply wpl_loadS (ty := 22); rfl; rfl; rfl; kernel_rfl; exact r2; (simp only [List.size_toArray, bv_length, HK.out]; kernel_rfl); simp only [Act.put, List.setIfInBounds_toArray, List.set_cons_zero, List.set_cons_succ])) | (go_at_call 18; (with_reducible refine HN1.out.mono ?_); rintro e w3 ⟨g, rfl, hP, hg, hb3⟩))
    have hgb : bs ≤ g := Nat.le_trans hI2.le hg
    have hI3 := (hI2.below hb3).alloc (.cells #[.pointer (some ⟨g, 0, none⟩)] 28)
    have r3 := (r2.below hb3 r2.lt).alloc (.cells #[.pointer (some ⟨g, 0, none⟩)] 28)
    have hP3 : PenAt (w3.alloc (.cells #[.pointer (some ⟨g, 0, none⟩)] 28)) g b key 1 0 := ⟨hP.row.alloc _, hP.kl, hP.bl⟩
    have r10 := Row.new w3 #[.pointer (some ⟨g, 0, none⟩)] 28
    have hB3 := below_alloc (below_two hB2 hb3) (.cells #[.pointer (some ⟨g, 0, none⟩)] 28)
    have hg10 : g < w3.heap.size := hP.lt
    have h10b : bs ≤ w3.heap.size := (hI2.below hb3).le
    clear HN1 hI2 r2 hB2 hb3 hP hg
    generalize w3.alloc (.cells #[.pointer (some ⟨g, 0, none⟩)] 28) = w4 at *
    generalize w3.heap.size = g10 at *
    have c10 := r10.cell 0 rfl
    go_upto_region 10 with fail
    have hco := c_commit hP3 hI3 (by decide) hgb ⟨rfl, rfl⟩ 1 f (by decide) (by have := HFL.out; omega) (by decide) (by decide)
    simp only [show ((1 : Nat) : Int) = 1 from rfl] at hco
    have HCO := Lib.hid hco
    clear hco hP3 hI3
    generalize comD (dkNew 4 40) key 1 0 1 f = D0 at *
    go_upto_region 12 with (go_at_call 32; (with_reducible refine HCO.out.mono ?_); rintro e w5 ⟨rfl, hI5, hP5, hp5⟩)
    have r5 := hp5.2 _ _ _ r3 (by decide) (by omega)
    have q10 := hp5.2 _ _ _ r10 (by decide) (by omega)
    have hB5 := hB3.trans (hp5.1.mono (Nat.le_of_lt hlB))
    clear HCO hp5 hP5 r3 r10 hB3 c10
    go_upto_region 13 with fail
    have hI6 := hI5.alloc (.cells #[.int .u64 (f : Int)] 34)
    have r6 := r5.alloc (.cells #[.int .u64 (f : Int)] 34)
    have s10 := q10.alloc (.cells #[.int .u64 (f : Int)] 34)
    have s11 := Row.new w5 #[.int .u64 (f : Int)] 34
    have hB6 := below_alloc hB5 (.cells #[.int .u64 (f : Int)] 34)
    have h1011 : g10 ≠ w5.heap.size := by have := q10.lt; omega
    have h11b : bs ≤ w5.heap.size := hI5.le
    clear hI5 r5 q10 hB5
    generalize w5.alloc (.cells #[.int .u64 (f : Int)] 34) = w6 at *
    generalize w5.heap.size = g11 at *
    go_wp2_with fail
    go_loopw [12] (fun s12 wr => ∃ (i h gp : Nat) (D : Dk), i ≤ 30 ∧ s12 = .int .i64 (i : Int) ∧ Hd key D h ∧ h ≤ f + i ∧ In wr bs b D (5 * i + 2) ∧ Row wr w.heap.size (bv key).toArray 22 ∧ Row wr g10 #[.pointer (some ⟨gp, 0, none⟩)] 28 ∧ Row wr g11 #[.int .u64 (h : Int)] 34 ∧ Below w.heap.size w wr) (fun s12 _ => (30 - intOf s12).toNat)
    case atStart => exact ⟨0, f, g, D0, by omega, rfl, HH.out, by omega, hI6, r6, s10, s11, hB6⟩
    case round =>
      obtain ⟨i, h, gp, D, hi, rfl, hH, hhf, hIr, rr, r10, r11, hBr⟩ := hrel
      clear HH hI6 r6 s10 s11 hB6
      by_cases hend : (i : Int) < (l0 : Int) ∧ (i : Int) < 30
      · obtain ⟨q0, q1⟩ := hend
        have hil : i < l0 := by omega
        have hRr : Rd wr A0 l0 (iv ts) := hR0.below hBr (Nat.le_refl _)
        obtain ⟨ad, rfl, hcv⟩ := hRr.int_at hil
        generalize ts[i]?.getD 0 = tv at *
        have hadl : (ad.add i).block < wr.heap.size := World.block_lt_of_cell? wr _ hcv
        have hm := m7 tv
        obtain ⟨c, hcc⟩ : ∃ c : Int, tv % 8 - 1 = c := ⟨_, rfl⟩
        have hc0 : -1 ≤ c := by omega
        have hc6 : c ≤ 6 := by omega
        have hcw : IntKind.i64.wrap (tv % 8 - 1) = c := by rw [hcc]; exact IntWalk.i64_in _ (by omega)
        have hwi : IntKind.u32.wrap (i : Int) = (i : Int) := IntWalk.u32_in _ ⟨by omega, by omega⟩
        obtain ⟨bt, hbt⟩ : ∃ bt : Nat, i + 2 = bt := ⟨_, rfl⟩
        have hbi : (i : Int) + 2 = (bt : Int) := by omega
        have hwb : IntKind.u32.wrap (bt : Int) = (bt : Int) := IntWalk.u32_in _ ⟨by omega, by omega⟩
        have HN1 := Lib.hid (p_new b key HK.out bt (by omega) wr)
        have hil0 : (0 : Int) ≤ (i : Int) := by omega
        clear hcc hbt
        go_upto_region 17 with (first | (first | (apply wpl_loadS (ty := 22); rfl; rfl; rfl; kernel_rfl; exact rr; (simp only [List.size_toArray, bv_length, HK.out]; kernel_rfl); simp only [Act.put, List.setIfInBounds_toArray, List.set_cons_zero, List.set_cons_succ])) | (go_at_call 18; (with_reducible refine HN1.out.mono ?_); rintro e w3 ⟨g, rfl, hP, hg, hb3⟩; have q10 := r10.below hb3 r10.lt; have c10 := q10.cell 0 rfl; have z10 := q10.free 0))
        have hgb : bs ≤ g := Nat.le_trans hIr.le hg
        have hgg10 : g ≠ g10 := by have := r10.lt; omega
        have hgg11 : g ≠ g11 := by have := r11.lt; omega
        have hI3 := (hIr.below hb3).set (j := 0) q10 (.pointer (some ⟨g, 0, none⟩)) (by decide) h10b
        have hP3 := hP.set (j := 0) (.pointer (some ⟨g, 0, none⟩)) hgg10
        have s10 := q10.set 0 (.pointer (some ⟨g, 0, none⟩))
        have s11 := (r11.below hb3 r11.lt).set_other 0 (.pointer (some ⟨g, 0, none⟩)) (Ne.symm h1011)
        have s0 := (rr.below hb3 rr.lt).set_other 0 (.pointer (some ⟨g, 0, none⟩)) (show w.heap.size ≠ g10 by omega)
        have hB3 : Below w.heap.size w (w3.setCell ⟨g10, 0, none⟩ (.pointer (some ⟨g, 0, none⟩))) := (below_two hBr hb3).setCell (p := ⟨g10, 0, none⟩) (show w.heap.size ≤ g10 by omega) _
        have hcv3 : (w3.setCell ⟨g10, 0, none⟩ (.pointer (some ⟨g, 0, none⟩))).cell? (ad.add i) = some (.int .i64 tv) := by
          have := (hR0.below hB3 (Nat.le_refl _)).int_cell hil
          have h2 := hRr.int_cell hil
          rw [hcv] at h2
          rw [this, ← Option.some.inj h2]
        clear c10 z10 q10 hP hb3 HN1 hIr rr r10 r11 hBr hg hcv hRr hadl
        generalize w3.setCell ⟨g10, 0, none⟩ (.pointer (some ⟨g, 0, none⟩)) = w4 at *
        simp only [List.setIfInBounds_toArray, List.set_cons_zero] at s10
        have c10 := s10.cell 0 rfl
        have HCUT := Lib.hid (i_cut hI3 c (by omega))
        go_upto_region 20 with (go_at_call 43; (with_reducible refine HCUT.out.mono ?_); rintro e w5 ⟨rfl, hI5, hd5⟩)
        have hP5 := hP3.dr hd5
        have q10 := s10.dr hd5 (by decide)
        have q11 := s11.dr hd5 (by decide)
        have q0r := s0.dr hd5 (by decide)
        have hB5 := hB3.trans (hd5.below.mono (Nat.le_of_lt hlB))
        clear HCUT c10 hcv3 hm hcw hwi hbi hwb hd5 hI3 hP3 s10 s11 s0 hB3
        go_upto_region 21 with fail
        have hI6 := hI5.alloc (.cells #[.bool false] 4)
        have hP6 : PenAt (w5.alloc (.cells #[.bool false] 4)) g b key bt 0 := ⟨hP5.row.alloc _, hP5.kl, hP5.bl⟩
        have r10 := q10.alloc (.cells #[.bool false] 4)
        have r11 := q11.alloc (.cells #[.bool false] 4)
        have rr := q0r.alloc (.cells #[.bool false] 4)
        have r13 := Row.new w5 #[.bool false] 4
        have hB6 := below_alloc hB5 (.cells #[.bool false] 4)
        have h13b : bs ≤ w5.heap.size := hI5.le
        have hg13 : w5.heap.size ≠ g := by have := hP5.lt; omega
        have h1310 : g10 ≠ w5.heap.size := by have := q10.lt; omega
        have h1311 : g11 ≠ w5.heap.size := by have := q11.lt; omega
        clear hI5 hP5 q10 q11 q0r hB5
        generalize w5.alloc (.cells #[.bool false] 4) = w6 at *
        generalize w5.heap.size = g13 at *
        have HTRY := Lib.hid (hold_try c hc0 h hH (by have := HFL.out; omega) hI6 (by omega) hP6 r10 r11 r13 hgb h13b hg13)
        clear hH
        go_upto_region 22 with (go_at_call 44; (with_reducible refine HTRY.out.mono ?_); rintro e w7 ⟨r, dn, D', rfl, hI7, hpx, hP7, q13, hdn, hlt7, hch⟩)
        have q10 := hpx.2 _ _ _ r10 (by decide) (by simp; exact ⟨Ne.symm hgg10, h1310⟩)
        have q11 := hpx.2 _ _ _ r11 (by decide) (by simp; exact ⟨Ne.symm hgg11, h1311⟩)
        have q0r := hpx.2 _ _ _ rr (by decide) (by simp; omega)
        have hB7 := hB6.trans (hpx.1.mono (Nat.le_of_lt hlB))
        have HCH := Lib.hid hch
        clear hch hpx HTRY r10 r11 rr r13 hI6 hP6 hB6
        obtain ⟨lm, hlm⟩ : ∃ lm, min i l1 = lm := ⟨_, rfl⟩
        have hlmi : (if (l1 : Int) < (i : Int) then (l1 : Int) else (i : Int)) = (lm : Int) := by split <;> omega
        have hlmn : (if l1 < i then (l1 : Int) else (i : Int)) = (lm : Int) := by split <;> omega
        have hR7 : Rd w7 A1 l1 (iv us) := hR1.below hB7 (Nat.le_refl _)
        obtain ⟨A', e1, hRc⟩ := cut_intsS hR7 hc1 (lm : Int) lm rfl (by omega)
        have HFA := Lib.hid (c_fair key HK.out hI7 (by omega) hlt7 A' (l1 - lm) (c1 - lm) (us.drop lm) hRc (fun c hc => HU.out c (List.mem_of_mem_drop hc)))
        have hfo := fair_ok key (us.drop lm) D'
        generalize fairL key (us.drop lm) D'.loose = fo at *
        obtain ⟨h', hh', hrh, hH'⟩ := HCH.out fo hfo
        clear hlm hR7 hRc HCH
        go_upto_region 23 with fail
        go_upto_region 24 with (first | (apply wpl_loadS (ty := 22); rfl; rfl; rfl; kernel_rfl; exact q0r; (simp only [List.size_toArray, bv_length, HK.out]; kernel_rfl); simp only [Act.put, List.setIfInBounds_toArray, List.set_cons_zero, List.set_cons_succ]) | (go_at_call 47; (with_reducible refine HFA.out.mono ?_); rintro e w8 ⟨v8, rfl, ho8, hI8, hb8⟩; obtain ⟨A8, d8, rfl, -, -, hr8⟩ := ho8.form) | (go_at_call 46; (with_reducible refine (i_crash hI8 (by omega) A8 fo.length d8 fo hr8 hfo.rg (Nat.zero_le _) (own_int ho8 bs)).mono ?_); rintro e w9 ⟨rfl, hI9, hd9⟩))
        have hP9 := (hP7.below hb8 hP7.lt).dr hd9
        have r13 := (q13.below hb8 q13.lt).dr hd9 (by decide)
        have r10 := (q10.below hb8 q10.lt).dr hd9 (by decide)
        have r11 := (q11.below hb8 q11.lt).dr hd9 (by decide)
        have rr := (q0r.below hb8 q0r.lt).dr hd9 (by decide)
        have hB9 := (below_two hB7 hb8).trans (hd9.below.mono (Nat.le_of_lt hlB))
        have c10 := r10.cell 0 rfl
        have hla := c_lastE hP9 hI9 (by omega) hH'.fr 1 1 rfl (by decide)
        rw [hH'.last] at hla
        simp only [Option.getD, Option.isSome] at hla
        have HLA := Lib.hid hla
        have hH2 := hH'.reads ((1 : Nat) : Int) 2
        have HH2 := Lib.hid hH2
        clear hla hH2 hH' HFA hI7 hP7 q13 q10 q11 q0r hB7 ho8 hI8 hb8 hr8 hd9 hI9 hP9 e1 hlmi hlmn hfo hlt7
        generalize readsD (D'.crash fo) ((1 : Nat) : Int) 2 = D9 at *
        go_upto_region 25 with (go_at_call 34; (with_reducible refine HLA.out.mono ?_); rintro e w10 ⟨rfl, hI10, hP10, hd10⟩)
        have q13 := r13.dr hd10 (by decide)
        have q10 := r10.dr hd10 (by decide)
        have q11 := r11.dr hd10 (by decide)
        have q0r := rr.dr hd10 (by decide)
        have hB10 := hB9.trans (hd10.below.mono (Nat.le_of_lt hlB))
        have c13 := q13.cell 0 rfl
        have c11 := q11.cell 0 rfl
        have z11 := q11.free 0
        have hI11 := (hI10.monoR (show 5 * i + 2 + 2 + 1 + 2 ≤ 5 * (i + 1) + 2 by omega)).set (j := 0) q11 (.int .u64 (h' : Int)) (by decide) h11b
        have s11 := q11.set 0 (.int .u64 (h' : Int))
        simp only [List.setIfInBounds_toArray, List.set_cons_zero] at s11
        have s10 := q10.set_other 0 (.int .u64 (h' : Int)) h1011
        have s0 := q0r.set_other 0 (.int .u64 (h' : Int)) (show w.heap.size ≠ g11 by omega)
        have hB11 : Below w.heap.size w (w10.setCell ⟨g11, 0, none⟩ (.int .u64 (h' : Int))) := hB10.setCell (p := ⟨g11, 0, none⟩) (show w.heap.size ≤ g11 by omega) _
        have hhf' : h' ≤ f + (i + 1) := by omega
        obtain ⟨y, hy⟩ : ∃ y : Nat, h + 1 = y := ⟨_, rfl⟩
        have hyi : (h : Int) + 1 = (y : Int) := by omega
        have hyl : y < 18446744073709551616 := by have := HFL.out; omega
        have hwy : IntKind.u64.wrap (y : Int) = (y : Int) := IntWalk.u64_in _ ⟨by omega, by omega⟩
        have HST := Lib.hid (And.intro hI11 (And.intro s11 (And.intro s10 (And.intro s0 hB11))))
        rw [hy] at hh' hrh
        clear HLA hI10 hP10 hd10 q13 q10 q11 q0r hB10 hI11 s11 s10 s0 hB11 c10 r13 r10 r11 rr hB9 hyl
        rcases (show (h' = h ∧ r = false) ∨ (h' = y ∧ h ≠ y ∧ r = false) ∨ (h' = y ∧ h ≠ y ∧ r = true ∧ dn = true) by
          cases r with
          | true => exact .inr (.inr ⟨hrh rfl, by omega, rfl, hdn rfl⟩)
          | false => rcases hh' with q | q
                     · exact .inl ⟨q, rfl⟩
                     · exact .inr (.inl ⟨q, by omega, rfl⟩)) with ⟨rfl, rfl⟩ | ⟨rfl, hne, rfl⟩ | ⟨rfl, hne, rfl, rfl⟩
        case' inr.inl => have hne1 : ((h' : Int) == (h : Int)) = false := by simp; omega
        case' inr.inr => have hne1 : ((h' : Int) == (h : Int)) = false := by simp; omega
        all_goals
          go_wp2_with fail
          go_roundw
          case rel => exact ⟨i + 1, _, g, D9, by omega, by go_num, HH2.out, hhf', HST.out.1, HST.out.2.2.2.1, HST.out.2.2.1, HST.out.2.1, HST.out.2.2.2.2⟩
          case measure => simp [intOf]; omega
      · have hor : ¬ (i : Int) < (l0 : Int) ∨ ((i : Int) < (l0 : Int) ∧ ¬ (i : Int) < 30) := by omega
        rcases hor with q | ⟨q1, q2⟩
        all_goals
          go_wp2_with (go_at_call 31; (with_reducible refine (c_awake10 _).mono ?_); rintro e w10 ⟨rfl, hb10⟩)
          go_ret
          exact ⟨rfl, below_two hBr hb10⟩
theorem w_SuprHolds (y0 : List UInt8) (a1 : Int) (a2 : Option Addr) (len2 cap2 : Nat) (z2 : List Int) (a3 : Option Addr) (len3 cap3 : Nat) (z3 : List Int) (w : World) (w0 : y0.length = 32) (w1 : (Lit.int .u64 a1).wf = true) (w2 : IsRow .i64 w a2 len2 cap2 z2) (w3 : IsRow .i64 w a3 len3 cap3 z3) :
    Calls Try.prog 10 #[.agg (bv y0).toArray, .int .u64 a1, .slice a2 len2 cap2, .slice a3 len3 cap3] w fun e w' => e = .returned (.bool true) ∧ Below w.heap.size w w' := by
  have h1 : 0 ≤ a1 ∧ a1 ≤ 18446744073709551615 := by simpa [Lit.wf, IntKind.min, IntKind.max, IntKind.signed, IntKind.bits] using w1
  obtain ⟨a, rfl⟩ : ∃ k : Nat, a1 = (k : Int) := ⟨a1.toNat, by omega⟩
  obtain ⟨ts, hR0, -, -, -⟩ := row_intsS w2
  obtain ⟨us, hR1, -, hc, hu⟩ := row_intsS w3
  exact w_shol0 y0 w0 a (by omega) a2 a3 len2 cap2 len3 cap3 ts us w hR0 hR1 hc hu
end Go.Proofs.Ytmdmhjcdaejlkaa
