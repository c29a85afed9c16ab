/- The walk of DiskCuts. -/
import Derived.Test.YtlbpmboknmbcgaaLawAgain
import Derived.Test.YtlbpmboknmbcgaaTryO
set_option linter.unusedVariables false
set_option linter.unusedSimpArgs false
namespace Go.Proofs.Ytlbpmboknmbcgaa
open Go.RowKit

def cuD (D : Dk) (c : Int) (i : Nat) : Dk := if c = 0 then D.read 1 else if c = 1 then D.flush else D.write 2 [UInt8.ofNat i]
/-- the device before the i-th step, where the power goes behind k -/
structure Cu (D : Dk) (i k : Nat) : Prop where
  tr : D.trace.length = min i k
  up : i ≤ k → D.after = (k : Int) - i ∧ D.off = false
  gone : k ≤ i → D.goes = true
theorem Cu.goes {D : Dk} {i k : Nat} (h : Cu D i k) (hi : i < k) : D.goes = false := by
  obtain ⟨h1, h2⟩ := h.up (by omega)
  unfold Dk.goes
  rw [h1, h2, Bool.false_or, beq_eq_false_iff_ne]
  omega
theorem cuD_step (D : Dk) (c : Int) (i : Nat) : (cuD D c i).after = D.step.after ∧ (cuD D c i).off = false ∧ (cuD D c i).trace.length = D.trace.length + 1 := by
  unfold cuD
  split
  · exact ⟨rfl, rfl, by show (D.trace ++ [_]).length = _; simp⟩
  · split
    · exact ⟨rfl, rfl, by show (D.trace ++ [_]).length = _; simp⟩
    · rw [write_trace]
      refine ⟨?_, ?_, by simp⟩
      · unfold Dk.write; split <;> rfl
      · unfold Dk.write; split <;> rfl
theorem Cu.next {D : Dk} {i k : Nat} (h : Cu D i k) (hi : i < k) (c : Int) : Cu (cuD D c i) (i + 1) k := by
  obtain ⟨h1, h2⟩ := h.up (by omega)
  obtain ⟨s1, s2, s3⟩ := cuD_step D c i
  have e : D.step.after = (k : Int) - (i + 1 : Nat) := by
    show (if 0 < D.after then D.after - 1 else D.after) = _
    rw [h1, if_pos (by omega)]
    omega
  refine ⟨by rw [s3, h.tr]; omega, fun hk => ⟨s1.trans e, s2⟩, fun hk => ?_⟩
  unfold Dk.goes
  rw [s1, e, s2]
  have : (k : Int) - ((i + 1 : Nat) : Int) = 0 := by omega
  rw [this]
  rfl
theorem Cu.stop {D : Dk} {i k : Nat} (h : Cu D i k) (hi : k ≤ i) : Cu D.dead (i + 1) k :=
  ⟨by show D.trace.length = _; rw [h.tr]; omega, fun hk => absurd hk (by omega), fun _ => rfl⟩
theorem cuD_bd {D : Dk} {n : Nat} (h : DkB D n) (c : Int) (i : Nat) : DkB (cuD D c i) (n + 1) := by
  unfold cuD
  split
  · exact h.read 1
  · split
    · exact h.flush
    · exact h.write 2 _ (by decide)
set_option maxHeartbeats 1000000 in
set_option maxRecDepth 100000 in
theorem cu1 (W : World) (base g3 g5 g7 b n l cap : Nat) (D : Dk) (i : Nat) (A : Addr) (tv c : Int) (hi : i < 30) (hl : i < l) (h : In W base b D n) (hn : n ≤ 900000) (hg : D.goes = false) (r5 : Row W g5 #[.pointer (some ⟨b, 0, none⟩)] 23) (r7 : Row W g7 #[.int .i64 (i : Int)] 3)
    (r3 : Row W g3 #[.slice (some A) l cap] 34) (hc : W.cell? (A.add i) = some (.int .i64 tv)) (hm : bits .and .i64 tv 3 = c) (hcr : 0 ≤ c ∧ c < 4) :
    Calls Try.prog 31 #[.pointer (some ⟨g3, 0, none⟩), .pointer (some ⟨g7, 0, none⟩), .pointer (some ⟨g5, 0, none⟩)] W fun e w' => e = .returned (.tuple #[]) ∧ In w' base b (cuD D c i) (n + 1) ∧ DR dTy base W w' := by
  have c3 := r3.cell 0 rfl
  have c5 := r5.cell 0 rfl
  have c7 := r7.cell 0 rfl
  have hw : IntKind.u8.wrap (i : Int) = (i : Int) := by simp [IntKind.wrap, IntKind.bits, IntKind.signed]; omega
  have hil : (i : Int) < (l : Int) := by omega
  have h3 : c = 0 ∨ c = 1 ∨ (c ≠ 0 ∧ c ≠ 1) := by omega
  rcases h3 with rfl | rfl | ⟨q1, q2⟩
  · go_enter Try.func31, Try.ntmps31
    go_wp2_with fail
    refine (i_read h hn hg 1 (by decide)).mono ?_
    rintro e w' ⟨v, rfl, -, h1, h2⟩
    go_wp2
    exact ⟨rfl, _, by simp [results, Try.results31], rfl, h1, h2⟩
  · go_enter Try.func31, Try.ntmps31
    go_wp2_with fail
    refine (i_flush h hn hg).mono ?_
    rintro e w' ⟨rfl, h1, h2⟩
    go_wp2
    exact ⟨rfl, _, by simp [results, Try.results31], rfl, h1, h2⟩
  · go_enter Try.func31, Try.ntmps31
    go_wp2_with fail
    have hv := bytes_lit W base [UInt8.ofNat i] 1 rfl (by decide) #[.int .u8 (i : Int)] (by simp [bv]; omega)
    refine (i_write (h.alloc _) hn hg 2 _ [UInt8.ofNat i] (by decide) hv).mono ?_
    rintro e w' ⟨rfl, h1, h2⟩
    have h4 := (DR.of_below (S := dTy) (below_alloc (Below.refl W.heap.size W) (.cells #[.int .u8 (i : Int)] 5)) h.le).trans h2
    have e : cuD D c i = D.write 2 [UInt8.ofNat i] := by unfold cuD; rw [if_neg q1, if_neg q2]
    go_wp2
    exact ⟨rfl, _, by simp [results, Try.results31], rfl, by rw [e]; exact h1, h4⟩
set_option maxHeartbeats 1000000 in
set_option maxRecDepth 100000 in
theorem cu1No (W : World) (base g3 g5 g7 b n l cap : Nat) (D : Dk) (i : Nat) (A : Addr) (tv c : Int) (hi : i < 30) (hl : i < l) (h : In W base b D n) (hg : D.goes = true) (r5 : Row W g5 #[.pointer (some ⟨b, 0, none⟩)] 23) (r7 : Row W g7 #[.int .i64 (i : Int)] 3)
    (r3 : Row W g3 #[.slice (some A) l cap] 34) (hc : W.cell? (A.add i) = some (.int .i64 tv)) (hm : bits .and .i64 tv 3 = c) (hcr : 0 ≤ c ∧ c < 4) :
    Calls Try.prog 31 #[.pointer (some ⟨g3, 0, none⟩), .pointer (some ⟨g7, 0, none⟩), .pointer (some ⟨g5, 0, none⟩)] W fun e w' => e = gonePanic ∧ In w' base b D.dead n ∧ DR dTy base W w' := by
  have c3 := r3.cell 0 rfl
  have c5 := r5.cell 0 rfl
  have c7 := r7.cell 0 rfl
  have hw : IntKind.u8.wrap (i : Int) = (i : Int) := by simp [IntKind.wrap, IntKind.bits, IntKind.signed]; omega
  have hil : (i : Int) < (l : Int) := by omega
  have h3 : c = 0 ∨ c = 1 ∨ (c ≠ 0 ∧ c ≠ 1) := by omega
  rcases h3 with rfl | rfl | ⟨q1, q2⟩
  · go_enter Try.func31, Try.ntmps31
    go_wp2_with fail
    refine (i_readNo h hg 1).mono ?_
    rintro e w' ⟨rfl, h1, h2⟩
    exact ⟨rfl, rfl, h1, h2⟩
  · go_enter Try.func31, Try.ntmps31
    go_wp2_with fail
    refine (i_flushNo h hg).mono ?_
    rintro e w' ⟨rfl, h1, h2⟩
    exact ⟨rfl, rfl, h1, h2⟩
  · go_enter Try.func31, Try.ntmps31
    go_wp2_with fail
    refine (i_writeNo (h.alloc _) hg 2 _).mono ?_
    rintro e w' ⟨rfl, h1, h2⟩
    exact ⟨rfl, rfl, h1, (DR.of_below (S := dTy) (below_alloc (Below.refl W.heap.size W) _) h.le).trans h2⟩
theorem In.frT {W W' : World} {base b n : Nat} {D : Dk} {T : TypeId} (h : In W base b D n) (hf : FR [T] [] base W W') (hT : T ∉ 5 :: dTy) : In W' base b D n := by
  have hT' : 5 ∉ [T] ∧ 82 ∉ [T] ∧ 85 ∉ [T] ∧ 32 ∉ [T] := by
    simp only [dTy, List.mem_cons, List.not_mem_nil, or_false, not_or] at hT ⊢
    exact ⟨fun e => hT.1 e.symm, fun e => hT.2.1 e.symm, fun e => hT.2.2.1 e.symm, fun e => hT.2.2.2 e.symm⟩
  obtain ⟨mS, mN, lv, tv, hrow, hbb, hbS, hbN, hne, h1, h2, h3, h4⟩ := h.dk.out
  exact ⟨⟨⟨mS, mN, lv, tv, hf.row hrow hT'.2.1, hbb, hbS, hbN, hne, h1.fr hf hT'.1 (by simp) (Nat.le_refl _), h2.fr hf hT'.1 (by simp) (Nat.le_refl _), h3.fr hf hT'.1 hT'.2.2.1, h4.fr hf hT'.1 hT'.2.2.2⟩⟩, Nat.le_trans h.le hf.size, h.bd⟩
theorem In.mono {W : World} {base b n m : Nat} {D : Dk} (h : In W base b D n) (hn : n ≤ m) : In W base b D m := ⟨h.dk, h.le, h.bd.mono hn⟩
set_option maxHeartbeats 4000000 in
set_option maxRecDepth 100000 in
theorem w_cuts0 (a0 : Int) (A : Option Addr) (l cap : Nat) (ts : List Int) (w : World) (k : Nat) (hk : bits .and .i64 a0 15 = (k : Int)) (hk15 : k ≤ 15) (hR : Rd w A l (iv ts))
    (hother : ∀ (W : World) (g : Nat), Row W g #[.int .i64 0] 3 → Calls Try.prog 32 #[.pointer (some ⟨g, 0, none⟩)] W fun e w' => e = .returned (.tuple #[]) ∧ Row w' g #[.int .i64 1] 3 ∧ ∀ bs, bs ≤ g → FR [3] [] bs W w') :
    Calls Try.prog 7 #[.int .i64 a0, .slice A l cap] w fun e w' => e = .returned (.bool true) ∧ Below w.heap.size w w' := by
  have hmf : ∀ (fn : Fn) (first cap : Array Value) (w : World), (Instr.makeFunc fn first cap).run Try.prog w = .ok (.func fn first cap) w := fun _ _ _ _ => rfl
  have HO := Lib.hid hother
  clear hother
  go_enter Try.func7, Try.ntmps7
  go_wp2_with fail
  have hB0 := below_alloc (Below.refl w.heap.size w) (.cells #[.slice A l cap] 34)
  have hr0 := Row.new w #[.slice A l cap] 34
  have hs0 : (w.alloc (.cells #[.slice A l cap] 34)).heap.size = w.heap.size + 1 := by simp
  generalize hgw : w.heap.size = g3 at *
  generalize w.alloc (.cells #[.slice A l cap] 34) = w0 at *
  generalize hbs : w0.heap.size = bs at *
  refine (i_new 4 2 w0 (by decide) (by decide)).mono ?_
  rintro e w1 ⟨b, rfl, hI, hB⟩
  rw [hbs] at hI hB
  have hcu : Cu ((dkNew 4 2).cut (k : Int)) 0 k := by
    refine ⟨by show 0 = min 0 k; omega, fun _ => ⟨by show max (k : Int) (-1) = _; omega, rfl⟩, fun h => ?_⟩
    have : k = 0 := by omega
    subst this
    decide
  generalize dkNew 4 2 = D0 at *
  have hr1 := hr0.below hB (by omega)
  have hB1 := hB0.trans (hB.mono (by omega))
  go_upto_region 5 with fail
  replace hI := hI.alloc (.cells #[.pointer (some ⟨b, 0, none⟩)] 23)
  have hB2 := hB1.trans ((below_alloc (Below.refl w1.heap.size w1) (.cells #[.pointer (some ⟨b, 0, none⟩)] 23)).mono (by have := hB.size; omega))
  have hr5 := Row.new w1 #[.pointer (some ⟨b, 0, none⟩)] 23
  have hr2 := hr1.alloc (.cells #[.pointer (some ⟨b, 0, none⟩)] 23)
  have hs2 : (w1.alloc (.cells #[.pointer (some ⟨b, 0, none⟩)] 23)).heap.size = w1.heap.size + 1 := by simp
  generalize hgv : w1.heap.size = g5 at *
  generalize (w1.alloc (.cells #[.pointer (some ⟨b, 0, none⟩)] 23)) = w2 at *
  have c5 := hr5.cell 0 rfl
  go_wp2_with fail
  refine (i_cut hI (k : Int) (by omega)).mono ?_
  rintro e w3 ⟨rfl, hI3, hd3⟩
  have hr53 := hr5.dr hd3 (by decide)
  have hr33 := hr2.dr hd3 (by decide)
  have hB3 := hB2.trans (hd3.below.mono (by omega))
  clear c5 hI hr0 hr1 hr2 hr5 hB hB0 hB1 hB2 hd3 hs2 hgv
  go_wp2
  go_loopw [6, 7] (fun s6 s7 wr => ∃ (i : Nat) (D : Dk) (g7 : Nat), i ≤ 30 ∧ s6 = .int .i64 ((min i k : Nat) : Int) ∧ s7 = .pointer (some ⟨g7, 0, none⟩) ∧ Cu D i k ∧ In wr bs b D i ∧ Row wr g5 #[.pointer (some ⟨b, 0, none⟩)] 23 ∧ Row wr g3 #[.slice A l cap] 34 ∧ Row wr g7 #[.int .i64 (i : Int)] 3 ∧ bs ≤ g7 ∧ Below g3 w wr) (fun _ s7 wr => 30 - (match s7 with | .pointer (some ad) => (match wr.cell? ad with | some v => (intOf v).toNat | none => 0) | _ => 0))
  case atStart =>
    exact ⟨0, _, w3.heap.size, by omega, by simp, rfl, hcu, hI3.alloc _, hr53.alloc _, hr33.alloc _, Row.new w3 _ _, hI3.le, hB3.alloc (by have := hI3.le; omega) _⟩
  case round =>
    obtain ⟨i, D, g7, hi, rfl, rfl, hC, hIr, hr5r, hr3r, hr7r, hg7, hBr⟩ := hrel
    have c3 := hr3r.cell 0 rfl
    have c5 := hr5r.cell 0 rfl
    have c7 := hr7r.cell 0 rfl
    clear hI3 hr53 hr33 hB3 hcu
    by_cases hend : (i : Int) < (l : Int) ∧ (i : Int) < 30
    · obtain ⟨hl1, hl2⟩ := hend
      go_wp2_with fail
      have hil : i < l := by omega
      have hRr : Rd wr A l (iv ts) := hR.below hBr (Nat.le_of_eq hgw)
      obtain ⟨ad, v, rfl, hv, hcv⟩ := hRr.at_ hil
      have hlen : ts.length = l := by have := hR.1; rwa [iv_length] at this
      rw [iv_get, List.getElem?_eq_getElem (by omega)] at hv
      cases hv
      have hadl : ad.block < wr.heap.size := Rd.block_lt hRr (by omega)
      generalize ts[i] = tv at *
      have hm := m3 tv
      have hcr : 0 ≤ tv % 4 ∧ tv % 4 < 4 := by omega
      rcases Nat.lt_or_ge i k with hik | hik
      · have q1 : (i : Int) < (k : Int) := by omega
        refine (i_tryOk (fun _ => by kernel_rfl) hIr fun W0 hb0 hi0 => cu1 W0 bs g3 g5 g7 b _ l cap D i ad tv _ (by omega) hil hi0 (by omega) (hC.goes hik) (hr5r.below hb0 hr5r.lt) (hr7r.below hb0 hr7r.lt) (hr3r.below hb0 hr3r.lt) ((hb0.cell (p := ad.add i) (by rw [ad_block]; exact hadl)).trans hcv) hm hcr).mono ?_
        rintro e w4 ⟨rfl, hI4, hd4⟩
        have hC4 := hC.next hik (tv % 4)
        have hr54 := hr5r.dr hd4 (by decide)
        have hr34 := hr3r.dr hd4 (by decide)
        have hr74 := hr7r.dr hd4 (by decide)
        have hB4 := hBr.trans (hd4.below.mono (by omega))
        generalize cuD D (tv % 4) i = D4 at *
        have e1 : ((min i k : Nat) : Int) = (i : Int) := by congr 1; omega
        rw [e1]
        clear c3 c5 c7 hm hcr hcv hRr
        have c3 := hr34.cell 0 rfl
        have c5 := hr54.cell 0 rfl
        have c7 := hr74.cell 0 rfl
        go_wp2
        have hrn : Row (w4.alloc (.cells #[.int .i64 ((i : Int) + 1)] 3)) w4.heap.size #[.int .i64 (((i + 1 : Nat)) : Int)] 3 := Row.new w4 #[.int .i64 ((i : Int) + 1)] 3
        have m1 := hrn.cell 0 rfl
        have m2 := hr7r.cell 0 rfl
        refine ⟨⟨i + 1, D4, w4.heap.size, by omega, by congr 1; omega, rfl, hC4, hI4.alloc _, hr54.alloc _, hr34.alloc _, hrn, hI4.le, hB4.alloc (by have := hI4.le; omega) _⟩, ?_⟩
        simp only [m1, m2]
        simp [intOf]
        omega
      · have q1 : ¬ (i : Int) < (k : Int) := by omega
        refine (i_tryGone (fun _ => by kernel_rfl) hIr fun W0 hb0 hi0 => cu1No W0 bs g3 g5 g7 b _ l cap D i ad tv _ (by omega) hil hi0 (hC.gone hik) (hr5r.below hb0 hr5r.lt) (hr7r.below hb0 hr7r.lt) (hr3r.below hb0 hr3r.lt) ((hb0.cell (p := ad.add i) (by rw [ad_block]; exact hadl)).trans hcv) hm hcr).mono ?_
        rintro e w4 ⟨rfl, hI4, hd4⟩
        have hC4 := hC.stop hik
        have hr54 := hr5r.dr hd4 (by decide)
        have hr34 := hr3r.dr hd4 (by decide)
        have hr74 := hr7r.dr hd4 (by decide)
        have hB4 := hBr.trans (hd4.below.mono (by omega))
        have e1 : ((min i k : Nat) : Int) = (k : Int) := by congr 1; omega
        rw [e1]
        clear c3 c5 c7 hm hcr hcv hRr
        have c3 := hr34.cell 0 rfl
        have c5 := hr54.cell 0 rfl
        have c7 := hr74.cell 0 rfl
        go_wp2
        have hrn : Row (w4.alloc (.cells #[.int .i64 ((i : Int) + 1)] 3)) w4.heap.size #[.int .i64 (((i + 1 : Nat)) : Int)] 3 := Row.new w4 #[.int .i64 ((i : Int) + 1)] 3
        have m1 := hrn.cell 0 rfl
        have m2 := hr7r.cell 0 rfl
        refine ⟨⟨i + 1, D.dead, w4.heap.size, by omega, by congr 1; omega, rfl, hC4, (hI4.mono (by omega)).alloc _, hr54.alloc _, hr34.alloc _, hrn, hI4.le, hB4.alloc (by have := hI4.le; omega) _⟩, ?_⟩
        simp only [m1, m2]
        simp [intOf]
        omega
    · have hor : ¬ (i : Int) < (l : Int) ∨ ((i : Int) < (l : Int) ∧ ¬ (i : Int) < 30) := by omega
      rcases hor with q | ⟨q1, q2⟩
      all_goals
        go_wp2_with fail
        have hr9 := Row.new wr #[.int .i64 0] 3
        have hI9 := hIr.alloc (.cells #[.int .i64 0] 3)
        have hr59 := hr5r.alloc (.cells #[.int .i64 0] 3)
        have hle := hIr.le
        have hB9 := hBr.alloc (o := .cells #[.int .i64 0] 3) (by omega)
        have hle9 := hI9.le
        generalize wr.alloc (.cells #[.int .i64 0] 3) = w9 at *
        generalize hg9 : wr.heap.size = g9 at *
        clear c3 c5 c7 hIr hr3r hr7r hr5r hBr
        refine (HO.out w9 g9 hr9).mono ?_
        rintro e w10 ⟨rfl, hr10, hfr⟩
        have hf := hfr bs (by omega)
        have hI10 := hI9.frT hf (by decide)
        have hr510 := hf.row hr59 (by decide)
        have hB10 := hB9.trans (hf.dr.below.mono (by omega))
        have c5 := hr510.cell 0 rfl
        clear hI9 hr59 hfr hf
        go_wp2_with fail
        refine (i_trace hI10 (by omega)).mono ?_
        rintro e w11 ⟨vt, rfl, ht11, hI11, hb11⟩
        obtain ⟨ts11, -, -, ht12⟩ := ht11
        obtain ⟨A11, c11, rfl, -, -⟩ := own_form ht12
        rw [hC.tr] at ht12 ⊢
        have hr11 := hr10.below hb11 hr10.lt
        have hB11 := hB10.trans (hb11.mono (by have := hI10.le; omega))
        have c9 := hr11.cell 0 rfl
        have hle11 := hI11.le
        clear c5 hr10 hr510 hI10 hB10 ht12
        go_wp2_with fail
        refine (c_awake6 _).mono ?_
        rintro e w12 ⟨rfl, hb12⟩
        have hB12 := hB11.trans (hb12.mono (by omega))
        go_wp2
        exact ⟨rfl, .bool true, by simp [results, Try.results7], rfl, by rw [hgw]; exact hB12⟩
theorem w_DiskCuts (a0 : Int) (a1 : Option Addr) (len1 cap1 : Nat) (z1 : List Int) (w : World) (w0 : (Lit.int .i64 a0).wf = true) (w1 : IsRow .i64 w a1 len1 cap1 z1) :
    Calls Try.prog 7 #[.int .i64 a0, .slice a1 len1 cap1] w fun e w' => e = .returned (.bool true) ∧ Below w.heap.size w w' := by
  obtain ⟨xs, hR, hm, hw⟩ := row_ints w1
  have e0 := m15 a0
  rw [show a0 % 16 = ((a0 % 16).toNat : Int) by omega] at e0
  exact w_cuts0 a0 a1 len1 cap1 xs w _ e0 (by omega) hR fun W g hr => c_cuts2 W g hr
end Go.Proofs.Ytlbpmboknmbcgaa
