/- The walk of BootRises. -/
import Derived.Test.YtlbpmboknmbcgaaRiseT
import Derived.Test.YtlbpmboknmbcgaaMask
set_option linter.unusedVariables false
set_option linter.unusedSimpArgs false
namespace Go.Proofs.Ytlbpmboknmbcgaa
open Go.RowKit

theorem row_intsR {w : World} {a : Option Addr} {len cap : Nat} {zs : List Int} (h : IsRow .i64 w a len cap zs) : ∃ xs : List Int, Rd w a len (iv xs) ∧ len ≤ maxLen ∧ ∀ x ∈ xs, (Lit.int .i64 x).wf = true := by
  rcases h with ⟨rfl, rfl, rfl, rfl⟩ | ⟨x, rfl, hl, hm, hz, hc, hw⟩
  · exact ⟨[], Rd.nil_ _ _, Nat.zero_le _, fun x hx => by cases hx⟩
  · refine ⟨zs.take len, ⟨by simp [iv]; omega, fun _ => ⟨x, rfl, fun j v hv => ?_⟩⟩, Nat.le_trans hl hm, fun y hy => hw y (List.mem_of_mem_take hy)⟩
    rw [iv_get, List.getElem?_take] at hv
    split at hv
    · rename_i hj
      have hj' : j < zs.length := by omega
      rw [List.getElem?_eq_getElem hj'] at hv
      cases hv
      have := hc j hj'
      rwa [List.getD_eq_getElem?_getD, List.getElem?_eq_getElem hj'] at this
    · cases hv
theorem of_wf_R {a : Int} (h : (Lit.int .i64 a).wf = true) : -9223372036854775808 ≤ a ∧ a ≤ 9223372036854775807 := by
  simp [Lit.wf, IntKind.min, IntKind.max, IntKind.bits, IntKind.signed] at h
  omega
theorem Ri.look {D : Dk} {L : Nat} (h : Ri D L) : Ri (look D ((0 : Nat) : Int)) L := ⟨h.fr.look _, h.two.look, h.eq, h.lo, h.la, h.pl⟩
theorem undI : Try.prog.underlying 34 = some (.slice (Try.prog.elem 34)) := by
  rw [show Try.prog.elem 34 = 3 by unfold Program.elem; rw [Try.underlying34]]; exact Try.underlying34
theorem sizeI (W : World) : (sizeOf (Try.prog.elem 34)).run Try.prog W = .ok 1 W := by
  rw [show Try.prog.elem 34 = 3 by unfold Program.elem; rw [Try.underlying34]]
  exact Try.sizeOf3 W
/-- xs[l:] of ints -/
theorem cut_ints {W0 : World} {A : Option Addr} {n c : Nat} {xs : List Int} (hR : Rd W0 A n (iv xs)) (hc : n ≤ c) (x : Int) (l : Nat) (hx : x = (l : Int)) (hl : l < n) :
    ∃ A', (∀ W, (Instr.slice 34 (.slice A n c) (some (.int .i64 x)) none none).run Try.prog W = .ok (.slice A' (n - l) (c - l)) W) ∧ Rd W0 A' (n - l) (iv (xs.drop l)) ∧ ∀ ad, A' = some ad → ∃ ad0, A = some ad0 ∧ ad.block = ad0.block := by
  subst hx
  have hlen : xs.length = n := by have := hR.1; rwa [iv_length] at this
  obtain ⟨ad, rfl, hcc⟩ := hR.2 (by omega)
  refine ⟨some (ad.add l), fun W => ?_, ⟨by rw [iv_length, List.length_drop]; omega, fun _ => ⟨_, rfl, fun j v hv => ?_⟩⟩, fun ad' e => ?_⟩
  · have := run_slice_l (P := Try.prog) W 34 (some ad) n c undI .i64 (l : Int) (by omega) (by omega)
    rw [this, sizeI]
    simp [sliced]
    omega
  · rw [ad_add]
    apply hcc
    rw [iv_get] at hv ⊢
    rwa [List.getElem?_drop] at hv
  · cases e
    exact ⟨ad, rfl, ad_block _ _⟩
set_option maxHeartbeats 8000000 in
set_option maxRecDepth 100000 in
theorem w_rise0 (A0 A1 : Option Addr) (l0 c0 l1 c1 : Nat) (ts us : List Int) (w : World) (hR0 : Rd w A0 l0 (iv ts)) (hR1 : Rd w A1 l1 (iv us)) (hc1 : l1 ≤ c1) (hu : ∀ x ∈ us, -9223372036854775808 ≤ x ∧ x ≤ 9223372036854775807) :
    Calls Try.prog 16 #[.slice A0 l0 c0, .slice A1 l1 c1] w fun e w' => e = .returned (.bool true) ∧ Below w.heap.size w w' := by
  have hmf : ∀ (fn : Fn) (first cap : Array Value) (w : World), (Instr.makeFunc fn first cap).run Try.prog w = .ok (.func fn first cap) w := fun _ _ _ _ => rfl
  have HU := Lib.hid hu
  clear hu
  go_enter Try.func16, Try.ntmps16
  go_wp2_with fail
  refine (i_new 3 40 w (by decide) (by decide)).mono ?_
  rintro e w1 ⟨b, rfl, hI, hB⟩
  have hri := ri_new
  generalize dkNew 3 40 = D0 at *
  go_upto_region 4 with fail
  replace hI := hI.alloc (.cells #[.pointer (some ⟨b, 0, none⟩)] 23)
  replace hB := below_alloc hB (.cells #[.pointer (some ⟨b, 0, none⟩)] 23)
  have hr5 := Row.new w1 #[.pointer (some ⟨b, 0, none⟩)] 23
  generalize hgv : w1.heap.size = g at *
  generalize (w1.alloc (.cells #[.pointer (some ⟨b, 0, none⟩)] 23)) = w2 at *
  clear hgv
  go_wp2
  go_loopw [6, 7] (fun s6 s7 wr => ∃ (i L last : Nat) (D : Dk), i ≤ 40 ∧ s6 = .int .u32 (last : Int) ∧ s7 = .int .i64 (i : Int) ∧ last ≤ L ∧ L ≤ i ∧ Ri D L ∧ In wr w.heap.size b D (7 * i) ∧ Row wr g #[.pointer (some ⟨b, 0, none⟩)] 23 ∧ Below w.heap.size w wr) (fun _ s7 _ => (40 - intOf s7).toNat)
  case atStart => exact ⟨0, 0, 0, D0, by omega, rfl, rfl, by omega, by omega, hri, hI, hr5, hB⟩
  case round =>
    obtain ⟨i, L, last, D, hi, rfl, rfl, hlL, hLi, hRi, hIr, hr5r, hBr⟩ := hrel
    have c5 := hr5r.cell 0 rfl
    clear hri hI hr5 hB
    by_cases hend : (i : Int) < (l0 : Int) ∧ (i : Int) < 40
    · obtain ⟨q0, q1⟩ := hend
      have hil : i < l0 := by omega
      have hRr : Rd wr A0 l0 (iv ts) := hR0.below hBr (Nat.le_refl _)
      obtain ⟨ad, v, rfl, hv, hcv⟩ := hRr.at_ hil
      have hlen : ts.length = l0 := by have := hR0.1; rwa [iv_length] at this
      rw [iv_get, List.getElem?_eq_getElem (by omega)] at hv
      cases hv
      have hadl : ad.block < wr.heap.size := Rd.block_lt hRr (by omega)
      have hadl2 : (ad.add i).block < wr.heap.size := by rw [ad_block]; exact hadl
      generalize ts[i] = tv at *
      have hm := m7 tv
      obtain ⟨c, hcc⟩ : ∃ c : Int, tv % 8 - 1 = c := ⟨_, rfl⟩
      have hc0 : -1 ≤ c := by omega
      have hc6 : c ≤ 6 := by omega
      have hcw : IntKind.i64.wrap (tv % 8 - 1) = c := by rw [hcc]; exact IntWalk.i64_in _ (by omega)
      have hgl : g < wr.heap.size := hr5r.lt
      have HCUT := Lib.hid (fun w' (h : In w' w.heap.size b D (7 * i)) => i_cut h c (by omega))
      clear hcc hlen
      go_upto_region 8 with fail
      (refine wp_region_linN (Below wr.heap.size) (Below wr.heap.size) (wayB _) (wayB _) (fun _ _ h => h) (.hot 0 (.free 1 (.free 2 (.free 3 (.hot 4 (.free 5 (.free 6 (.op 7 [(0, 7), (6, 7), (5, 6), (4, 5)] [] [] .nil)))))))) rfl (by kernel_rfl) (by kernel_rfl) (fun _ _ _ _ _ h => h) ?_; (first | (apply linN_hot; (simp only [List.getElem?_toArray, List.getElem?_cons_succ, List.getElem?_cons_zero]; rfl); (rfl); (intro w' hb'; (try have k_c5 := keepB (by first | assumption | omega | (simp; done) | (simp; omega)) hb' c5); (try have k_hcv := keepB (by first | assumption | omega | (simp; done) | (simp; omega)) hb' hcv); (first | (go_simp; done) | (go_simp; with_reducible rfl) | (go_simp; go_bits; with_reducible rfl) | (go_simp; go_bits; done))); try simp only [Act.put, List.setIfInBounds_toArray, List.set_cons_zero, List.set_cons_succ]) | (apply linN_hotSkip; (simp only [List.getElem?_toArray, List.getElem?_cons_succ, List.getElem?_cons_zero]; rfl); (rfl); try simp only [Act.put, List.setIfInBounds_toArray, List.set_cons_zero, List.set_cons_succ])); (first | (apply linN_free; (simp only [List.getElem?_toArray, List.getElem?_cons_succ, List.getElem?_cons_zero]; rfl); (rfl); (intro w'; (first | (go_simp; done) | (go_simp; with_reducible rfl) | (go_simp; go_bits; with_reducible rfl) | (go_simp; go_bits; done))); try simp only [Act.put, List.setIfInBounds_toArray, List.set_cons_zero, List.set_cons_succ]) | (apply linN_freeSkip; (simp only [List.getElem?_toArray, List.getElem?_cons_succ, List.getElem?_cons_zero]; rfl); (rfl); try simp only [Act.put, List.setIfInBounds_toArray, List.set_cons_zero, List.set_cons_succ])); (first | (apply linN_free; (simp only [List.getElem?_toArray, List.getElem?_cons_succ, List.getElem?_cons_zero]; rfl); (rfl); (intro w'; (first | (go_simp; done) | (go_simp; with_reducible rfl) | (go_simp; go_bits; with_reducible rfl) | (go_simp; go_bits; done))); try simp only [Act.put, List.setIfInBounds_toArray, List.set_cons_zero, List.set_cons_succ]) | (apply linN_freeSkip; (simp only [List.getElem?_toArray, List.getElem?_cons_succ, List.getElem?_cons_zero]; rfl); (rfl); try simp only [Act.put, List.setIfInBounds_toArray, List.set_cons_zero, List.set_cons_succ])); (first | (apply linN_free; (simp only [List.getElem?_toArray, List.getElem?_cons_succ, List.getElem?_cons_zero]; rfl); (rfl); (intro w'; (first | (go_simp; done) | (go_simp; with_reducible rfl) | (go_simp; go_bits; with_reducible rfl) | (go_simp; go_bits; done))); try simp only [Act.put, List.setIfInBounds_toArray, List.set_cons_zero, List.set_cons_succ]) | (apply linN_freeSkip; (simp only [List.getElem?_toArray, List.getElem?_cons_succ, List.getElem?_cons_zero]; rfl); (rfl); try simp only [Act.put, List.setIfInBounds_toArray, List.set_cons_zero, List.set_cons_succ])); (first | (apply linN_hot; (simp only [List.getElem?_toArray, List.getElem?_cons_succ, List.getElem?_cons_zero]; rfl); (rfl); (intro w' hb'; (try have k_c5 := keepB (by first | assumption | omega | (simp; done) | (simp; omega)) hb' c5); (try have k_hcv := keepB (by first | assumption | omega | (simp; done) | (simp; omega)) hb' hcv); (first | (go_simp; done) | (go_simp; with_reducible rfl) | (go_simp; go_bits; with_reducible rfl) | (go_simp; go_bits; done))); try simp only [Act.put, List.setIfInBounds_toArray, List.set_cons_zero, List.set_cons_succ]) | (apply linN_hotSkip; (simp only [List.getElem?_toArray, List.getElem?_cons_succ, List.getElem?_cons_zero]; rfl); (rfl); try simp only [Act.put, List.setIfInBounds_toArray, List.set_cons_zero, List.set_cons_succ])); (first | (apply linN_free; (simp only [List.getElem?_toArray, List.getElem?_cons_succ, List.getElem?_cons_zero]; rfl); (rfl); (intro w'; (first | (go_simp; done) | (go_simp; with_reducible rfl) | (go_simp; go_bits; with_reducible rfl) | (go_simp; go_bits; done))); try simp only [Act.put, List.setIfInBounds_toArray, List.set_cons_zero, List.set_cons_succ]) | (apply linN_freeSkip; (simp only [List.getElem?_toArray, List.getElem?_cons_succ, List.getElem?_cons_zero]; rfl); (rfl); try simp only [Act.put, List.setIfInBounds_toArray, List.set_cons_zero, List.set_cons_succ])); (first | (apply linN_free; (simp only [List.getElem?_toArray, List.getElem?_cons_succ, List.getElem?_cons_zero]; rfl); (rfl); (intro w'; (first | (go_simp; done) | (go_simp; with_reducible rfl) | (go_simp; go_bits; with_reducible rfl) | (go_simp; go_bits; done))); try simp only [Act.put, List.setIfInBounds_toArray, List.set_cons_zero, List.set_cons_succ]) | (apply linN_freeSkip; (simp only [List.getElem?_toArray, List.getElem?_cons_succ, List.getElem?_cons_zero]; rfl); (rfl); try simp only [Act.put, List.setIfInBounds_toArray, List.set_cons_zero, List.set_cons_succ])); (first | (apply linN_pass (wayB _) (wayB _); (simp only [List.getElem?_toArray, List.getElem?_cons_succ, List.getElem?_cons_zero]; rfl); (rfl); try simp only [Act.put, List.setIfInBounds_toArray, List.set_cons_zero, List.set_cons_succ]) | (apply linN_op; (simp only [List.getElem?_toArray, List.getElem?_cons_succ, List.getElem?_cons_zero]; rfl); (rfl); intro K hK; (first | (go_simp; (first | (go_at_call 24; (with_reducible refine (HCUT.out _ (hIr.below (below_drew (Below.refl _ _)))).mono ?_); rintro e w3 ⟨rfl, hI3, hd3⟩) | skip))); refine hK _ _ ?_ ?_; (exact trivial); clear hK; try simp only [Act.put, List.setIfInBounds_toArray, List.set_cons_zero, List.set_cons_succ])); refine linN_end ?_)
      have hd0 : DR dTy w.heap.size wr w3 := (DR.of_below (S := dTy) (below_drew (Below.refl wr.heap.size wr)) hIr.le).trans hd3
      have r53 := hr5r.dr hd0 (by decide)
      have hB3 : Below w.heap.size w w3 := hBr.trans hd0.below
      clear c5 hcv hadl hadl2 hcw hm hd3 hd0 hRr HCUT hr5r hIr hBr
      go_upto_region 10 with fail
      have r8 := (Row.new w3 #[.int .u32 0] 49).alloc (.cells #[.int .i64 0] 65)
      have r9 := row_new1 w3 (.cells #[.int .u32 0] 49) #[.int .i64 0] 65
      have hI4 := (hI3.alloc (.cells #[.int .u32 0] 49)).alloc (.cells #[.int .i64 0] 65)
      have r54 := (r53.alloc (.cells #[.int .u32 0] 49)).alloc (.cells #[.int .i64 0] 65)
      have hB4 := (hB3.alloc hI3.le (.cells #[.int .u32 0] 49)).alloc (hI3.alloc _).le (.cells #[.int .i64 0] 65)
      have hg8 := hI3.le
      generalize (w3.alloc (.cells #[.int .u32 0] 49)).alloc (.cells #[.int .i64 0] 65) = w4 at *
      generalize w3.heap.size = g8 at *
      have HTRY := Lib.hid (rise_try c hc0 L hRi (by omega) hI4 (by omega) r54 r8 r9 hg8 (by omega) (by omega))
      clear hI3 hI4 r53 r8 r9 r54 hB3
      go_wp2_with fail
      refine HTRY.out.mono ?_
      rintro e w5 ⟨r, nv, D', rfl, hI5, r55, r85, r95, hB5', hnv, hch⟩
      have hB5 := hB4.trans hB5'
      have c5 := r55.cell 0 rfl
      have c8 := r85.cell 0 rfl
      have c9 := r95.cell 0 rfl
      clear HTRY hB4 hB5'
      have HCH := Lib.hid hch
      clear hch
      obtain ⟨lv, hlv, hfin⟩ : ∃ lv : Nat, ((r = true ∧ lv = nv ∧ ¬ (nv : Int) ≤ (last : Int)) ∨ (r = false ∧ lv = last)) ∧ ∀ ch, ∃ L', lv ≤ L' ∧ L' ≤ i + 1 ∧ Ri (D'.crash ch) L' := by
        cases r with
        | true =>
          have h1 := hnv rfl
          refine ⟨nv, .inl ⟨rfl, rfl, by omega⟩, fun ch => ?_⟩
          obtain ⟨L', a1, a2, a3, a4⟩ := HCH.out ch
          have := a3 rfl
          exact ⟨L', by omega, by omega, a4⟩
        | false =>
          refine ⟨last, .inr ⟨rfl, rfl⟩, fun ch => ?_⟩
          obtain ⟨L', a1, a2, a3, a4⟩ := HCH.out ch
          exact ⟨L', by omega, by omega, a4⟩
      have HF := Lib.hid hfin
      clear hfin hnv HCH hRi hlL hLi
      rcases hlv with ⟨rfl, hlv, hnl⟩ | ⟨rfl, hlv⟩
      all_goals
        subst hlv
      all_goals
        by_cases hi1 : (i : Int) < (l1 : Int)
        · have hil1 : i < l1 := by omega
          have hR1r : Rd w5.drew A1 l1 (iv us) := hR1.below (below_drew hB5) (Nat.le_refl _)
          obtain ⟨A', e1, hRc, hAb⟩ := cut_ints hR1r hc1 (i : Int) i rfl hil1
          obtain ⟨L', b1, b2, hRi'⟩ := HF.out (us.drop i)
          have HCR := Lib.hid (fun (h : In w5.drew w.heap.size b D' (7 * i + 4)) => i_crash h (by omega) A' (l1 - i) (c1 - i) (us.drop i) hRc (fun c hc => HU.out c (List.mem_of_mem_drop hc)) (by omega) (fun ad e h0 => by
            obtain ⟨ad0, e0, e2⟩ := hAb ad e
            subst e0
            exact .inl (by rw [e2]; exact Rd.block_lt hR1 (by omega))))
          have HI5 := Lib.hid (show In w5.drew w.heap.size b D' (7 * i + 4) from hI5.below (below_drew (Below.refl _ _)))
          have hg5l : g < w5.heap.size := r55.lt
          have hw5 := hI5.le
          clear hAb hR1r
          go_upto_region 16 with fail
          (refine wp_region_linN (Below w5.heap.size) (Below w5.heap.size) (wayB _) (wayB _) (fun _ _ h => h) (.hot 0 (.free 1 (.free 2 (.free 3 (.op 4 [(0, 4)] [] [] .nil))))) rfl (by kernel_rfl) (by kernel_rfl) (fun _ _ _ _ _ h => h) ?_; (first | (apply linN_hot; (simp only [List.getElem?_toArray, List.getElem?_cons_succ, List.getElem?_cons_zero]; rfl); (rfl); (intro w' hb'; (try have k_c5 := keepB (by first | assumption | omega | (simp; done) | (simp; omega)) hb' c5); (first | (go_simp; done) | (go_simp; with_reducible rfl) | (go_simp; go_bits; with_reducible rfl) | (go_simp; go_bits; done))); try simp only [Act.put, List.setIfInBounds_toArray, List.set_cons_zero, List.set_cons_succ]) | (apply linN_hotSkip; (simp only [List.getElem?_toArray, List.getElem?_cons_succ, List.getElem?_cons_zero]; rfl); (rfl); try simp only [Act.put, List.setIfInBounds_toArray, List.set_cons_zero, List.set_cons_succ])); (first | (apply linN_free; (simp only [List.getElem?_toArray, List.getElem?_cons_succ, List.getElem?_cons_zero]; rfl); (rfl); (intro w'; (first | (go_simp; done) | (go_simp; with_reducible rfl) | (go_simp; go_bits; with_reducible rfl) | (go_simp; go_bits; done))); try simp only [Act.put, List.setIfInBounds_toArray, List.set_cons_zero, List.set_cons_succ]) | (apply linN_freeSkip; (simp only [List.getElem?_toArray, List.getElem?_cons_succ, List.getElem?_cons_zero]; rfl); (rfl); try simp only [Act.put, List.setIfInBounds_toArray, List.set_cons_zero, List.set_cons_succ])); (first | (apply linN_free; (simp only [List.getElem?_toArray, List.getElem?_cons_succ, List.getElem?_cons_zero]; rfl); (rfl); (intro w'; (first | (go_simp; done) | (go_simp; with_reducible rfl) | (go_simp; go_bits; with_reducible rfl) | (go_simp; go_bits; done))); try simp only [Act.put, List.setIfInBounds_toArray, List.set_cons_zero, List.set_cons_succ]) | (apply linN_freeSkip; (simp only [List.getElem?_toArray, List.getElem?_cons_succ, List.getElem?_cons_zero]; rfl); (rfl); try simp only [Act.put, List.setIfInBounds_toArray, List.set_cons_zero, List.set_cons_succ])); (first | (apply linN_free; (simp only [List.getElem?_toArray, List.getElem?_cons_succ, List.getElem?_cons_zero]; rfl); (rfl); (intro w'; (first | (go_simp; done) | (go_simp; with_reducible rfl) | (go_simp; go_bits; with_reducible rfl) | (go_simp; go_bits; done))); try simp only [Act.put, List.setIfInBounds_toArray, List.set_cons_zero, List.set_cons_succ]) | (apply linN_freeSkip; (simp only [List.getElem?_toArray, List.getElem?_cons_succ, List.getElem?_cons_zero]; rfl); (rfl); try simp only [Act.put, List.setIfInBounds_toArray, List.set_cons_zero, List.set_cons_succ])); (first | (apply linN_pass (wayB _) (wayB _); (simp only [List.getElem?_toArray, List.getElem?_cons_succ, List.getElem?_cons_zero]; rfl); (rfl); try simp only [Act.put, List.setIfInBounds_toArray, List.set_cons_zero, List.set_cons_succ]) | (apply linN_op; (simp only [List.getElem?_toArray, List.getElem?_cons_succ, List.getElem?_cons_zero]; rfl); (rfl); intro K hK; (first | (go_simp; (first | (go_at_call 29; (with_reducible refine (HCR.out HI5.out).mono ?_); rintro e w6 ⟨rfl, hI6, hd6⟩) | skip))); refine hK _ _ ?_ ?_; (exact trivial); clear hK; try simp only [Act.put, List.setIfInBounds_toArray, List.set_cons_zero, List.set_cons_succ])); refine linN_end ?_)
          have DD : DR dTy w.heap.size w5 w6 := (DR.of_below (S := dTy) (below_drew (Below.refl w5.heap.size w5)) hw5).trans hd6
          clear hd6 HCR HI5 e1 hRc
          have q5 : Row w6 g #[.pointer (some ⟨b, 0, none⟩)] 23 := r55.dr DD (by decide)
          have hB6 : Below w.heap.size w w6 := hB5.trans DD.below
          clear c5 c8 c9 DD hB5 r55 r85 r95 hI5 HF
          have c5 := q5.cell 0 rfl
          have HLA := Lib.hid (i_last hI6 (by omega) 0 (by omega) 0 rfl L' ⟨hRi'.fr, hRi'.two, hRi'.la⟩ (L' : Int) rfl)
          have hRi2 := hRi'.look
          clear hI6 hRi'
          go_wp2_with fail
          refine HLA.out.mono ?_
          rintro e w7 ⟨rfl, hI7, hd7⟩
          have q57 := q5.dr hd7 (by decide)
          have hB7 := hB6.trans hd7.below
          clear HLA c5 q5 hB6 hd7
          have hge : ¬ (L' : Int) < (lv : Int) := by omega
          go_wp2
          go_roundw
          case rel => exact ⟨i + 1, L', lv, _, by omega, rfl, by go_num, b1, b2, hRi2, hI7.monoR (by omega), q57, hB7⟩
          case measure => simp [intOf]; omega
        · obtain ⟨L', b1, b2, hRi'⟩ := HF.out []
          go_wp2_with fail
          refine (i_crash hI5 (by omega) none 0 0 [] (Rd.nil_ _ _) (fun c hc => by cases hc) (by omega) (fun ad e => by cases e)).mono ?_
          rintro e w6 ⟨rfl, hI6, DD⟩
          have q5 : Row w6 g #[.pointer (some ⟨b, 0, none⟩)] 23 := r55.dr DD (by decide)
          have hB6 : Below w.heap.size w w6 := hB5.trans DD.below
          clear c5 c8 c9 DD hB5 r55 r85 r95 hI5 HF
          have c5 := q5.cell 0 rfl
          have HLA := Lib.hid (i_last hI6 (by omega) 0 (by omega) 0 rfl L' ⟨hRi'.fr, hRi'.two, hRi'.la⟩ (L' : Int) rfl)
          have hRi2 := hRi'.look
          clear hI6 hRi'
          go_wp2_with fail
          refine HLA.out.mono ?_
          rintro e w7 ⟨rfl, hI7, hd7⟩
          have q57 := q5.dr hd7 (by decide)
          have hB7 := hB6.trans hd7.below
          clear HLA c5 q5 hB6 hd7
          have hge : ¬ (L' : Int) < (lv : Int) := by omega
          go_wp2
          go_roundw
          case rel => exact ⟨i + 1, L', lv, _, by omega, rfl, by go_num, b1, b2, hRi2, hI7.monoR (by omega), q57, hB7⟩
          case measure => simp [intOf]; omega
    · have hor : ¬ (i : Int) < (l0 : Int) ∨ ((i : Int) < (l0 : Int) ∧ ¬ (i : Int) < 40) := by omega
      rcases hor with q | ⟨q1, q2⟩
      all_goals
        go_wp2_with fail
        refine (c_awake8 _).mono ?_
        rintro e w5 ⟨rfl, hb5⟩
        have hB5 := below_two hBr hb5
        go_wp2
        exact ⟨rfl, .bool true, by simp [results, Try.results16], rfl, hB5⟩
theorem w_BootRises (a0 : Option Addr) (len0 cap0 : Nat) (z0 : List Int) (a1 : Option Addr) (len1 cap1 : Nat) (z1 : List Int) (w : World) (w0 : IsRow .i64 w a0 len0 cap0 z0) (w1 : IsRow .i64 w a1 len1 cap1 z1) :
    Calls Try.prog 16 #[.slice a0 len0 cap0, .slice a1 len1 cap1] w fun e w' => e = .returned (.bool true) ∧ Below w.heap.size w w' := by
  have hcap : len1 ≤ cap1 := by
    rcases w1 with ⟨_, rfl, rfl, _⟩ | ⟨x, _, h1, h2, _⟩
    · exact Nat.le_refl _
    · exact h1
  obtain ⟨ts, hR0, -, -⟩ := row_intsR w0
  obtain ⟨us, hR1, -, hu⟩ := row_intsR w1
  exact w_rise0 a0 a1 len0 cap0 len1 cap1 ts us w hR0 hR1 hcap (fun x hx => of_wf_R (hu x hx))
end Go.Proofs.Ytlbpmboknmbcgaa
