/- Contracts of the device: Crash. -/
import Derived.Test.YtlbpmboknmbcgaaDiskT
import Derived.Test.YtlbpmboknmbcgaaInts
set_option linter.unusedVariables false
set_option linter.unusedSimpArgs false
namespace Go.Proofs.Ytlbpmboknmbcgaa
open Go.RowKit

def garL (xs : List UInt8) : List UInt8 := xs.map (· ^^^ 165)
theorem garL_length (xs : List UInt8) : (garL xs).length = xs.length := by simp [garL]
theorem xor165 (b : UInt8) : bits .xor .u8 (b.toNat : Int) 165 = ((b ^^^ 165).toNat : Int) := by
  have h : ∀ n : Fin 256, bits .xor .u8 ((UInt8.ofNat n.val).toNat : Int) 165 = ((UInt8.ofNat n.val ^^^ 165).toNat : Int) := by decide +kernel
  have := h ⟨b.toNat, b.toNat_lt⟩
  rwa [show UInt8.ofNat b.toNat = b from UInt8.ofNat_toNat] at this
theorem c_garble_step (xs : List UInt8) (k : Nat) (hk : k < xs.length) : (garL (xs.take k) ++ xs.drop k).set k (xs[k] ^^^ 165) = garL (xs.take (k + 1)) ++ xs.drop (k + 1) := by
  have hl : (garL (xs.take k)).length = k := by rw [garL_length, List.length_take]; omega
  rw [List.set_append_right _ _ (by omega), hl, Nat.sub_self, List.drop_eq_getElem_cons hk, List.set_cons_zero, List.take_add_one, List.getElem?_eq_getElem hk]
  unfold garL
  rw [List.map_append, List.append_assoc]
  rfl
theorem garble_at (xs : List UInt8) (k : Nat) (hk : k < xs.length) : (garL (xs.take k) ++ xs.drop k)[k]?.getD 0 = xs[k] := by
  have hl : (garL (xs.take k)).length = k := by rw [garL_length, List.length_take]; omega
  rw [List.getElem?_append_right (by omega), hl, Nat.sub_self, List.getElem?_drop, Nat.add_zero, List.getElem?_eq_getElem hk]
  rfl
/-- a choice: 0 kept, 1 lost, 2 garbled -/
def chs (ch : List Int) (i : Nat) : Int := match ch[i]? with | some c => c % 3 | none => 0
theorem chs_mod (c : Int) (h : -9223372036854775808 ≤ c ∧ c ≤ 9223372036854775807) : (c.tmod 3 + 3).tmod 3 = c % 3 := by
  have h1 : c.tmod 3 = c % 3 ∨ c.tmod 3 = c % 3 - 3 := by
    rcases Int.le_total 0 c with h | h
    · exact .inl (Int.tmod_eq_emod_of_nonneg h)
    · have e : c.tmod 3 = -((-c) % 3) := by
        rw [show c = -(-c) by omega, Int.neg_tmod, Int.tmod_eq_emod_of_nonneg (by omega), Int.neg_neg]
      omega
  have h2 : 0 ≤ c.tmod 3 + 3 := by omega
  rw [Int.tmod_eq_emod_of_nonneg h2]
  omega
/-- what a write's choice makes of the blocks -/
def crash1 (m : Int → List UInt8) (x : Int × List UInt8) (c : Int) : Int → List UInt8 :=
  if c = 0 then fun j => if j = x.1 then x.2 else m j else if c = 2 then fun j => if j = x.1 then garL x.2 else m j else m
def crashF (D : Dk) (ch : List Int) : Nat → Int → List UInt8
  | 0 => D.stable
  | j + 1 => match D.loose[j]? with | some x => crash1 (crashF D ch j) x (chs ch j) | none => crashF D ch j
def Dk.cpart (D : Dk) (ch : List Int) (j : Nat) : Dk := { D with stable := crashF D ch j, cS := D.cS + j }
/-- the device behind a crash -/
def Dk.crash (D : Dk) (ch : List Int) : Dk := { D with stable := crashF D ch D.loose.length, now := crashF D ch D.loose.length, cS := D.cS + D.loose.length, cN := D.cS + D.loose.length, loose := [], off := false, after := -1, trace := D.trace ++ [⟨4, 0, headL [], []⟩] }
theorem MapI.mono {W : World} {b n n' : Nat} {f : Int → Value} (h : MapI W b n f) (hn : n ≤ n') : MapI W b n' f := by
  obtain ⟨D, ⟨es, cl, h1, h2, h3, h4⟩, hD⟩ := h.out
  exact ⟨D, ⟨es, cl, h1, h2, by omega, h4⟩, hD⟩
theorem crash_kept (D : Dk) (ch : List Int) (j : Nat) (x : Int × List UInt8) (hx : D.loose[j]? = some x) (hc : chs ch j = 0) : D.cpart ch (j + 1) = { D.cpart ch j with stable := fun i => if i = x.1 then x.2 else (D.cpart ch j).stable i, cS := (D.cpart ch j).cS + 1 } := by
  unfold Dk.cpart
  simp only [crashF, hx, hc, crash1, if_true, Nat.add_assoc]
theorem crash_garbled (D : Dk) (ch : List Int) (j : Nat) (x : Int × List UInt8) (hx : D.loose[j]? = some x) (hc : chs ch j = 2) : D.cpart ch (j + 1) = { D.cpart ch j with stable := fun i => if i = x.1 then garL x.2 else (D.cpart ch j).stable i, cS := (D.cpart ch j).cS + 1 } := by
  unfold Dk.cpart
  simp only [crashF, hx, hc, crash1, Nat.add_assoc]
  rfl
theorem crash_lost (D : Dk) (ch : List Int) (j : Nat) (x : Int × List UInt8) (hx : D.loose[j]? = some x) (hc : chs ch j = 1) : D.cpart ch (j + 1) = { D.cpart ch j with cS := (D.cpart ch j).cS + 1 } := by
  unfold Dk.cpart
  simp only [crashF, hx, hc, crash1, Nat.add_assoc]
  rfl
theorem DiskW.moreS {W : World} {base b : Nat} {D : Dk} {mS mN : Nat} {lv tv : Value} (h : DiskW W base b D mS mN lv tv) : DiskW W base b { D with cS := D.cS + 1 } mS mN lv tv :=
  ⟨h.row, h.hb, h.hS, h.hN, h.ne, (by obtain ⟨f, hf, hb⟩ := h.st.out; exact ⟨⟨f, hf.mono (by simp), hb⟩⟩), h.nw, h.lo, h.tr⟩
theorem ranges_cnt {W : World} {b r n cnt : Nat} {D : DataW Value} {left : Lit → Bool} (h : W.ranges Try.prog 3 selfR b r n D left cnt) : cnt ≤ n := by
  obtain ⟨es, clock, since, seen, c0, _, _, hs, _, _, _, hc, _⟩ := h
  rw [← hc]
  unfold leftOf
  exact Nat.le_trans (Array.size_filter_le ..) hs
theorem ranges_iter {W : World} {b r n cnt : Nat} {D : DataW Value} {left : Lit → Bool} (h : W.ranges Try.prog 3 selfR b r n D left cnt) : ∃ x y z u, W.heap[r]? = some (.mapIter x y z u) := by
  obtain ⟨es, clock, since, seen, c0, _, _, hs, _, hr, _⟩ := h
  exact ⟨_, _, _, _, hr⟩
theorem FR.of_iter {S : List TypeId} {M : List Nat} {base r : Nat} {W W' : World} (hg : W.grownBy W' (some r)) (hm : ∃ x y z u, W.heap[r]? = some (.mapIter x y z u)) (hb : base ≤ r) : FR S M base W W' := by
  obtain ⟨x, y, z, u, hr⟩ := hm
  have hlt : r < W.heap.size := (Array.getElem?_eq_some_iff.1 hr).1
  refine ⟨⟨⟨hg.os, hg.tape, hg.output, hg.size, fun k hk => hg.block k (by omega) (fun e => by cases e; omega)⟩, fun k c T fr hk _ => (hg.block k (Array.getElem?_eq_some_iff.1 hk).1 (fun e => by cases e; rw [hr] at hk; cases hk)).trans hk⟩, fun k es cl hk _ => hg.block k (Array.getElem?_eq_some_iff.1 hk).1 (fun e => by cases e; rw [hr] at hk; cases hk)⟩
theorem FR.of_none {S : List TypeId} {M : List Nat} {base : Nat} {W W' : World} (hg : W.grownBy W' none) (hb : base ≤ W.heap.size) : FR S M base W W' :=
  FR.of_below ⟨hg.os, hg.tape, hg.output, hg.size, fun k hk => hg.block k hk (by simp)⟩ hb
theorem same_int (i j : Int) : (kI i).sameKey (kI j) = decide (i = j) := by simp [kI, Lit.sameKey]
theorem chs_range (ch : List Int) (j : Nat) : chs ch j = 0 ∨ chs ch j = 1 ∨ chs ch j = 2 := by
  unfold chs
  split <;> omega
set_option maxHeartbeats 8000000 in
set_option maxRecDepth 100000 in
theorem c_crash (W : World) (base b : Nat) (D : Dk) (Ac : Option Addr) (nc cc : Nat) (ch : List Int) (h : DiskAt W base b D) (hk : DkOk D) (hB : base ≤ W.heap.size) (hw : ∀ x ∈ D.loose, (Lit.int .i64 x.1).wf = true ∧ x.2.length ≤ 60000)
    (hch : Rd W Ac nc (iv ch)) (hci : ∀ c ∈ ch, -9223372036854775808 ≤ c ∧ c ≤ 9223372036854775807) (hnc : 0 ≤ nc) (hcb : ∀ ad, Ac = some ad → 0 < nc → ad.block < base ∨ ∃ cs fr, W.heap[ad.block]? = some (.cells cs 3 fr)) :
    Calls Try.prog 29 #[.pointer (some ⟨b, 0, none⟩), .slice Ac nc cc] W fun e w' => e = .returned (.tuple #[]) ∧ DiskAt w' base b (D.crash ch) ∧ DR dTy base W w' := by
  obtain ⟨mS, mN, lv, tv, hD⟩ := h.parts
  have hkeep : ∀ w', DR dTy base W w' → Rd w' Ac nc (iv ch) := fun w' hd => hch.keep fun ad e j hj => by
    have hblk : w'.heap[ad.block]? = W.heap[ad.block]? := by
      rcases hcb ad e (by omega) with h | ⟨cs, fr, h⟩
      · exact hd.below.block _ h
      · rw [hd.typ _ _ _ _ h (by decide), h]
    unfold World.cell?
    rw [ad_block, hblk]
  have hlc : ch.length = nc := by have := hch.1; rwa [iv_length] at this
  have HKEEP := Lib.hid hkeep
  have HLC := Lib.hid hlc
  have HCI := Lib.hid hci
  have hln0 : D.loose.length ≤ 900000 := hk.ll
  have hcs0 := hk.cs
  have hform : ∃ A c, lv = .slice A D.loose.length c := by
    obtain ⟨vs, a1, a2, a3⟩ := hD.lo
    obtain ⟨A, c, e, -, -⟩ := own_form a3
    exact ⟨A, c, e⟩
  obtain ⟨A, c, rfl⟩ := hform
  have c4 := hD.row.cell 4 rfl
  clear hkeep hlc hci hch hcb
  go_enter Try.func29, Try.ntmps29
  go_wp2
  go_loopw [16] (fun i wr => ∃ j : Nat, j ≤ D.loose.length ∧ i = .int .i64 (j : Int) ∧ DiskW wr base b (D.cpart ch j) mS mN (.slice A D.loose.length c) tv ∧ DR dTy base W wr) (fun i _ => D.loose.length - (intOf i).toNat)
  case atStart => exact ⟨0, Nat.zero_le _, rfl, hD, DR.refl _ _ _⟩
  case round =>
    obtain ⟨j, hj, rfl, hDj, hrj⟩ := hrel
    have hsj := hrj.below.size
    have hchj := HKEEP.out wr hrj
    clear hD c4 h
    by_cases hlt : j < D.loose.length
    · have hx : D.loose[j]? = some D.loose[j] := List.getElem?_eq_getElem hlt
      obtain ⟨hwx, hlx⟩ := hw _ (List.getElem_mem hlt)
      have hpK := crash_kept D ch j _ hx
      have hpG := crash_garbled D ch j _ hx
      have hpL := crash_lost D ch j _ hx
      generalize D.loose[j] = x at *
      obtain ⟨xa, xb⟩ := x
      obtain ⟨g, cap, u, hlv, hu, hce⟩ := hDj.lo.elem (show (D.cpart ch j).loose[j]? = some (xa, xb) from hx)
      simp only [Value.slice.injEq] at hlv
      obtain ⟨rfl, -, rfl⟩ := hlv
      simp only at hlx hwx
      have HWX := Lib.hid hwx
      obtain ⟨Au, nu, cu, hu2⟩ : ∃ Au nu cu, u = .slice Au nu cu := by obtain ⟨A, c, e, _⟩ := hu; exact ⟨_, _, _, e⟩
      subst hu2
      have hnu : nu = xb.length ∧ RdB wr Au xb.length xb := by
        obtain ⟨A', c', e, _, _, hr, _⟩ := hu
        simp only [Value.slice.injEq] at e
        obtain ⟨rfl, rfl, rfl⟩ := e
        exact ⟨rfl, hr⟩
      obtain ⟨rfl, hru⟩ := hnu
      have HP := Lib.hid (And.intro hpK (And.intro hpG hpL))
      clear hwx hpK hpG hpL hx
      go_upto_region 3 with (first | (apply wpl_loadR (ty := 85) [.int .i64 xa, .slice Au xb.length cu]; rfl; rfl; rfl; kernel_rfl; kernel_rfl; exact hce) | (apply wpl_storeN; rfl; rfl; rfl; (first | rfl | simp); rfl; kernel_rfl; rfl; (simp [Value.oneCell']); simp only [Act.put]))
      have R3 := Row.new wr #[.int .i64 xa, .slice Au xb.length cu] 85
      have hB3 : Below wr.heap.size wr (wr.alloc (.cells #[.int .i64 xa, .slice Au xb.length cu] 85)) := below_alloc (Below.refl _ _) _
      have hf3 : FR [] [] base wr (wr.alloc (.cells #[.int .i64 xa, .slice Au xb.length cu] 85)) := FR.of_below hB3 (by omega)
      have hsg : wr.heap.size < (wr.alloc (.cells #[.int .i64 xa, .slice Au xb.length cu] 85)).heap.size := by simp
      generalize wr.alloc (.cells #[.int .i64 xa, .slice Au xb.length cu] 85) = w3 at *
      have hD3 := hDj.fr hf3
      have hu3 := hu.keep hf3.dr (by simp)
      have hru3 := hru.below hB3 (Nat.le_refl _)
      have hr3 := hrj.trans (hf3.dr.less (S' := dTy) (by simp))
      have hch3 := HKEEP.out w3 hr3
      clear hce hDj hB3 hu hru hchj hrj hf3
      by_cases hjn : j < nc
      · obtain ⟨ad, rfl, hc1⟩ := hch3.int_at hjn
        have hcj : chs ch j = ch[j]?.getD 0 % 3 ∧ -9223372036854775808 ≤ ch[j]?.getD 0 ∧ ch[j]?.getD 0 ≤ 9223372036854775807 := by
          have hjl : j < ch.length := by rw [HLC.out]; exact hjn
          unfold chs
          rw [List.getElem?_eq_getElem hjl]
          exact ⟨rfl, HCI.out _ (List.getElem_mem hjl)⟩
        generalize ch[j]?.getD 0 = cv at *
        obtain ⟨hcj, hcv1, hcv2⟩ := hcj
        have hcm := chs_mod cv ⟨hcv1, hcv2⟩
        rw [← hcj] at hcm
        have ht1 : -2 ≤ cv.tmod 3 ∧ cv.tmod 3 ≤ 2 := by
          have a1 := Int.tmod_lt_of_pos cv (show (0 : Int) < 3 by decide)
          have a2 := Int.lt_tmod_of_pos cv (show (0 : Int) < 3 by decide)
          omega
        obtain ⟨ht1, ht2⟩ := ht1
        have hjn' : (j : Int) < (nc : Int) := by omega
        clear hcj hcv1 hcv2 hch3
        have hP := HP.out
        clear HP
        rcases chs_range ch j with h0 | h0 | h0
        · have hP0 := hP.1 h0
          rw [h0] at hcm
          clear hP h0
          go_upto_region 8 with (fail)
          have hrow3 := hD3.row
          obtain ⟨f, hf, hbt⟩ := hD3.st.out
          have hnS : (D.cpart ch j).cS < 10000000 := by show D.cS + j < 10000000; omega
          have HW := HWX
          (refine wp_region_linG (FR [] [] base) (wayF [] [] base) [(0, true), (1, true), (2, true), (3, true), (4, true), (5, true), (6, true), (7, true), (8, false)] rfl rfl (by kernel_rfl) (by kernel_rfl) (fun _ _ _ _ _ h => h) ?_; (iterate 9 (first | (apply linG_take; (simp only [List.getElem?_toArray, List.getElem?_cons_succ, List.getElem?_cons_zero]; rfl); (rfl); (intro w' hb'; (try have k1 := FR.cell hb' hrow3 (by simp) (j := 2) rfl); (try have k2 := FR.cell hb' R3 (by simp) (j := 0) rfl); (try have k3 := FR.cell hb' R3 (by simp) (j := 1) rfl); (first | (go_simp; done) | (go_simp; with_reducible rfl) | (go_simp; go_bits; with_reducible rfl) | (go_simp; go_bits; done))); try simp only [Act.put, List.setIfInBounds_toArray, List.set_cons_zero, List.set_cons_succ]) | (apply linG_skip; (simp only [List.getElem?_toArray, List.getElem?_cons_succ, List.getElem?_cons_zero]; rfl); (rfl); try simp only [Act.put, List.setIfInBounds_toArray, List.set_cons_zero, List.set_cons_succ]) | (apply linG_pass (wayF [] [] base); (simp only [List.getElem?_toArray, List.getElem?_cons_succ, List.getElem?_cons_zero]; rfl); (rfl); try simp only [Act.put, List.setIfInBounds_toArray, List.set_cons_zero, List.set_cons_succ]) | (apply linG_last; (simp only [List.getElem?_toArray, List.getElem?_cons_succ, List.getElem?_cons_zero]; rfl); (rfl); (kernel_rfl); intro K hK; (first | (refine wp_putI rfl rfl rfl rfl (hf.below (W' := w3.drew) rfl) hnS HW.out ?_; intro w4 hm4 hg4) | (go_simp; (first | skip))); refine hK _ _ trivial ?_; clear hK; try simp only [Act.put, List.setIfInBounds_toArray, List.set_cons_zero, List.set_cons_succ]) | (apply linG_op; (simp only [List.getElem?_toArray, List.getElem?_cons_succ, List.getElem?_cons_zero]; rfl); (rfl); intro K hK; (first | (refine wp_putI rfl rfl rfl rfl (hf.below (W' := w3.drew) rfl) hnS HW.out ?_; intro w4 hm4 hg4) | (go_simp; (first | skip))); refine hK _ _ ?_ ?_; (first | exact hdr2 | assumption | (first | exact rg_alloc (by simp; omega) (by simp; omega) _ | exact FR.of_below (below_alloc (Below.refl _ _) _) (by first | assumption | (simp; omega)) | exact DR.of_below (below_alloc (Below.refl _ _) _) (by first | assumption | (simp; omega)))); clear hK; try simp only [Act.put, List.setIfInBounds_toArray, List.set_cons_zero, List.set_cons_succ]))); (try refine linG_end ?_))
          have hf4 : FR [] [mS] base w3 w4 := FR.trans (FR.refl _ _ _ _).drew (FR.of_map hg4 (hf.below (W' := w3.drew) rfl).isMap hD3.hS (by simp))
          have hD4 := hD3.putS hbt hu3 hm4 hf4
          rw [← hP0] at hD4
          have hall := hr3.trans (hf4.dr.less (by simp))
          clear hf hbt hm4 hg4 hD3 hrow3 R3 hf4 hu3 hP0
          go_wp2
          exact ⟨⟨j + 1, by omega, by go_num, hD4, hall⟩, by simp [intOf]; omega⟩
        · have hP0 := hP.2.2 h0
          rw [h0] at hcm
          clear hP h0
          go_wp2
          exact ⟨⟨j + 1, by omega, by go_num, by rw [hP0]; exact hD3.moreS, hr3⟩, by simp [intOf]; omega⟩
        · have hP0 := hP.2.1 h0
          rw [h0] at hcm
          clear hP h0
          have c31 := R3.cell 1 rfl
          go_upto_region 11 with (go_at_call 65; refine (c_clone _ _ _ xb w3 hru3 (by omega)).mono ?_; rintro e w4 ⟨v4, rfl, ho4, hb4⟩; obtain ⟨A4, c4, rfl, -⟩ := ho4.form)
          have hlx2 : (xb.length : Int) ≤ 60000 := by omega
          clear c31
          go_wp2
          go_loopw [50] (fun i wq => ∃ k : Nat, k ≤ xb.length ∧ i = .int .i64 (k : Int) ∧ OwnB wq w3.heap.size 5 (.slice A4 xb.length c4) (garL (xb.take k) ++ xb.drop k) ∧ Below w3.heap.size w3 wq) (fun i _ => xb.length - (intOf i).toNat)
          case atStart => exact ⟨0, Nat.zero_le _, rfl, by simpa [garL] using ho4, hb4⟩
          case round =>
            obtain ⟨k, hk0, rfl, ho5, hb5⟩ := hrel
            have hll : (garL (xb.take k) ++ xb.drop k).length = xb.length := by rw [List.length_append, garL_length, List.length_take, List.length_drop]; omega
            have hs5 := hb5.size
            clear ho4 hb4
            by_cases hkl : k < xb.length
            · obtain ⟨g4, rfl, hg4, -⟩ := ho5.at_ (by omega)
              obtain ⟨ce, fz⟩ := ho5.cell (k := k) (by omega)
              rw [garble_at xb k hkl] at ce
              have hset := ho5.set (k := k) (by omega) (xb[k] ^^^ 165)
              rw [c_garble_step xb k hkl] at hset
              have hxr := xor165 xb[k]
              generalize xb[k] ^^^ 165 = y at *
              generalize xb[k] = x0 at *
              have hx0 : 0 ≤ (x0.toNat : Int) ∧ (x0.toNat : Int) < 256 := by have := x0.toNat_lt; omega
              obtain ⟨hx0, hx1⟩ := hx0
              have hkl2 : (k : Int) < (xb.length : Int) := by omega
              clear ho5 hll
              go_wp2
              exact ⟨⟨k + 1, by omega, by go_num, hset, hb5.setCell (by omega) _⟩, by simp [intOf]; omega⟩
            · obtain rfl : k = xb.length := by omega
              rw [List.take_length, List.drop_length, List.append_nil] at ho5
              have hf5 : FR [] [] base w3 _ := FR.of_below hb5 (by have := hr3.below.size; omega)
              have hD5 := hD3.fr hf5
              have hu5 : BytesAt _ base (.slice A4 xb.length c4) (garL xb) := BytesAt.of_own ho5
              have R5 := R3.below hb5 hsg
              have hr5 := hr3.trans (hf5.dr.less (S' := dTy) (by simp))
              clear hkl hll ho5 hb5 hf5 hD3 hu3 hru3 R3 hr3
              go_upto_region 16 with (fail)
              have hrow5 := hD5.row
              obtain ⟨f, hf, hbt⟩ := hD5.st.out
              have hnS : (D.cpart ch j).cS < 10000000 := by show D.cS + j < 10000000; omega
              have HW := HWX
              (refine wp_region_linG (FR [] [] base) (wayF [] [] base) [(0, true), (1, true), (2, true), (3, true), (4, true), (5, true), (6, true), (7, false)] rfl rfl (by kernel_rfl) (by kernel_rfl) (fun _ _ _ _ _ h => h) ?_; (iterate 8 (first | (apply linG_take; (simp only [List.getElem?_toArray, List.getElem?_cons_succ, List.getElem?_cons_zero]; rfl); (rfl); (intro w' hb'; (try have k1 := FR.cell hb' hrow5 (by simp) (j := 2) rfl); (try have k2 := FR.cell hb' R5 (by simp) (j := 0) rfl); (try have k3 := FR.cell hb' R5 (by simp) (j := 1) rfl); (first | (go_simp; done) | (go_simp; with_reducible rfl) | (go_simp; go_bits; with_reducible rfl) | (go_simp; go_bits; done))); try simp only [Act.put, List.setIfInBounds_toArray, List.set_cons_zero, List.set_cons_succ]) | (apply linG_skip; (simp only [List.getElem?_toArray, List.getElem?_cons_succ, List.getElem?_cons_zero]; rfl); (rfl); try simp only [Act.put, List.setIfInBounds_toArray, List.set_cons_zero, List.set_cons_succ]) | (apply linG_pass (wayF [] [] base); (simp only [List.getElem?_toArray, List.getElem?_cons_succ, List.getElem?_cons_zero]; rfl); (rfl); try simp only [Act.put, List.setIfInBounds_toArray, List.set_cons_zero, List.set_cons_succ]) | (apply linG_last; (simp only [List.getElem?_toArray, List.getElem?_cons_succ, List.getElem?_cons_zero]; rfl); (rfl); (kernel_rfl); intro K hK; (first | (refine wp_putI rfl rfl rfl rfl (hf.below (W' := World.drew _) rfl) hnS HW.out ?_; intro w4 hm4 hg4) | (go_simp; (first | skip))); refine hK _ _ trivial ?_; clear hK; try simp only [Act.put, List.setIfInBounds_toArray, List.set_cons_zero, List.set_cons_succ]) | (apply linG_op; (simp only [List.getElem?_toArray, List.getElem?_cons_succ, List.getElem?_cons_zero]; rfl); (rfl); intro K hK; (first | (refine wp_putI rfl rfl rfl rfl (hf.below (W' := World.drew _) rfl) hnS HW.out ?_; intro w4 hm4 hg4) | (go_simp; (first | skip))); refine hK _ _ ?_ ?_; (first | exact hdr2 | assumption | (first | exact rg_alloc (by simp; omega) (by simp; omega) _ | exact FR.of_below (below_alloc (Below.refl _ _) _) (by first | assumption | (simp; omega)) | exact DR.of_below (below_alloc (Below.refl _ _) _) (by first | assumption | (simp; omega)))); clear hK; try simp only [Act.put, List.setIfInBounds_toArray, List.set_cons_zero, List.set_cons_succ]))); (try refine linG_end ?_))
              have hf4 : FR [] [mS] base wr w4 := FR.trans (FR.refl _ _ _ _).drew (FR.of_map hg4 (hf.below (W' := World.drew _) rfl).isMap hD5.hS (by simp))
              have hD4 := hD5.putS hbt hu5 hm4 hf4
              rw [← hP0] at hD4
              have hall := hr5.trans (hf4.dr.less (by simp))
              clear hf hbt hm4 hg4 hD5 hrow5 R5 hf4 hu5 hP0
              go_wp2
              exact ⟨⟨j + 1, by omega, by go_num, hD4, hall⟩, by simp [intOf]; omega⟩
      · have h0 : chs ch j = 0 := by
          unfold chs
          rw [List.getElem?_eq_none (by rw [HLC.out]; omega)]
        have hP0 := HP.out.1 h0
        have hjn' : ¬ (j : Int) < (nc : Int) := by omega
        clear h0 HP hch3
        go_upto_region 8 with (fail)
        have hrow3 := hD3.row
        obtain ⟨f, hf, hbt⟩ := hD3.st.out
        have hnS : (D.cpart ch j).cS < 10000000 := by show D.cS + j < 10000000; omega
        have HW := HWX
        (refine wp_region_linG (FR [] [] base) (wayF [] [] base) [(0, true), (1, true), (2, true), (3, true), (4, true), (5, true), (6, true), (7, true), (8, false)] rfl rfl (by kernel_rfl) (by kernel_rfl) (fun _ _ _ _ _ h => h) ?_; (iterate 9 (first | (apply linG_take; (simp only [List.getElem?_toArray, List.getElem?_cons_succ, List.getElem?_cons_zero]; rfl); (rfl); (intro w' hb'; (try have k1 := FR.cell hb' hrow3 (by simp) (j := 2) rfl); (try have k2 := FR.cell hb' R3 (by simp) (j := 0) rfl); (try have k3 := FR.cell hb' R3 (by simp) (j := 1) rfl); (first | (go_simp; done) | (go_simp; with_reducible rfl) | (go_simp; go_bits; with_reducible rfl) | (go_simp; go_bits; done))); try simp only [Act.put, List.setIfInBounds_toArray, List.set_cons_zero, List.set_cons_succ]) | (apply linG_skip; (simp only [List.getElem?_toArray, List.getElem?_cons_succ, List.getElem?_cons_zero]; rfl); (rfl); try simp only [Act.put, List.setIfInBounds_toArray, List.set_cons_zero, List.set_cons_succ]) | (apply linG_pass (wayF [] [] base); (simp only [List.getElem?_toArray, List.getElem?_cons_succ, List.getElem?_cons_zero]; rfl); (rfl); try simp only [Act.put, List.setIfInBounds_toArray, List.set_cons_zero, List.set_cons_succ]) | (apply linG_last; (simp only [List.getElem?_toArray, List.getElem?_cons_succ, List.getElem?_cons_zero]; rfl); (rfl); (kernel_rfl); intro K hK; (first | (refine wp_putI rfl rfl rfl rfl (hf.below (W' := w3.drew) rfl) hnS HW.out ?_; intro w4 hm4 hg4) | (go_simp; (first | skip))); refine hK _ _ trivial ?_; clear hK; try simp only [Act.put, List.setIfInBounds_toArray, List.set_cons_zero, List.set_cons_succ]) | (apply linG_op; (simp only [List.getElem?_toArray, List.getElem?_cons_succ, List.getElem?_cons_zero]; rfl); (rfl); intro K hK; (first | (refine wp_putI rfl rfl rfl rfl (hf.below (W' := w3.drew) rfl) hnS HW.out ?_; intro w4 hm4 hg4) | (go_simp; (first | skip))); refine hK _ _ ?_ ?_; (first | exact hdr2 | assumption | (first | exact rg_alloc (by simp; omega) (by simp; omega) _ | exact FR.of_below (below_alloc (Below.refl _ _) _) (by first | assumption | (simp; omega)) | exact DR.of_below (below_alloc (Below.refl _ _) _) (by first | assumption | (simp; omega)))); clear hK; try simp only [Act.put, List.setIfInBounds_toArray, List.set_cons_zero, List.set_cons_succ]))); (try refine linG_end ?_))
        have hf4 : FR [] [mS] base w3 w4 := FR.trans (FR.refl _ _ _ _).drew (FR.of_map hg4 (hf.below (W' := w3.drew) rfl).isMap hD3.hS (by simp))
        have hD4 := hD3.putS hbt hu3 hm4 hf4
        rw [← hP0] at hD4
        have hall := hr3.trans (hf4.dr.less (by simp))
        clear hf hbt hm4 hg4 hD3 hrow3 R3 hf4 hu3 hP0
        go_wp2
        exact ⟨⟨j + 1, by omega, by go_num, hD4, hall⟩, by simp [intOf]; omega⟩
    · obtain rfl : j = D.loose.length := by omega
      have hrow := hDj.row
      have fz := hrow.free
      have c2 := hrow.cell 2 rfl
      clear hchj
      go_upto_region 18 with (fail)
      have hmm := @run_makeMap Try.prog
      obtain ⟨f, hf, hbt⟩ := hDj.st.out
      obtain ⟨D0, ho0, hD0⟩ := hf.out
      have hrowA := hrow.alloc (.map #[] 0)
      have c3 := hrowA.cell 3 rfl
      have fz3 := hrowA.free 3
      have hmA := (MapI.new wr).below (W' := (wr.alloc (.map #[] 0)).setCell ⟨b, 3, none⟩ (.map (some wr.heap.size))) (heap_setCell_other _ _ _ _ (by have := hrow.lt; show wr.heap.size ≠ b; omega))
      have hf1 : FR [82] [] base wr ((wr.alloc (.map #[] 0)).setCell ⟨b, 3, none⟩ (.map (some wr.heap.size))) :=
        (FR.of_below (below_alloc (Below.refl _ _) _) (by omega)).trans (FR.of_upd (upd_cell hrowA _) hrowA (by decide) hDj.hb)
      have hrow1 := hrowA.set 3 (.map (some wr.heap.size))
      have hst1 := hDj.st.fr hf1 (by decide) (by simp) (Nat.le_refl _)
      have hlo1 := hDj.lo.fr hf1 (by decide) (by decide)
      have htr1 := hDj.tr.fr hf1 (by decide) (by decide)
      have hbt1 := fun i => (hbt i).keep hf1.dr (by decide)
      have ho1 : ((wr.alloc (.map #[] 0)).setCell ⟨b, 3, none⟩ (.map (some wr.heap.size))).ownsMap Try.prog 3 selfR mS (D.cpart ch D.loose.length).cS D0 := by
        obtain ⟨es, cl, q1, q2, q3, q4⟩ := ho0
        exact ⟨es, cl, (hf1.maps mS es cl q1 (by simp)).trans q1, q2, q3, q4⟩
      have hall1 := hrj.trans (hf1.dr.less (S' := dTy) (by decide))
      have hs1 := hall1.below.size
      have hmN : wr.heap.size ≠ mS := by have := hDj.st.out; obtain ⟨f', hf', _⟩ := this; have := hf'.lt; omega
      have hbN : base ≤ wr.heap.size := by omega
      have hb2 := hDj.hb
      have hbS := hDj.hS
      have hlt1 : wr.heap.size < ((wr.alloc (.map #[] 0)).setCell ⟨b, 3, none⟩ (.map (some wr.heap.size))).heap.size := by simp
      clear hDj hrow hf hbt ho0 hrj fz c2
      go_upto_region 19 with (fail)
      generalize hgM : wr.heap.size = mN2 at *
      generalize (wr.alloc (.map #[] 0)).setCell ⟨b, 3, none⟩ (.map (some mN2)) = w1 at *
      clear hrowA c3 fz3 hf1 hgM
      replace hrow1 : Row w1 b #[.int .i64 D.blocks, .int .i64 D.size, .map (some mS), .map (some mN2), .slice A D.loose.length c, .int .i64 D.after, .bool D.off, tv] 82 := hrow1
      have c21 := hrow1.cell 2 rfl
      go_wp2_with (at_range; refine wpList_range_own _ rfl _ 79 rfl 3 22 (Maps.int_keyed Try.underlying3) Try.underlying79 _ mS _ D0 rfl ho1 ?_; intro w0 hrg0 hg0 hs0)
      go_frame
      have hf0 : FR [] [mN2] base w1 w0 := FR.of_none hg0 (by omega)
      have hm0 : MapI w0 mN2 0 (fun i => if Maps.has D0 (kI i) = true then .slice none 0 0 else f i) := by
        have h0 := hmA.below (W' := w0) (hg0.block mN2 hlt1 (by simp))
        have e : (fun _ => Value.slice none 0 0 : Int → Value) = (fun i => if Maps.has D0 (kI i) = true then .slice none 0 0 else f i) := by
          funext i
          split
          · rfl
          · rename_i hh
            have := hD0 i
            rw [Maps.atKey_of_not_has (by simpa using hh)] at this
            simpa using this
        rwa [e] at h0
      have hcS : (D.cpart ch D.loose.length).cS ≤ 1800000 := by show D.cS + D.loose.length ≤ 1800000; omega
      have hne21 : w1.heap.size ≠ mN2 := by omega
      go_loopw [9] (fun _ wq => ∃ (left : Lit → Bool) (cnt n : Nat), wq.ranges Try.prog 3 selfR mS w1.heap.size (D.cpart ch D.loose.length).cS D0 left cnt ∧ n + cnt ≤ (D.cpart ch D.loose.length).cS ∧ MapI wq mN2 n (fun i => if left (kI i) = true then .slice none 0 0 else f i) ∧ FR [] [mN2] base w1 wq) (fun _ wq => wq.rangeLeft mS w1.heap.size)
      case atStart => exact ⟨_, _, 0, hrg0, by have := ranges_cnt hrg0; omega, hm0, hf0⟩
      case round =>
        obtain ⟨left, cnt, n, hrg, hnc2, hmq, hfq⟩ := hrel
        clear hrg0 hm0 hf0 hmA ho1 c21 hg0
        have hrowq := hfq.row hrow1 (by simp)
        have hsq := hfq.size
        go_wp2_with (at_next; refine wpList_next_ranges _ rfl _ rfl 3 (Maps.int_keyed Try.underlying3) selfR (Value.int .i64) (fun v => v) (fun key kl hkey => by obtain ⟨x, rfl, _⟩ := Maps.keyOf_int_inv Try.underlying3 hkey; exact ⟨x, rfl⟩) (fun v y _ => ⟨v, rfl⟩) mS w1.heap.size _ D0 left cnt rfl hrg ?_ ?_)
        · intro hc0 hl0
          have e : (fun i => if left (kI i) = true then Value.slice none 0 0 else f i) = f := by
            funext i
            rw [hl0 (kI i)]
            rfl
          rw [e] at hmq
          have c4 := hrowq.cell 4 rfl
          have c5 := hrowq.cell 5 rfl
          have c6 := hrowq.cell 6 rfl
          have fz := hrowq.free
          have hR4 := ((hrowq.set 4 (.slice none 0 0)).set 6 (.bool false)).set 5 (.int .i64 (-1))
          have hf4 : FR [82] [] base _ (((wr.setCell ⟨b, 4, none⟩ (.slice none 0 0)).setCell ⟨b, 6, none⟩ (.bool false)).setCell ⟨b, 5, none⟩ (.int .i64 (-1))) :=
            ((FR.of_upd (upd_cell hrowq (j := 4) (.slice none 0 0)) hrowq (by decide) hb2).trans (FR.of_upd (upd_cell (hrowq.set 4 (.slice none 0 0)) (j := 6) (.bool false)) (hrowq.set 4 (.slice none 0 0)) (by decide) hb2)).trans
              (FR.of_upd (upd_cell ((hrowq.set 4 (.slice none 0 0)).set 6 (.bool false)) (j := 5) (.int .i64 (-1))) ((hrowq.set 4 (.slice none 0 0)).set 6 (.bool false)) (by decide) hb2)
          have hst4 := (hst1.fr hfq (by simp) (by simp; omega) (Nat.le_refl _)).fr hf4 (by decide) (by simp) (Nat.le_refl _)
          have htr4 := (htr1.fr hfq (by simp) (by simp)).fr hf4 (by decide) (by decide)
          have hnw4 : MapB _ base mN2 (D.cpart ch D.loose.length).cS (D.cpart ch D.loose.length).stable := ⟨⟨f, (hmq.mono (n' := (D.cpart ch D.loose.length).cS) (by omega)).below (hf4.maps mN2 _ _ hmq.isMap.choose_spec.choose_spec (by simp)), fun i => ((hbt1 i).keep hfq.dr (by simp)).keep hf4.dr (by decide)⟩⟩
          have hlo4 : LooseAt (((wr.setCell ⟨b, 4, none⟩ (.slice none 0 0)).setCell ⟨b, 6, none⟩ (.bool false)).setCell ⟨b, 5, none⟩ (.int .i64 (-1))) base (.slice none 0 0) [] := ⟨[], rfl, fun k u x h => by simp at h, ⟨by simp, .inl ⟨rfl, rfl⟩⟩⟩
          have hall4 := hall1.trans ((hfq.dr.less (S' := dTy) (by simp)).trans (hf4.dr.less (S' := dTy) (by decide)))
          have hd4 : DiskAt _ base b { D with stable := crashF D ch D.loose.length, now := crashF D ch D.loose.length, cS := D.cS + D.loose.length, cN := D.cS + D.loose.length, loose := [], off := false, after := -1 } :=
            ⟨⟨mS, mN2, _, tv, hR4, hb2, hbS, hbN, Ne.symm hmN, hst4, hnw4, hlo4, htr4⟩⟩
          have hlnT := hk.ln
          clear hrg hmq hl0 hc0 hst1 htr1 hlo1 hbt1 hrow1 hfq hrowq hR4 hf4 hst4 htr4 hnw4 hlo4
          go_upto_region 24 with (fail)
          generalize hW4 : ((wr.setCell ⟨b, 4, none⟩ (.slice none 0 0)).setCell ⟨b, 6, none⟩ (.bool false)).setCell ⟨b, 5, none⟩ (.int .i64 (-1)) = w4 at *
          clear hW4 c4 c5 c6 fz
          go_wp2_with fail
          refine (c_diskNote w4 base b _ 4 0 (.slice none 0 0) (.slice none 0 0) [] [] hd4 (BytesAt.nil_ _ _) (BytesAt.nil_ _ _) (by have := hall4.below.size; omega) (Nat.le_trans hlnT (by decide))).mono ?_
          rintro e w5 ⟨rfl, hd5, hr5⟩
          go_wp2
          refine bodyPost_end (by simp [results, Try.results29]) rfl ⟨rfl, hd5, hall4.trans hr5⟩
        · intro x cv kl ya yb w2 cnt2 hkey hlk hR hat hrg2 hlt2 hg2 hs2 hen
          have hinv := Maps.keyOf_int_inv Try.underlying3 hkey
          obtain ⟨x', ex, ekl, hwx⟩ := hinv
          cases ex
          subst ekl
          have hcv : f x = cv := by
            have h1 := hat (.held (.slice none 0 0))
            unfold selfR at hR
            simp only [Option.some.injEq, Prod.mk.injEq] at hR
            rw [← hR.1] at h1
            have h2 := hD0 x
            unfold kI at h2
            rw [h2] at h1
            simpa using h1
          have hf2 : FR [] [mN2] base _ w2 := FR.of_iter hg2 (ranges_iter hrg) (by omega)
          have hrow2 := hf2.row hrowq (by simp)
          have hm2 := hmq.below (W' := w2) (hg2.block mN2 hmq.lt (by simp; omega))
          have c23 := hrow2.cell 3 rfl
          have hnn : n < 10000000 := by omega
          go_wp2_with (at_mapUpdate; refine wpl_putI (u := cv) rfl rfl rfl rfl rfl hm2 hnn hwx ?_; intro w3 hm3 hg3)
          have hrg3 := hrg2.kept hg3 (by simp; omega) (by simp; omega)
          have hf3 : FR [] [mN2] base w2 w3 := FR.of_map hg3 hm2.isMap hbN (by simp)
          have hm3' : MapI w3 mN2 (n + 1) (fun i => if (left (kI i) && !(kI i).sameKey (.int .i64 x)) = true then .slice none 0 0 else f i) := by
            have e : updI (fun i => if left (kI i) = true then Value.slice none 0 0 else f i) x cv = (fun i => if (left (kI i) && !(kI i).sameKey (.int .i64 x)) = true then .slice none 0 0 else f i) := by
              funext i
              unfold updI
              have hsk : (kI i).sameKey (.int .i64 x) = decide (i = x) := same_int i x
              rw [hsk]
              by_cases hix : i = x
              · subst hix
                simp [hcv]
              · simp [hix]
            rwa [e] at hm3
          have hfall := hfq.trans (hf2.trans hf3)
          clear hm3 hg3 hm2 hf2 hf3 hrow2 hrowq hmq hfq c23 hen hg2 hkey hlk hR hat
          go_roundw
          case rel => exact ⟨_, _, _, _, _, _, _, _, _, _, _, _, _, ⟨_, _, n + 1, hrg3, by omega, hm3', hfall⟩, rfl⟩
          case measure => rw [hrg3.left_eq, hrg.left_eq]; omega
end Go.Proofs.Ytlbpmboknmbcgaa
