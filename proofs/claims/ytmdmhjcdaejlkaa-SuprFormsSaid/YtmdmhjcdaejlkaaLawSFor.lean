/- The walk of SuprForms. -/
import Derived.Test.YtmdmhjcdaejlkaaSForA
set_option linter.unusedVariables false
set_option linter.unusedSimpArgs false
namespace Go.Proofs.Ytmdmhjcdaejlkaa
open Go.RowKit

theorem andNot1_u64 (i : Nat) (h : i < 18446744073709551616) : bits .andNot .u64 (i : Int) 1 = ((i / 2 * 2 : Nat) : Int) := by
  show IntKind.u64.wrap ((BitVec.ofInt 64 (i : Int) &&& ~~~BitVec.ofInt 64 ((1 : Nat) : Int)).toNat : Int) = _
  rw [BitVec.toNat_and, BitVec.toNat_not, ofInt_u64 i (by omega), ofInt_u64 1 (by omega)]
  have e : 2 ^ 64 - 1 - 1 = 18446744073709551614 := by decide
  rw [e, nat_hi64_1, Nat.mod_eq_of_lt (by omega)]
  exact IntWalk.u64_in _ ⟨by omega, by omega⟩
theorem or1_u64 (i : Nat) (h : i < 18446744073709551616) : bits .or .u64 (i : Int) 1 = ((i / 2 * 2 + 1 : Nat) : Int) := by
  show IntKind.u64.wrap ((BitVec.ofInt 64 (i : Int) ||| BitVec.ofInt 64 ((1 : Nat) : Int)).toNat : Int) = _
  rw [BitVec.toNat_or, ofInt_u64 i (by omega), ofInt_u64 1 (by omega), Go.Lib.or_one_nat]
  exact IntWalk.u64_in _ ⟨by omega, by omega⟩
theorem epNf_par {e i : Nat} (he : e < 18446744073709551616) (h : e % 2 ≠ i) : epN (textL e) i = none := epN_no fun hc => by rw [nOf_text he] at hc; exact h hc.2
theorem epNf_len {b : List UInt8} {i : Nat} (h : b.length ≠ 13) : epN b i = none := epN_no fun hc => h (by rw [hc.1, textL_length])
theorem epNf_first {t : List UInt8} {i : Nat} {x : UInt8} (h : x ≠ 101) : epN (x :: t) i = none := epN_no fun hc => by
  have h1 : (x :: t)[0]? = (textL (nOf (x :: t)))[0]? := by rw [← hc.1]
  have h2 : ∀ k, (textL k)[0]? = some 101 := fun k => rfl
  rw [h2] at h1
  exact h (by simpa using h1)
theorem texts_none {O E : Nat} (hO : O < 18446744073709551616) (hE : E < 18446744073709551616) (h2 : E % 2 = 0) {k : Nat} {xs : List UInt8} (hk : (textsF (leP O 8) ((leP O 8).take 7) (leP E 8))[k]? = some xs) : epN xs 1 = none ∧ xs.length ≤ 14 := by
  have l1 : (leP O 8).length = 8 := leP_length _ _
  have l2 : (leP E 8).length = 8 := leP_length _ _
  have hm := List.mem_of_getElem? hk
  unfold textsF at hm
  simp only [List.mem_cons, List.not_mem_nil, or_false] at hm
  rcases hm with rfl | rfl | rfl | rfl | rfl | rfl | rfl | rfl
  · exact ⟨epNf_len (by decide), by decide⟩
  · exact ⟨epNf_len (by decide), by decide⟩
  · exact ⟨epNf_len (by simp [l1]), by simp [l1]⟩
  · exact ⟨epNf_len (by simp [l1]), by simp [l1]⟩
  · exact ⟨epNf_first (x := 69) (by decide), by simp [l1]⟩
  · exact ⟨epNf_par (e := E) hE (by omega), by simp [l2]⟩
  · exact ⟨epNf_len (by simp [l1]), by simp [l1]⟩
  · exact ⟨epNf_first (x := 0) (by decide), by decide⟩
theorem sf_last {key X : List UInt8} {D : Dk} {E seq : Nat} (hs : D.size = 50) (hh : D.has 1 = true) (h0 : epAt key D ((0 : Nat) : Int) 0 = some E) (hX : X.length ≤ 14) (hq : seq < 18446744073709551616) :
    epLast key (D.write 1 (sealL key 1 seq X 50)) ((0 : Nat) : Int) = maxO (some E) (epN X 1) := by
  have hl : (sealL key 1 seq X 50).length = 50 := sealL_length (by omega)
  have hop : openL key (sealL key 1 seq X 50) = some X := openL_sealL (by omega) (by decide)
  have hat := seal_at (D := D) (q := 1) (s := 50) hh hs hl
  have e1 : epAt key (D.write 1 (sealL key 1 seq X 50)) ((0 : Nat) : Int) 1 = epN X 1 := by
    unfold epAt
    rw [show ((0 : Nat) : Int) + ((1 : Nat) : Int) = 1 from rfl, hat, hop]
    rfl
  have e0 : epAt key (D.write 1 (sealL key 1 seq X 50)) ((0 : Nat) : Int) 0 = some E := by
    rw [← h0]
    unfold epAt
    rw [write_at_ne (by decide)]
  unfold epLast
  rw [e0, e1]
theorem row_typeQ {W : World} {g : Nat} {c c' : Array Value} {T T' : TypeId} (h : Row W g c T) (h' : Row W g c' T') : T = T' := by
  have e := h.symm.trans h'
  simp only [Option.some.injEq, Obj.cells.injEq] at e
  exact e.2.1
theorem OwnB.pr {W W' : World} {base B g : Nat} {v : Value} {xs : List UInt8} {c : Array Value} (h : OwnB W B 5 v xs) (hp : PR g base W W') (hr : Row W g c 95) : OwnB W' B 5 v xs := by
  refine ⟨h.1, ?_⟩
  rcases h.2 with h | ⟨k, cap, cur, hv, hg, hh, r⟩
  · exact .inl h
  · exact .inr ⟨k, cap, cur, hv, hg, hp.2 k cur 5 hh (by decide) (fun hx => by subst hx; exact absurd (row_typeQ hr hh) (by decide)), r⟩
set_option maxHeartbeats 8000000 in
set_option maxRecDepth 100000 in
theorem w_sfor0 (key : List UInt8) (hk : key.length = 32) (e : Nat) (he : e < 18446744073709551616) (wh : Int) (w : World) :
    Calls Try.prog 5 #[.agg (bv key).toArray, .int .u64 (e : Int), .int .i64 wh] w fun e w' => e = .returned (.bool true) ∧ Below w.heap.size w w' := by
  have HK := Lib.hid hk
  have r0 := Row.new w (bv key).toArray 22
  have hB0 := below_alloc (Below.refl w.heap.size w) (.cells (bv key).toArray 22)
  have hlB : w.heap.size < (w.alloc (.cells (bv key).toArray 22)).heap.size := by simp
  have hm255 := m255 wh
  obtain ⟨j, hj⟩ : ∃ j : Nat, wh % 256 = (j : Int) := ⟨(wh % 256).toNat, by omega⟩
  obtain ⟨ix, hix⟩ : ∃ ix : Nat, j % 8 = ix := ⟨_, rfl⟩
  have hix8 : ix < 8 := by omega
  have hjm : (j : Int).tmod 8 = (ix : Int) := by rw [Int.tmod_eq_emod_of_nonneg (by omega)]; omega
  have hjm2 : (j : Int) % 8 = (ix : Int) := by omega
  rw [hj] at hm255
  have hanot := andNot1_u64 e he
  obtain ⟨E, hE⟩ : ∃ E : Nat, e / 2 * 2 = E := ⟨_, rfl⟩
  have hor := or1_u64 E (by omega)
  rw [hE] at hanot
  obtain ⟨O, hO⟩ : ∃ O : Nat, E + 1 = O := ⟨_, rfl⟩
  rw [show E / 2 * 2 + 1 = O by omega] at hor
  have hEO : E < 18446744073709551616 ∧ O < 18446744073709551616 ∧ E % 2 = 0 ∧ O % 2 = 1 ∧ E < O := by omega
  have HEO := Lib.hid hEO
  clear hk he hj hix hE hO hEO
  go_enter Try.func5, Try.ntmps5
  go_upto_region 1 with fail
  generalize w.alloc (.cells (bv key).toArray 22) = w0 at *
  generalize hBs : w0.heap.size = bs at *
  have HNW := Lib.hid (i_new 3 50 w0 (by decide) (by decide))
  rw [hBs] at HNW
  clear hBs
  go_upto_region 2 with (go_at_call 17; (with_reducible refine HNW.out.mono ?_); rintro e w1 ⟨b, rfl, hI, hb1⟩)
  have r1 := r0.below hb1 (by omega)
  have hB1 := hB0.trans (hb1.mono (Nat.le_of_lt hlB))
  have hn1 := p_new b key HK.out 1 (by decide) w1
  simp only [show ((1 : Nat) : Int) = 1 from rfl] at hn1
  have HN1 := Lib.hid hn1
  clear hn1
  go_upto_region 5 with (first | (first | (apply wpl_loadS (ty := 22); rfl; rfl; rfl; kernel_rfl; exact r1; (simp only [List.size_toArray, bv_length, HK.out]; kernel_rfl); simp only [Act.put, List.setIfInBounds_toArray, List.set_cons_zero, List.set_cons_succ])) | (go_at_call 18; (with_reducible refine HN1.out.mono ?_); rintro e w2 ⟨g, rfl, hP, hg, hb2⟩))
  have hgb : bs ≤ g := Nat.le_trans hI.le hg
  have hI2 := hI.below hb2
  have r2 := r1.below hb2 r1.lt
  have hB2 := below_two hB1 hb2
  clear HNW HN1 hI hb1 hB0 r0 r1 hB1 hb2 hg
  obtain ⟨bo, hbo⟩ : ∃ bo, (openL key (List.replicate 50 0)).isSome = bo := ⟨_, rfl⟩
  have HBK := Lib.hid (c_blank10 key HK.out 50 (by decide) 50 rfl bo hbo w2)
  have HBO := Lib.hid hbo
  clear hbo
  cases bo with
  | true =>
    go_upto_region 6 with (first | (first | (apply wpl_loadS (ty := 22); rfl; rfl; rfl; kernel_rfl; exact r2; (simp only [List.size_toArray, bv_length, HK.out]; kernel_rfl); simp only [Act.put, List.setIfInBounds_toArray, List.set_cons_zero, List.set_cons_succ])) | (go_at_call 30; (with_reducible refine HBK.out.mono ?_); rintro e w3 ⟨rfl, hb3⟩))
    have q3 := r2.below hb3 r2.lt
    have hB3 := below_two hB2 hb3
    clear HBK r2 hP hI2 hB2 hb3 HBO
    go_wp2_with (go_at_call 31; (with_reducible refine (c_awake10 _).mono ?_); rintro e w4 ⟨rfl, hb4⟩)
    go_ret
    exact ⟨rfl, below_two hB3 hb4⟩
  | false =>
    have hbn : openL key (List.replicate 50 0) = none := by
      have hbo := HBO.out
      cases h : openL key (List.replicate 50 0) with
      | none => rfl
      | some x => rw [h] at hbo; cases hbo
    have HBN := Lib.hid hbn
    clear HBO hbn
    go_upto_region 7 with (first | (first | (apply wpl_loadS (ty := 22); rfl; rfl; rfl; kernel_rfl; exact r2; (simp only [List.size_toArray, bv_length, HK.out]; kernel_rfl); simp only [Act.put, List.setIfInBounds_toArray, List.set_cons_zero, List.set_cons_succ])) | (go_at_call 30; (with_reducible refine HBK.out.mono ?_); rintro e w3 ⟨rfl, hb3⟩))
    have hP3 := hP.below hb3 hP.lt
    have hI3 := hI2.below hb3
    have hB3 := below_two hB2 hb3
    clear HBK r2 hP hI2 hB2 hb3
    have hfr : Free (dkNew 3 50) := ⟨rfl, rfl⟩
    have hco := c_commit hP3 hI3 (by decide) hgb hfr 0 E (by decide) HEO.out.1 (by decide) (by decide)
    simp only [show ((0 : Nat) : Int) = 0 from rfl] at hco
    have h0 : epAt key (comD (dkNew 3 50) key 1 0 0 E) ((0 : Nat) : Int) 0 = some E := by
      rw [epAt_com (s := 50) rfl (by decide) (by decide) (by rw [Nat.zero_add, HEO.out.2.2.1]; rfl) HEO.out.1, if_pos HEO.out.2.2.1.symm]
    have hz : (comD (dkNew 3 50) key 1 0 0 E).size = 50 := by rw [comD_size]; rfl
    have hh : (comD (dkNew 3 50) key 1 0 0 E).has 1 = true := by rw [comD_has]; rfl
    have hfr1 : Free (comD (dkNew 3 50) key 1 0 0 E) := comD_free hfr
    have HCO := Lib.hid hco
    clear hco hfr hP3 hI3
    generalize comD (dkNew 3 50) key 1 0 0 E = D0 at *
    go_upto_region 10 with (go_at_call 32; (with_reducible refine HCO.out.mono ?_); rintro r w4 ⟨rfl, hI4, hP4, hp4⟩)
    have hB4 := hB3.trans (hp4.1.mono (Nat.le_of_lt hlB))
    clear HCO hp4 hB3
    have HPT := Lib.hid (c_rPut8 O)
    go_upto_region 11 with (go_at_call 33; (with_reducible refine (HPT.out _).mono ?_); rintro r w5 ⟨A9, c9, rfl, lc9, ho9, hr9, hb5⟩)
    have hI5 := hI4.below hb5
    have hP5 := hP4.below hb5 hP4.lt
    have hB5 := below_two hB4 hb5
    have ho9b := ho9.mono (Nat.zero_le _)
    clear HPT hI4 hP4 hB4 hb5 ho9
    have HXT := Lib.hid (show ∀ (k : Nat) (xs : List UInt8), (textsF (leP O 8) ((leP O 8).take 7) (leP E 8))[k]? = some xs → epN xs 1 = none ∧ xs.length ≤ 14 from fun k xs hk => texts_none HEO.out.2.1 HEO.out.1 HEO.out.2.2.1 hk)
    have hgood : [101, 112, 111, 99, 104] ++ leP O 8 = textL O := rfl
    have hm8 : (leP E 8).length = 8 := leP_length _ _
    have hn8 : (leP O 8).length = 8 := leP_length _ _
    obtain ⟨A5, e5, hr5⟩ := cut_to hr9 lc9 7 7 rfl (by decide)
    have h7l : ((leP O 8).take 7).length = 7 := by rw [List.length_take, hn8]; rfl
    have HPE := Lib.hid (c_rPut8 E)
    have HGD := Lib.hid hgood
    clear hgood
    generalize leP O 8 = n at *
    generalize hn7 : n.take 7 = n7 at *
    generalize leP E 8 = m at *
    clear hn7
    have hl13 : ([101, 112, 111, 99, 104] ++ n).length = 13 := by simp [hn8]
    obtain ⟨B, hBd⟩ : ∃ B, w5.heap.size = B := ⟨_, rfl⟩
    refine wp_region_invF [38, 39, 40, 41, 42, 43, 44, 45, 46, 47, 48, 49, 50, 51, 52, 53, 54, 55, 56, 57, 58, 59, 60, 61, 62, 10] (fun x => by simp only [fillA, Act.put, List.setIfInBounds_toArray, List.set_cons_zero, List.set_cons_succ]; rfl) rfl (by kernel_rfl) (by kernel_rfl) (R0 := Below w5.heap.size) (wayB _) (fun i => RX B 5 13 (i == 12))
      (fun i a b h => by rw [hBd]; exact h.1) (gSF B A9 A5 c9 E n n7 m) (fun i j v a b hji hdp hR hG => ?st) (fun i hi x w1 hw hG => ?step) (fun x w1 hw hG => ?fin)
    case st =>
      refine gSF_st hn8 h7l hm8 _ (fun hb => ?_) hR hG
      have hi : i = 12 := by simpa using hb
      subst hi
      refine ⟨hji, fun h => ?_, fun h => ?_⟩
      · subst h; exact absurd (show depB _ 24 12 = true by kernel_rfl) (by rw [hdp]; decide)
      · subst h; exact absurd (show depB _ 25 12 = true by kernel_rfl) (by rw [hdp]; decide)
    case step =>
      have hwB : B ≤ w1.heap.size := by rw [← hBd]; exact hw.size
      rcases (show i = 0 ∨ i = 1 ∨ i = 2 ∨ i = 3 ∨ i = 4 ∨ i = 5 ∨ i = 6 ∨ i = 7 ∨ i = 8 ∨ i = 9 ∨ i = 10 ∨ i = 11 ∨ i = 12 ∨ i = 13 ∨ i = 14 ∨ i = 15 ∨ i = 16 ∨ i = 17 ∨ i = 18 ∨ i = 19 ∨ i = 20 ∨ i = 21 ∨ i = 22 ∨ i = 23 ∨ i = 24 ∨ i = 25 by have : i < 26 := hi; omega) with rfl | rfl | rfl | rfl | rfl | rfl | rfl | rfl | rfl | rfl | rfl | rfl | rfl | rfl | rfl | rfl | rfl | rfl | rfl | rfl | rfl | rfl | rfl | rfl | rfl | rfl
      · refine inv_op (by simp only [List.getElem?_toArray, List.getElem?_cons_succ, List.getElem?_cons_zero]; rfl) rfl rfl ?_; intro K hK; refine wp_val (v := .slice (some ⟨w1.heap.size, 0, none⟩) 5 5) (w' := w1.alloc (.cells (bv [101, 112, 111, 99, 104]).toArray 5)) (by go_simp; rfl) ?_; exact hK _ _ (RX.of_below (below_alloc (Below.refl _ _) _) hwB) (LitAt.new w1 [101, 112, 111, 99, 104] hwB)
      · obtain ⟨w2, hcv, hg, hx⟩ := LitAt.conv (sm := 5) (lim := 13) (b := false) (show LitAt B w1 (x 0) _ from hG 0 (by kernel_rfl)) (by decide); refine inv_op (by simp only [List.getElem?_toArray, List.getElem?_cons_succ, List.getElem?_cons_zero]; rfl) rfl rfl ?_; intro K hK; refine wp_convRun rfl rfl hcv ?_; exact hK _ _ hx hg
      · refine inv_op (by simp only [List.getElem?_toArray, List.getElem?_cons_succ, List.getElem?_cons_zero]; rfl) rfl rfl ?_; intro K hK; refine wp_val (v := .slice (some ⟨w1.heap.size, 0, none⟩) 5 5) (w' := w1.alloc (.cells (bv [101, 112, 111, 99, 104]).toArray 5)) (by go_simp; rfl) ?_; exact hK _ _ (RX.of_below (below_alloc (Below.refl _ _) _) hwB) (LitAt.new w1 [101, 112, 111, 99, 104] hwB)
      · obtain ⟨w2, hcv, hg, hx⟩ := LitAt.conv (sm := 5) (lim := 13) (b := false) (show LitAt B w1 (x 2) _ from hG 2 (by kernel_rfl)) (by decide); refine inv_op (by simp only [List.getElem?_toArray, List.getElem?_cons_succ, List.getElem?_cons_zero]; rfl) rfl rfl ?_; intro K hK; refine wp_convRun rfl rfl hcv ?_; exact hK _ _ hx hg
      · refine inv_op (by simp only [List.getElem?_toArray, List.getElem?_cons_succ, List.getElem?_cons_zero]; rfl) rfl rfl ?_; intro K hK; refine wp_val (v := .slice A9 8 c9) (w' := w1) (by go_simp) ?_; exact hK _ _ (RX.of_below (Below.refl _ _) hwB) rfl
      · have e4 : x 4 = .slice A9 8 c9 := hG 4 (by kernel_rfl)
        rw [e4]; refine inv_op (by simp only [List.getElem?_toArray, List.getElem?_cons_succ, List.getElem?_cons_zero]; rfl) rfl rfl ?_; intro K hK; refine wp_val (v := .slice A5 7 c9) (w' := w1) (by go_simp) ?_; exact hK _ _ (RX.of_below (Below.refl _ _) hwB) rfl
      · have e5 : x 5 = .slice A5 7 c9 := hG 5 (by kernel_rfl)
        obtain ⟨v2, w2, hrun, ho, hx⟩ := lit_cat (sm := 5) (lim := 13) (b := false) (show LitAt B w1 (x 3) _ from hG 3 (by kernel_rfl)) (c := c9) (Rd.below (show RdB w5.drew A5 7 n7 from hr5) hw (Nat.le_refl _)) (by decide) (by decide) (by decide) hwB
        refine inv_op (by simp only [List.getElem?_toArray, List.getElem?_cons_succ, List.getElem?_cons_zero]; rfl) rfl rfl ?_; intro K hK; refine wp_appRun rfl rfl e5 hrun ?_; exact hK _ _ hx ho
      · refine inv_op (by simp only [List.getElem?_toArray, List.getElem?_cons_succ, List.getElem?_cons_zero]; rfl) rfl rfl ?_; intro K hK; refine wp_val (v := .slice (some ⟨w1.heap.size, 0, none⟩) 5 5) (w' := w1.alloc (.cells (bv [101, 112, 111, 99, 104]).toArray 5)) (by go_simp; rfl) ?_; exact hK _ _ (RX.of_below (below_alloc (Below.refl _ _) _) hwB) (LitAt.new w1 [101, 112, 111, 99, 104] hwB)
      · obtain ⟨w2, hcv, hg, hx⟩ := LitAt.conv (sm := 5) (lim := 13) (b := false) (show LitAt B w1 (x 7) _ from hG 7 (by kernel_rfl)) (by decide); refine inv_op (by simp only [List.getElem?_toArray, List.getElem?_cons_succ, List.getElem?_cons_zero]; rfl) rfl rfl ?_; intro K hK; refine wp_convRun rfl rfl hcv ?_; exact hK _ _ hx hg
      · refine inv_op (by simp only [List.getElem?_toArray, List.getElem?_cons_succ, List.getElem?_cons_zero]; rfl) rfl rfl ?_; intro K hK; refine wp_val (v := .slice A9 8 c9) (w' := w1) (by go_simp) ?_; exact hK _ _ (RX.of_below (Below.refl _ _) hwB) rfl
      · have e9 : x 9 = .slice A9 8 c9 := hG 9 (by kernel_rfl)
        obtain ⟨v2, w2, hrun, ho, hx⟩ := lit_cat (sm := 5) (lim := 13) (b := false) (show LitAt B w1 (x 8) _ from hG 8 (by kernel_rfl)) (c := c9) (Rd.below (show RdB w5.drew A9 8 n from hr9) hw (Nat.le_refl _)) (by decide) (by decide) (by decide) hwB
        refine inv_op (by simp only [List.getElem?_toArray, List.getElem?_cons_succ, List.getElem?_cons_zero]; rfl) rfl rfl ?_; intro K hK; refine wp_appRun rfl rfl e9 hrun ?_; exact hK _ _ hx ho
      · refine inv_op (by simp only [List.getElem?_toArray, List.getElem?_cons_succ, List.getElem?_cons_zero]; rfl) rfl rfl ?_; intro K hK; refine wp_val (v := .slice (some ⟨w1.heap.size, 0, none⟩) 1 1) (w' := w1.alloc (.cells (bv [0]).toArray 5)) (by go_simp; rfl) ?_; exact hK _ _ (RX.of_below (below_alloc (Below.refl _ _) _) hwB) (LitAt.new w1 [0] hwB)
      · obtain ⟨g2, e11, hg2, hr11⟩ := LitAt.rd (show LitAt B w1 (x 11) [0] from hG 11 (by kernel_rfl))
        obtain ⟨v2, w2, hrun, ho, hx⟩ := own_put (sm := 5) (lim := 13) (c := 1) (show OwnB w1 B 5 (x 10) ([101, 112, 111, 99, 104] ++ n) from hG 10 (by kernel_rfl)) hr11 (by rw [hl13]; decide) (by rw [hl13]; decide) (by rw [hl13]; decide) hwB
        refine inv_op (by simp only [List.getElem?_toArray, List.getElem?_cons_succ, List.getElem?_cons_zero]; rfl) rfl rfl ?_; intro K hK; refine wp_appRun rfl rfl e11 hrun ?_; exact hK _ _ hx ho
      · refine inv_op (by simp only [List.getElem?_toArray, List.getElem?_cons_succ, List.getElem?_cons_zero]; rfl) rfl rfl ?_; intro K hK; refine wp_val (v := .slice (some ⟨w1.heap.size, 0, none⟩) 5 5) (w' := w1.alloc (.cells (bv [69, 112, 111, 99, 104]).toArray 5)) (by go_simp; rfl) ?_; exact hK _ _ (RX.of_below (below_alloc (Below.refl _ _) _) hwB) (LitAt.new w1 [69, 112, 111, 99, 104] hwB)
      · obtain ⟨w2, hcv, hg, hx⟩ := LitAt.conv (sm := 5) (lim := 13) (b := false) (show LitAt B w1 (x 13) _ from hG 13 (by kernel_rfl)) (by decide); refine inv_op (by simp only [List.getElem?_toArray, List.getElem?_cons_succ, List.getElem?_cons_zero]; rfl) rfl rfl ?_; intro K hK; refine wp_convRun rfl rfl hcv ?_; exact hK _ _ hx hg
      · refine inv_op (by simp only [List.getElem?_toArray, List.getElem?_cons_succ, List.getElem?_cons_zero]; rfl) rfl rfl ?_; intro K hK; refine wp_val (v := .slice A9 8 c9) (w' := w1) (by go_simp) ?_; exact hK _ _ (RX.of_below (Below.refl _ _) hwB) rfl
      · have e15 : x 15 = .slice A9 8 c9 := hG 15 (by kernel_rfl)
        obtain ⟨v2, w2, hrun, ho, hx⟩ := lit_cat (sm := 5) (lim := 13) (b := false) (show LitAt B w1 (x 14) _ from hG 14 (by kernel_rfl)) (c := c9) (Rd.below (show RdB w5.drew A9 8 n from hr9) hw (Nat.le_refl _)) (by decide) (by decide) (by decide) hwB
        refine inv_op (by simp only [List.getElem?_toArray, List.getElem?_cons_succ, List.getElem?_cons_zero]; rfl) rfl rfl ?_; intro K hK; refine wp_appRun rfl rfl e15 hrun ?_; exact hK _ _ hx ho
      · refine inv_op (by simp only [List.getElem?_toArray, List.getElem?_cons_succ, List.getElem?_cons_zero]; rfl) rfl rfl ?_; intro K hK; refine wp_val (v := .slice (some ⟨w1.heap.size, 0, none⟩) 5 5) (w' := w1.alloc (.cells (bv [101, 112, 111, 99, 104]).toArray 5)) (by go_simp; rfl) ?_; exact hK _ _ (RX.of_below (below_alloc (Below.refl _ _) _) hwB) (LitAt.new w1 [101, 112, 111, 99, 104] hwB)
      · obtain ⟨w2, hcv, hg, hx⟩ := LitAt.conv (sm := 5) (lim := 13) (b := false) (show LitAt B w1 (x 17) _ from hG 17 (by kernel_rfl)) (by decide); refine inv_op (by simp only [List.getElem?_toArray, List.getElem?_cons_succ, List.getElem?_cons_zero]; rfl) rfl rfl ?_; intro K hK; refine wp_convRun rfl rfl hcv ?_; exact hK _ _ hx hg
      · refine inv_op (by simp only [List.getElem?_toArray, List.getElem?_cons_succ, List.getElem?_cons_zero]; rfl) rfl rfl ?_; intro K hK; refine wp_val (v := .int .u64 (E : Int)) (w' := w1) (by go_simp) ?_; exact hK _ _ (RX.of_below (Below.refl _ _) hwB) rfl
      · have e19 : x 19 = .int .u64 (E : Int) := hG 19 (by kernel_rfl)
        rw [e19]; refine inv_op (by simp only [List.getElem?_toArray, List.getElem?_cons_succ, List.getElem?_cons_zero]; rfl) rfl rfl ?_; intro K hK; go_simp; go_at_call 33; (with_reducible refine (HPE.out _).mono ?_); rintro r w2 ⟨A2, c2, rfl, lc2, ho2, hr2, hb2⟩; exact hK (.slice A2 8 c2) _ (RX.of_below hb2 hwB) ⟨A2, c2, rfl, ho2.mono hwB⟩
      · obtain ⟨A2, c2, e20, ho2⟩ := (show ∃ A c, x 20 = .slice A 8 c ∧ OwnB w1 B 5 (x 20) m from hG 20 (by kernel_rfl))
        rw [e20] at ho2
        obtain ⟨v2, w2, hrun, ho, hx⟩ := lit_cat (sm := 5) (lim := 13) (b := false) (show LitAt B w1 (x 18) _ from hG 18 (by kernel_rfl)) (c := c2) (own_rd8 ho2 hm8) (by decide) (by decide) (by decide) hwB
        refine inv_op (by simp only [List.getElem?_toArray, List.getElem?_cons_succ, List.getElem?_cons_zero]; rfl) rfl rfl ?_; intro K hK; refine wp_appRun rfl rfl e20 hrun ?_; exact hK _ _ hx ho
      · refine inv_op (by simp only [List.getElem?_toArray, List.getElem?_cons_succ, List.getElem?_cons_zero]; rfl) rfl rfl ?_; intro K hK; refine wp_val (v := .slice A9 8 c9) (w' := w1) (by go_simp) ?_; exact hK _ _ (RX.of_below (Below.refl _ _) hwB) rfl
      · obtain ⟨w2, hrun, ho, hb2⟩ := run_mkB w1 13 (by decide)
        simp only [show ((13 : Nat) : Int) = 13 from rfl] at hrun
        refine inv_op (by simp only [List.getElem?_toArray, List.getElem?_cons_succ, List.getElem?_cons_zero]; rfl) rfl rfl ?_; intro K hK; refine wp_val (w' := w2) (v := .slice (some ⟨w1.heap.size, 0, none⟩) 13 13) (by go_simp) ?_; exact hK _ _ (RX.of_below hb2 hwB) (ho.mono hwB)
      · have e22 : x 22 = .slice A9 8 c9 := hG 22 (by kernel_rfl)
        obtain ⟨P1, n1, d1, e1, h1⟩ := rdv_lit (hG 1 (by kernel_rfl))
        obtain ⟨P6, n6, d6, e6, h6⟩ := rdv_own (hG 6 (by kernel_rfl))
        obtain ⟨P12, n12, d12, e12, h12⟩ := rdv_own (hG 12 (by kernel_rfl))
        obtain ⟨P16, n16, d16, e16, h16⟩ := rdv_own (hG 16 (by kernel_rfl))
        obtain ⟨P21, n21, d21, e21, h21⟩ := rdv_own (hG 21 (by kernel_rfl))
        obtain ⟨P23, n23, d23, e23, h23⟩ := rdv_own (hG 23 (by kernel_rfl))
        have hrows := rows_new (B := B) w1 (vs := [.slice none 0 0, .slice P1 n1 d1, .slice P6 n6 d6, .slice P12 n12 d12, .slice P16 n16 d16, .slice P21 n21 d21, .slice A9 8 c9, .slice P23 n23 d23]) (xss := textsF n n7 m) hwB rfl (rdv_cons (rdv_nil w1) (rdv_cons (rdv_rd h1) (rdv_cons (rdv_rd h6) (rdv_cons (rdv_rd h12) (rdv_cons (rdv_rd h16) (rdv_cons (rdv_rd h21) (rdv_cons (rdv_rd (Rd.below (show RdB w5.drew A9 8 n from hr9) hw (Nat.le_refl _))) (rdv_cons (rdv_rd h23) (rdvs_nil w1)))))))))
        rw [e1, e6, e12, e16, e21, e22, e23]
        refine inv_op (by simp only [List.getElem?_toArray, List.getElem?_cons_succ, List.getElem?_cons_zero]; rfl) rfl rfl ?_; intro K hK; refine wp_val (v := .slice (some ⟨w1.heap.size, 0, none⟩) 8 8) (w' := w1.alloc (.cells #[.slice none 0 0, .slice P1 n1 d1, .slice P6 n6 d6, .slice P12 n12 d12, .slice P16 n16 d16, .slice P21 n21 d21, .slice A9 8 c9, .slice P23 n23 d23] 24)) (by go_simp) ?_; exact hK _ _ (RX.of_below (below_alloc (Below.refl _ _) _) hwB) hrows
      · refine inv_op (by simp only [List.getElem?_toArray, List.getElem?_cons_succ, List.getElem?_cons_zero]; rfl) rfl rfl ?_; intro K hK; refine wp_val (v := x 24) (w' := w1) (by go_simp) ?_; exact hK _ _ (RX.of_below (Below.refl _ _) hwB) (hG 24 (by kernel_rfl))
    case fin =>
      obtain ⟨gr, vs, e25, hgr, hrow, hvl, hvs⟩ := (show RowsAt B w1 (x 25) (textsF n n7 m) from hG 25 (show 25 < 26 by decide))
      have e25' : x 25 = .slice (some ⟨gr, 0, none⟩) 8 8 := e25
      have hvl8 : vs.length = 8 := hvl
      have hb51 : Below w5.heap.size w5 w1 := ⟨hw.os, hw.tape, hw.output, hw.size, hw.block⟩
      have hI6 := hI5.below hb51
      have hP6 := hP5.below hb51 hP5.lt
      have hB6 := below_two hB5 hb51
      have ho6 := ho9b.below hb51
      obtain ⟨A1, n1, c1, X, hu, hXk, hrx⟩ : ∃ A1 n1 c1 X, vs[ix]? = some (.slice A1 n1 c1) ∧ (textsF n n7 m)[ix]? = some X ∧ RdB w1 A1 n1 X := by
        obtain ⟨xs, h1, A, n1, c1, h2, h3⟩ := hvs ix _ (List.getElem?_eq_getElem (by omega))
        exact ⟨A, n1, c1, xs, by rw [List.getElem?_eq_getElem (by omega), h2], h1, h3⟩
      obtain ⟨hXn, hXl⟩ := HXT.out ix X hXk
      have kc : w1.cell? ⟨gr, ix, none⟩ = some (.slice A1 n1 c1) := hrow.cell ix (by simpa using hu)
      have hxl : X.length = n1 := hrx.len
      rw [e25']
      clear e25 e25' hvl hvs hrow hG hw hb51 hI5 hP5 hB5 ho9b HPE HXT hr5 hr9 e5 hBd hl13 hgr hu hXk hvl8
      have hwr := p_write hP6 hI6 (by decide) hgb hfr1.goes 1 (by decide) A1 n1 c1 X hrx (Nat.zero_le _) (by decide) true (by rw [hz, fitsB_iff]; omega)
      rw [show D0.size.toNat = 50 by rw [hz]; rfl] at hwr
      simp only [if_true] at hwr
      have hl1 := sf_last (key := key) (X := X) (seq := 0 + 1) hz hh h0 hXl (by decide)
      rw [hXn, maxO_none] at hl1
      have e0 : epAt key (D0.write 1 (sealL key 1 (0 + 1) X 50)) ((0 : Nat) : Int) 0 = some E := by
        rw [← h0]
        unfold epAt
        rw [write_at_ne (by decide)]
      have hz1 : (D0.write 1 (sealL key 1 (0 + 1) X 50)).size = 50 := by rw [write_size]; exact hz
      have hh1 : (D0.write 1 (sealL key 1 (0 + 1) X 50)).has 1 = true := by rw [write_has]; exact hh
      have hf1 := hfr1.write 1 (sealL key 1 (0 + 1) X 50)
      have HWR := Lib.hid hwr
      clear hwr hfr1 hz hh h0 hXn hXl hrx hI6
      generalize D0.write 1 (sealL key 1 (0 + 1) X 50) = D1 at *
      go_upto_region 14 with (go_at_call 19; (with_reducible refine HWR.out.mono ?_); rintro r w7 ⟨rfl, hI7, hP7, hp7⟩)
      have hB7 := hB6.trans (hp7.1.mono (Nat.le_of_lt hlB))
      have ho7 := ho6.pr hp7 hP6.row
      have hla := c_lastE hP7 hI7 (by decide) hf1 0 0 rfl (by decide)
      rw [hl1] at hla
      simp only [Option.getD, Option.isSome] at hla
      have h02 : epAt key (readsD D1 ((0 : Nat) : Int) 2) ((0 : Nat) : Int) 0 = some E := by rw [epAt_reads]; exact e0
      have hz2 : (readsD D1 ((0 : Nat) : Int) 2).size = 50 := by rw [reads_size]; exact hz1
      have hh2 : (readsD D1 ((0 : Nat) : Int) 2).has 1 = true := by rw [reads_has]; exact hh1
      have hf2 := hf1.reads ((0 : Nat) : Int) 2
      have HLA := Lib.hid hla
      clear hla HWR hp7 ho6 hB6 hl1 e0 hz1 hh1 hf1 hI7 hP6 kc
      generalize readsD D1 ((0 : Nat) : Int) 2 = D2 at *
      go_upto_region 15 with (go_at_call 34; (with_reducible refine HLA.out.mono ?_); rintro r w8 ⟨rfl, hI8, hP8, hd8⟩)
      have hB8 := hB7.trans (hd8.below.mono (Nat.le_of_lt hlB))
      have ho8 := ho7.dr hd8 (by decide)
      clear HLA ho7 hB7 hd8 hP7
      have hb9 := below_alloc (Below.refl w8.heap.size w8) (.cells #[.int .u8 101, .int .u8 112, .int .u8 111, .int .u8 99, .int .u8 104] 5 (5, 6))
      have hl9 : LitAt w8.heap.size (w8.alloc (.cells #[.int .u8 101, .int .u8 112, .int .u8 111, .int .u8 99, .int .u8 104] 5 (5, 6))) (.slice (some ⟨w8.heap.size, 0, none⟩) 5 5) [101, 112, 111, 99, 104] := ⟨_, (5, 6), rfl, Nat.le_refl _, heap_alloc_new w8 _⟩
      have hcv := Go.Lib.run_convert_bytes_const (P := Try.prog) w8 24 5 #[.int .u8 101, .int .u8 112, .int .u8 111, .int .u8 99, .int .u8 104] 5 5 Try.underlying24 Try.underlying5
      obtain ⟨A', c', ev, -, -, hr8⟩ := (ho8.below hb9).form
      rw [hn8] at ev hr8
      cases ev
      obtain ⟨v9, w9, hrun, ho9, hx9⟩ := lit_cat (sm := 5) (lim := 13) (b := false) hl9 (c := c9) hr8 (by decide) (by decide) (by decide) hb9.size
      rw [HGD.out] at ho9
      obtain ⟨A10, c10, rfl, lc10, -, hr10⟩ := ho9.form
      rw [textL_length] at hr10
      have hb89 : Below w8.heap.size w8 w9 := hb9.trans hx9.1
      have hI9 := hI8.below hb89
      have hP9 := hP8.below hb89 hP8.lt
      have hB9 := below_two hB8 hb89
      have hwr := p_write hP9 hI9 (by decide) hgb hf2.goes 1 (by decide) A10 13 c10 (textL O) hr10 (Nat.zero_le _) (by decide) true (by rw [hz2]; decide)
      rw [show D2.size.toNat = 50 by rw [hz2]; rfl] at hwr
      simp only [if_true] at hwr
      have hl2 := sf_last (key := key) (X := textL O) (seq := 0 + 1 + 1) hz2 hh2 h02 (by rw [textL_length]; decide) (by decide)
      rw [epN_text HEO.out.2.1 HEO.out.2.2.2.1, show maxO (some E) (some O) = some O by unfold maxO; have := HEO.out.2.2.2.2; simp; omega] at hl2
      have hf3 := hf2.write 1 (sealL key 1 (0 + 1 + 1) (textL O) 50)
      have HWR := Lib.hid hwr
      have HHB := Lib.hid hb89
      clear hwr hf2 hz2 hh2 h02 hr10 hI9 hI8 hP8 hb89 hx9 hl9 hb9 hB8 ho8 hr8 lc10
      rw [textL_length] at hrun
      generalize D2.write 1 (sealL key 1 (0 + 1 + 1) (textL O) 50) = D3 at *
      go_upto_region 16 with (first | (at_builtin; refine wpl_appRun' rfl rfl rfl rfl hrun ?_) | (go_at_call 19; (with_reducible refine HWR.out.mono ?_); rintro r w10 ⟨rfl, hI10, hP10, hp10⟩))
      have hB10 := hB9.trans (hp10.1.mono (Nat.le_of_lt hlB))
      have hla := c_lastE hP10 hI10 (by decide) hf3 0 0 rfl (by decide)
      rw [hl2] at hla
      simp only [Option.getD, Option.isSome] at hla
      have HLA := Lib.hid hla
      clear hla HWR hp10 hl2 hf3 hI10 hP10 hB9 hcv hrun
      go_upto_region 17 with (go_at_call 34; (with_reducible refine HLA.out.mono ?_); rintro r w11 ⟨rfl, hI11, hP11, hd11⟩)
      have hB11 := hB10.trans (hd11.below.mono (Nat.le_of_lt hlB))
      clear HLA hd11 hI11 hP11 hB10
      go_wp2_with (go_at_call 31; (with_reducible refine (c_awake10 _).mono ?_); rintro e w12 ⟨rfl, hb12⟩)
      go_ret
      exact ⟨rfl, below_two hB11 hb12⟩
theorem w_SuprForms (y0 : List UInt8) (a1 a2 : Int) (w : World) (w0 : y0.length = 32) (w1 : (Lit.int .u64 a1).wf = true) (w2 : (Lit.int .i64 a2).wf = true) :
    Calls Try.prog 5 #[.agg (bv y0).toArray, .int .u64 a1, .int .i64 a2] w fun e w' => e = .returned (.bool true) ∧ Below w.heap.size w w' := by
  have h1 : 0 ≤ a1 ∧ a1 ≤ 18446744073709551615 := by simpa [Lit.wf, IntKind.min, IntKind.max, IntKind.signed, IntKind.bits] using w1
  obtain ⟨a, rfl⟩ : ∃ k : Nat, a1 = (k : Int) := ⟨a1.toNat, by omega⟩
  exact w_sfor0 y0 w0 a (by omega) a2 w
end Go.Proofs.Ytmdmhjcdaejlkaa
