/- Contracts of the device: Flush. -/
import Derived.Test.YtlbpmboknmbcgaaDiskW
set_option linter.unusedVariables false
set_option linter.unusedSimpArgs false
namespace Go.Proofs.Ytlbpmboknmbcgaa
open Go.RowKit

theorem flatMap_at {α : Type} (f : α → List Value) (n : Nat) : ∀ (L : List α) (j i : Nat) (p : α), (∀ q, (f q).length = n) → L[j]? = some p → i < n → (L.flatMap f)[n * j + i]? = (f p)[i]?
  | [], j, i, p, _, h, _ => by cases h
  | q :: L, j, i, p, hf, h, hi => by
    rw [List.flatMap_cons]
    cases j with
    | zero =>
      cases h
      rw [List.getElem?_append_left (by rw [hf]; omega), Nat.mul_zero, Nat.zero_add]
    | succ j =>
      rw [List.getElem?_append_right (by rw [hf, Nat.mul_succ]; omega), hf, show n * (j + 1) + i - n = n * j + i by rw [Nat.mul_succ]; omega]
      exact flatMap_at f n L j i p hf h hi
/-- the device's parts by name -/
structure DiskW (W : World) (base b : Nat) (D : Dk) (mS mN : Nat) (lv tv : Value) : Prop where
  row : Row W b #[.int .i64 D.blocks, .int .i64 D.size, .map (some mS), .map (some mN), lv, .int .i64 D.after, .bool D.off, tv] 82
  hb : base ≤ b
  hS : base ≤ mS
  hN : base ≤ mN
  ne : mS ≠ mN
  st : MapB W base mS D.cS D.stable
  nw : MapB W base mN D.cN D.now
  lo : LooseAt W base lv D.loose
  tr : TraceAt W base tv D.trace
theorem DiskAt.parts {W : World} {base b : Nat} {D : Dk} (h : DiskAt W base b D) : ∃ mS mN lv tv, DiskW W base b D mS mN lv tv := by
  obtain ⟨mS, mN, lv, tv, h1, h2, h3, h4, h5, h6, h7, h8, h9⟩ := h.out
  exact ⟨mS, mN, lv, tv, h1, h2, h3, h4, h5, h6, h7, h8, h9⟩
theorem DiskW.at_ {W : World} {base b : Nat} {D : Dk} {mS mN : Nat} {lv tv : Value} (h : DiskW W base b D mS mN lv tv) : DiskAt W base b D :=
  ⟨⟨mS, mN, lv, tv, h.row, h.hb, h.hS, h.hN, h.ne, h.st, h.nw, h.lo, h.tr⟩⟩
theorem DiskW.fr {W W' : World} {base b : Nat} {D : Dk} {mS mN : Nat} {lv tv : Value} (h : DiskW W base b D mS mN lv tv) (hf : FR [] [] base W W') : DiskW W' base b D mS mN lv tv :=
  ⟨hf.row h.row (by simp), h.hb, h.hS, h.hN, h.ne, h.st.fr hf (by simp) (by simp) (Nat.le_refl _), h.nw.fr hf (by simp) (by simp) (Nat.le_refl _), h.lo.fr hf (by simp) (by simp), h.tr.fr hf (by simp) (by simp)⟩
/-- a block put into the stable map -/
theorem DiskW.putS {W W' : World} {base b : Nat} {D : Dk} {mS mN : Nat} {lv tv u : Value} {i : Int} {xs : List UInt8} {f : Int → Value} (h : DiskW W base b D mS mN lv tv) (hbt : ∀ j, BytesAt W base (f j) (D.stable j)) (hu : BytesAt W base u xs)
    (hm : MapI W' mS (D.cS + 1) (updI f i u)) (hf : FR [] [mS] base W W') : DiskW W' base b { D with stable := fun j => if j = i then xs else D.stable j, cS := D.cS + 1 } mS mN lv tv :=
  ⟨hf.row h.row (by simp), h.hb, h.hS, h.hN, h.ne, ⟨⟨_, hm, fun j => by
      show BytesAt W' base (updI f i u j) (if j = i then xs else D.stable j)
      unfold updI
      split
      · exact hu.keep hf.dr (by simp)
      · exact (hbt j).keep hf.dr (by simp)⟩⟩, h.nw.fr hf (by simp) (by simp [Ne.symm h.ne]) (Nat.le_refl _), h.lo.fr hf (by simp) (by simp), h.tr.fr hf (by simp) (by simp)⟩
theorem LooseAt.elem {W : World} {base : Nat} {lv : Value} {l : List (Int × List UInt8)} (h : LooseAt W base lv l) {j : Nat} {x : Int × List UInt8} (hx : l[j]? = some x) :
    ∃ g cap u, lv = .slice (some ⟨g, 0, none⟩) l.length cap ∧ BytesAt W base u x.2 ∧ ∀ i v, [Value.int .i64 x.1, u][i]? = some v → W.cell? ((⟨g, j * 2, none⟩ : Addr).add i) = some v := by
  obtain ⟨vs, a1, a2, a3⟩ := h
  have hj : j < l.length := (List.getElem?_eq_some_iff.1 hx).1
  rcases a3.2 with ⟨_, h0⟩ | ⟨g, cap, cur, rfl, _⟩
  · omega
  · have hu : vs[j]? = some vs[j] := List.getElem?_eq_getElem (by omega)
    refine ⟨g, cap, vs[j], rfl, a2 j _ x hu hx, fun i v hv => ?_⟩
    have hi : i < 2 := by
      rcases Nat.lt_or_ge i 2 with h | h
      · exact h
      · rw [List.getElem?_eq_none (by simpa using h)] at hv; cases hv
    have hz : (l.zip vs)[j]? = some (x, vs[j]) := by rw [List.getElem?_zip_eq_some]; exact ⟨hx, hu⟩
    have hc := World.ownsRow.cells a3 (g := g) rfl (2 * j + i) v (by rw [flatMap_at _ 2 _ j i _ (fun _ => rfl) hz hi]; exact hv)
    rw [ad_none] at hc ⊢
    rw [Nat.zero_add] at hc
    rw [Nat.mul_comm j 2]
    exact hc
/-- the writes laid into the blocks, in order -/
def layL (m : Int → List UInt8) : List (Int × List UInt8) → Int → List UInt8
  | [] => m
  | x :: l => layL (fun j => if j = x.1 then x.2 else m j) l
theorem layL_snoc (m : Int → List UInt8) (l : List (Int × List UInt8)) (x : Int × List UInt8) : layL m (l ++ [x]) = fun j => if j = x.1 then x.2 else layL m l j := by
  induction l generalizing m with
  | nil => rfl
  | cons y l ih => exact ih _
/-- a flush that is done -/
def Dk.flush (D : Dk) : Dk := { D.step.noted ⟨3, 0, headL [], []⟩ with stable := layL D.stable D.loose, cS := D.cS + D.loose.length, loose := [] }
theorem c_flushNo (W : World) (base b : Nat) (D : Dk) (h : DiskAt W base b D) (hg : D.goes = true) :
    Calls Try.prog 21 #[.pointer (some ⟨b, 0, none⟩)] W fun e w' => e = gonePanic ∧ DiskAt w' base b D.dead ∧ DR dTy base W w' := by
  have hc := c_countNo W base b D h hg
  go_enter Try.func21, Try.ntmps21
  go_wp2_with fail
  refine hc.mono ?_
  rintro e w' ⟨rfl, hd, hr⟩
  exact ⟨rfl, rfl, hd, hr⟩
/-- the device with j of its writes flushed -/
def Dk.part (D : Dk) (j : Nat) : Dk := { D with stable := layL D.stable (D.loose.take j), cS := D.cS + j }
theorem Dk.part_succ (D : Dk) (j : Nat) (x : Int × List UInt8) (hx : D.loose[j]? = some x) : D.part (j + 1) = { D.part j with stable := fun i => if i = x.1 then x.2 else (D.part j).stable i, cS := (D.part j).cS + 1 } := by
  unfold Dk.part
  rw [List.take_add_one, hx]
  simp only [Option.toList_some]
  rw [layL_snoc]
  rfl
set_option maxHeartbeats 2000000 in
set_option maxRecDepth 100000 in
theorem c_flushYes (W : World) (base b : Nat) (D : Dk) (h : DiskAt W base b D) (hg : D.goes = false) (hk : DkOk D) (hB : base ≤ W.heap.size) (hw : ∀ x ∈ D.loose, (Lit.int .i64 x.1).wf = true) :
    Calls Try.prog 21 #[.pointer (some ⟨b, 0, none⟩)] W fun e w' => e = .returned (.tuple #[]) ∧ DiskAt w' base b D.flush ∧ DR dTy base W w' := by
  have hc := c_countYes W base b D h hg hk.af
  have hkS : DkOk D.step := ⟨hk.lo, hk.hi, hk.bl, hk.bh, hk.ln, hk.ll, hk.cs, hk.cn, by unfold Dk.step; simp only; have := hk.af; split <;> omega⟩
  clear h
  go_enter Try.func21, Try.ntmps21
  go_wp2_with fail
  refine hc.mono ?_
  rintro e w1 ⟨rfl, hd1, hr1⟩
  have hs1 := hr1.below.size
  clear hc
  go_wp2_with fail
  refine (c_diskNote w1 base b D.step 3 0 (.slice none 0 0) (.slice none 0 0) [] [] hd1 (BytesAt.nil_ _ _) (BytesAt.nil_ _ _) (by omega) (Nat.le_trans hkS.ln (by decide))).mono ?_
  rintro e w2 ⟨rfl, hd2, hr2⟩
  have hfin : D.flush = { (D.step.noted ⟨3, 0, headL [], []⟩).part D.loose.length with loose := [] } := by
    unfold Dk.flush Dk.part
    show _ = _
    simp [Dk.noted, Dk.step]
  have hloE : (D.step.noted ⟨3, 0, headL [], []⟩).loose = D.loose := rfl
  have hlo6 := hk.ll
  have hcs6 := hk.cs
  have hcsE : (D.step.noted ⟨3, 0, headL [], []⟩).cS = D.cS := rfl
  have hr12 := hr1.trans hr2
  have hs2 := hr12.below.size
  have HFIN := Lib.hid hfin
  generalize D.step.noted ⟨3, 0, headL [], []⟩ = D2 at *
  rw [← hloE] at hw hlo6
  rw [← hcsE] at hcs6
  have HLE := Lib.hid hloE
  clear hfin hloE hcsE hd1 hr1 hr2 hs1 hkS hk
  obtain ⟨mS, mN, lv, tv, hD⟩ := hd2.parts
  have c4 := hD.row.cell 4 rfl
  have hlo := hD.lo
  have hform : ∃ A c, lv = .slice A D2.loose.length c := by
    obtain ⟨vs, a1, a2, a3⟩ := hlo
    obtain ⟨A, c, e, -, -⟩ := own_form a3
    exact ⟨A, c, e⟩
  obtain ⟨A, c, rfl⟩ := hform
  go_wp2
  go_loopw [13] (fun i wr => ∃ j : Nat, j ≤ D2.loose.length ∧ i = .int .i64 (j : Int) ∧ DiskW wr base b (D2.part j) mS mN (.slice A D2.loose.length c) tv ∧ DR dTy base W wr) (fun i _ => D2.loose.length - (intOf i).toNat)
  case atStart => exact ⟨0, Nat.zero_le _, rfl, hD, hr12⟩
  case round =>
    obtain ⟨j, hj, rfl, hDj, hrj⟩ := hrel
    have hsj := hrj.below.size
    clear hD hlo c4 hd2 hr12
    by_cases hlt : j < D2.loose.length
    · have hx : D2.loose[j]? = some D2.loose[j] := List.getElem?_eq_getElem hlt
      have hpart := D2.part_succ j _ hx
      have hwx := hw _ (List.getElem_mem hlt)
      generalize D2.loose[j] = x at *
      obtain ⟨xa, xb⟩ := x
      obtain ⟨g, cap, u, hlv, hu, hce⟩ := hDj.lo.elem (show (D2.part j).loose[j]? = some (xa, xb) from hx)
      simp only [Value.slice.injEq] at hlv
      obtain ⟨rfl, -, rfl⟩ := hlv
      have HW := Lib.hid hwx
      have HP := Lib.hid hpart
      have hln0 : D2.loose.length ≤ 900000 := hlo6
      obtain ⟨Au, nu, cu, hu2⟩ : ∃ Au nu cu, u = .slice Au nu cu := by obtain ⟨A, c, e, _⟩ := hu; exact ⟨_, _, _, e⟩
      subst hu2
      clear hwx hpart hx
      go_upto_region 5 with (first | (apply wpl_loadR (ty := 85) [.int .i64 xa, .slice Au nu cu]; rfl; rfl; rfl; kernel_rfl; kernel_rfl; exact hce) | (apply wpl_storeN; rfl; rfl; rfl; (first | rfl | simp); rfl; kernel_rfl; rfl; (simp [Value.oneCell']); simp only [Act.put]))
      have R3 := Row.new wr #[.int .i64 xa, .slice Au nu cu] 85
      have hB3 : Below wr.heap.size wr (wr.alloc (.cells #[.int .i64 xa, .slice Au nu cu] 85)) := below_alloc (Below.refl _ _) _
      have hf3 : FR [] [] base wr (wr.alloc (.cells #[.int .i64 xa, .slice Au nu cu] 85)) := FR.of_below hB3 (by omega)
      generalize wr.alloc (.cells #[.int .i64 xa, .slice Au nu cu] 85) = w3 at *
      have hD3 := hDj.fr hf3
      have hu3 := hu.keep hf3.dr (by simp)
      have hrow3 := hD3.row
      obtain ⟨f, hf, hbt⟩ := hD3.st.out
      have hnS : (D2.part j).cS < 10000000 := by show D2.cS + j < 10000000; omega
      clear hce hDj hB3 hu
      (refine wp_region_linG (FR [] [] base) (wayF [] [] base) [(0, true), (1, true), (2, true), (3, true), (4, true), (5, true), (6, true), (7, true), (8, false)] rfl rfl (by kernel_rfl) (by kernel_rfl) (fun _ _ _ _ _ h => h) ?_; (iterate 9 (first | (apply linG_take; (simp only [List.getElem?_toArray, List.getElem?_cons_succ, List.getElem?_cons_zero]; rfl); (rfl); (intro w' hb'; (try have k1 := FR.cell hb' hrow3 (by simp) (j := 2) rfl); (try have k2 := FR.cell hb' R3 (by simp) (j := 0) rfl); (try have k3 := FR.cell hb' R3 (by simp) (j := 1) rfl); (first | (go_simp; done) | (go_simp; with_reducible rfl) | (go_simp; go_bits; with_reducible rfl) | (go_simp; go_bits; done))); try simp only [Act.put, List.setIfInBounds_toArray, List.set_cons_zero, List.set_cons_succ]) | (apply linG_skip; (simp only [List.getElem?_toArray, List.getElem?_cons_succ, List.getElem?_cons_zero]; rfl); (rfl); try simp only [Act.put, List.setIfInBounds_toArray, List.set_cons_zero, List.set_cons_succ]) | (apply linG_pass (wayF [] [] base); (simp only [List.getElem?_toArray, List.getElem?_cons_succ, List.getElem?_cons_zero]; rfl); (rfl); try simp only [Act.put, List.setIfInBounds_toArray, List.set_cons_zero, List.set_cons_succ]) | (apply linG_last; (simp only [List.getElem?_toArray, List.getElem?_cons_succ, List.getElem?_cons_zero]; rfl); (rfl); (kernel_rfl); intro K hK; (first | (refine wp_putI rfl rfl rfl rfl (hf.below (W' := w3.drew) rfl) hnS HW.out ?_; intro w4 hm4 hg4) | (go_simp; (first | skip))); refine hK _ _ trivial ?_; clear hK; try simp only [Act.put, List.setIfInBounds_toArray, List.set_cons_zero, List.set_cons_succ]) | (apply linG_op; (simp only [List.getElem?_toArray, List.getElem?_cons_succ, List.getElem?_cons_zero]; rfl); (rfl); intro K hK; (first | (refine wp_putI rfl rfl rfl rfl (hf.below (W' := w3.drew) rfl) hnS HW.out ?_; intro w4 hm4 hg4) | (go_simp; (first | skip))); refine hK _ _ ?_ ?_; (first | exact hdr2 | assumption | (first | exact rg_alloc (by simp; omega) (by simp; omega) _ | exact FR.of_below (below_alloc (Below.refl _ _) _) (by first | assumption | (simp; omega)) | exact DR.of_below (below_alloc (Below.refl _ _) _) (by first | assumption | (simp; omega)))); clear hK; try simp only [Act.put, List.setIfInBounds_toArray, List.set_cons_zero, List.set_cons_succ]))); (try refine linG_end ?_))
      have hf4 : FR [] [mS] base w3 w4 := FR.trans (FR.refl _ _ _ _).drew (FR.of_map hg4 (hf.below (W' := w3.drew) rfl).isMap hD3.hS (by simp))
      have hD4 := hD3.putS hbt hu3 hm4 hf4
      have hall := hrj.trans ((hf3.dr.less (by simp)).trans (hf4.dr.less (by simp)))
      clear hf hbt hm4 hg4 hD3 hrow3 R3 hf3 hf4 hu3
      go_wp2
      exact ⟨⟨j + 1, by omega, by go_num, by rw [HP.out]; exact hD4, hall⟩, by simp [intOf]; omega⟩
    · obtain rfl : j = D2.loose.length := by omega
      have hrow := hDj.row
      have fz := hrow.free 4
      have c4 := hrow.cell 4 rfl
      have hu5 := upd_cell (j := 4) hrow (Value.slice none 0 0)
      go_wp2
      have hlo' : LooseAt wr base (.slice none 0 0) [] := ⟨[], rfl, fun k u x h => by simp at h, ⟨by simp, .inl ⟨rfl, rfl⟩⟩⟩
      have ht := disk_turn (D := { D2.part D2.loose.length with loose := [] }) hrow hu5 hDj.hb hDj.st hDj.nw hlo' hDj.tr
      refine bodyPost_end (by simp [results, Try.results21]) rfl ⟨rfl, ?_, hrj.trans ht.1⟩
      rw [HFIN.out, ← HLE.out]
      exact ⟨⟨mS, mN, _, tv, hu5.row, hDj.hb, hDj.hS, hDj.hN, hDj.ne, ht.2.1, ht.2.2.1, ht.2.2.2.1, ht.2.2.2.2⟩⟩
end Go.Proofs.Ytlbpmboknmbcgaa
