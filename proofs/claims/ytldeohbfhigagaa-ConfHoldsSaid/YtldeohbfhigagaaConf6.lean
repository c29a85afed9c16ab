/- Contract of conf.Bounds. -/
import Derived.Test.YtldeohbfhigagaaConf5
import Derived.Test.YtldeohbfhigagaaLinK
import Derived.Outline
import Derived.Deep.Cut
import Derived.Lib.Hide
set_option linter.unusedVariables false
set_option linter.unusedSimpArgs false
namespace Go.Proofs.Ytldeohbfhigagaa
open Go.RowKit Flo

theorem c_numbersB (k v c f m l n x z : Int) (fl : Nat) (b : Bool) (w : World) (h : okNums k v c f m l n x z = b) :
    Calls Try.prog 51 #[.agg #[.int .i64 k, .int .i64 v, .int .i64 c, .int .i64 f, .int .i64 m, .int .i64 l, .int .i64 n, .int .i64 x, .int .i64 z, .float .f64 fl]] w fun e w' => e = .returned (.bool b) ∧ Below w.heap.size w w' := by
  subst h; exact c_numbers _ _ _ _ _ _ _ _ _ _ _
theorem bnd_load (W : World) (B : Nat) (g ml hf h nd lv bu ce re bl st ar bs : Int) (H : BndAt W B 56 g ml hf h nd lv bu ce re bl st ar bs) :
    (loadVar 56 ⟨B, 0, none⟩).run Try.prog W = .ok (.agg (bA g ml hf h nd lv bu ce re bl st ar bs)) W :=
  run_loadRow W B _ _ _ 13 H.row (by kernel_rfl) (by kernel_rfl)
theorem bA_one (g ml hf h nd lv bu ce re bl st ar bs : Int) : (bA g ml hf h nd lv bu ce re bl st ar bs).all (·.oneCell') = true := by simp [bA, Value.oneCell']
theorem BndAt.zero (w : World) : BndAt (w.alloc (.cells #[.int .i64 0, .int .i64 0, .int .i64 0, .int .i64 0, .int .i64 0, .int .i64 0, .int .i64 0, .int .i64 0, .int .i64 0, .int .i64 0, .int .i64 0, .int .i64 0, .int .i64 0] 56)) w.heap.size 56 0 0 0 0 0 0 0 0 0 0 0 0 0 := ⟨heap_alloc_last w _⟩
set_option maxHeartbeats 1000000 in
theorem c_bounds0 (k v c f m l n x z : Int) (fl : Nat) (w : World) (h : okNums k v c f m l n x z = false) :
    Calls Try.prog 37 #[.agg #[.int .i64 k, .int .i64 v, .int .i64 c, .int .i64 f, .int .i64 m, .int .i64 l, .int .i64 n, .int .i64 x, .int .i64 z, .float .f64 fl]] w fun e w' =>
      e = .returned (.tuple #[.agg (bA 0 0 0 0 0 0 0 0 0 0 0 0 0), .bool false]) ∧ Below w.heap.size w w' := by
  have hsz : (w.alloc (.cells #[.int .i64 k, .int .i64 v, .int .i64 c, .int .i64 f, .int .i64 m, .int .i64 l, .int .i64 n, .int .i64 x, .int .i64 z, .float .f64 fl] 50)).heap.size = w.heap.size + 1 := by simp
  have HZ0 := BndAt.zero (w.alloc (.cells #[.int .i64 k, .int .i64 v, .int .i64 c, .int .i64 f, .int .i64 m, .int .i64 l, .int .i64 n, .int .i64 x, .int .i64 z, .float .f64 fl] 50))
  rw [hsz] at HZ0
  go_enter Try.func37, Try.ntmps37
  go_wp2_with (first | (go_at_call 51; refine (c_numbersB _ _ _ _ _ _ _ _ _ _ _ _ h).mono ?_; rintro e w1 ⟨rfl, hb1⟩; have HZ := HZ0.keep hb1 (by simp)) | (refine wpl_storeS rfl 56 _ _ rfl (w.heap.size + 1) (bA 0 0 0 0 0 0 0 0 0 0 0 0 0) rfl rfl 56 _ HZ.row (by kernel_rfl) rfl (bA_one _ _ _ _ _ _ _ _ _ _ _ _ _) ?_; intro W1 hW1))
  refine bodyPost_ret (results_cell2 rfl rfl (bnd_load _ _ 0 0 0 0 0 0 0 0 0 0 0 0 0 ⟨hW1.row⟩)) rfl ⟨rfl, ?_⟩
  exact (below_two (below_alloc (below_alloc (Below.refl _ _) _) _) hb1).trans (hW1.below (by omega))

theorem BndAt.set5 {W : World} {B : Nat} {T : TypeId} {g ml hf h nd lv bu ce re bl st ar bs : Int} (H : BndAt W B T g ml hf h nd lv bu ce re bl st ar bs) (y : Int) : BndAt (W.setCell ⟨B, 5, none⟩ (.int .i64 y)) B T g ml hf h nd y bu ce re bl st ar bs := ⟨heap_setCell_same _ _ _ _ _ _ H.row⟩
theorem BndAt.set6 {W : World} {B : Nat} {T : TypeId} {g ml hf h nd lv bu ce re bl st ar bs : Int} (H : BndAt W B T g ml hf h nd lv bu ce re bl st ar bs) (y : Int) : BndAt (W.setCell ⟨B, 6, none⟩ (.int .i64 y)) B T g ml hf h nd lv y ce re bl st ar bs := ⟨heap_setCell_same _ _ _ _ _ _ H.row⟩
theorem BndAt.set7 {W : World} {B : Nat} {T : TypeId} {g ml hf h nd lv bu ce re bl st ar bs : Int} (H : BndAt W B T g ml hf h nd lv bu ce re bl st ar bs) (y : Int) : BndAt (W.setCell ⟨B, 7, none⟩ (.int .i64 y)) B T g ml hf h nd lv bu y re bl st ar bs := ⟨heap_setCell_same _ _ _ _ _ _ H.row⟩
theorem BndAt.set8 {W : World} {B : Nat} {T : TypeId} {g ml hf h nd lv bu ce re bl st ar bs : Int} (H : BndAt W B T g ml hf h nd lv bu ce re bl st ar bs) (y : Int) : BndAt (W.setCell ⟨B, 8, none⟩ (.int .i64 y)) B T g ml hf h nd lv bu ce y bl st ar bs := ⟨heap_setCell_same _ _ _ _ _ _ H.row⟩
theorem BndAt.set9 {W : World} {B : Nat} {T : TypeId} {g ml hf h nd lv bu ce re bl st ar bs : Int} (H : BndAt W B T g ml hf h nd lv bu ce re bl st ar bs) (y : Int) : BndAt (W.setCell ⟨B, 9, none⟩ (.int .i64 y)) B T g ml hf h nd lv bu ce re y st ar bs := ⟨heap_setCell_same _ _ _ _ _ _ H.row⟩
theorem BndAt.set10 {W : World} {B : Nat} {T : TypeId} {g ml hf h nd lv bu ce re bl st ar bs : Int} (H : BndAt W B T g ml hf h nd lv bu ce re bl st ar bs) (y : Int) : BndAt (W.setCell ⟨B, 10, none⟩ (.int .i64 y)) B T g ml hf h nd lv bu ce re bl y ar bs := ⟨heap_setCell_same _ _ _ _ _ _ H.row⟩
theorem BndAt.set11 {W : World} {B : Nat} {T : TypeId} {g ml hf h nd lv bu ce re bl st ar bs : Int} (H : BndAt W B T g ml hf h nd lv bu ce re bl st ar bs) (y : Int) : BndAt (W.setCell ⟨B, 11, none⟩ (.int .i64 y)) B T g ml hf h nd lv bu ce re bl st y bs := ⟨heap_setCell_same _ _ _ _ _ _ H.row⟩
theorem BndAt.set12 {W : World} {B : Nat} {T : TypeId} {g ml hf h nd lv bu ce re bl st ar bs : Int} (H : BndAt W B T g ml hf h nd lv bu ce re bl st ar bs) (y : Int) : BndAt (W.setCell ⟨B, 12, none⟩ (.int .i64 y)) B T g ml hf h nd lv bu ce re bl st ar y := ⟨heap_setCell_same _ _ _ _ _ _ H.row⟩

/-- what a Config that may be needs, of its leaves -/
structure BndIs (k v c f m l n x z : Int) (fl : Nat) (b : Bool) (g ml hf h nd lv bu ce re bl st ar bs : Int) : Prop where
  eG : g = l + 1 - (l + c + 1) / 2
  eM : ml = 1 + x / g
  eH : hf = (f + 1) / 2
  eN : halve hf 600 ml (ml, 1) = (nd, h)
  eL : ∃ kk pk, PartIs nd fl kk pk ∧ LeavesIs kk pk lv b
  eU : bu = 2 * lv - 1
  eC : ce = nodeLong k v f m l
  eR : re = 1 + max (k + v + 5) (2 * k + 8)
  eB : bl = 22 + max (max (z * (8 + ce)) (12 + re)) 16
  eS : st = 12 * nd + 4 + nd * (8 + ce) + (bu + 7) / 8 + c * (k + v + 5) + 45
  eA : ar = (st + bl - 23) / (bl - 22)
  eT : bs = 4 + 2 * ar + n + 2 * bu
def BndAns (k v c f m l n x z : Int) (fl : Nat) (w : World) (e : Ending) (w' : World) : Prop :=
  ∃ b g ml hf h nd lv bu ce re bl st ar bs, BndIs k v c f m l n x z fl b g ml hf h nd lv bu ce re bl st ar bs ∧ Below w.heap.size w w' ∧
    e = .returned (.tuple #[.agg (if b then bA g ml hf h nd lv bu ce re bl st ar bs else bA 0 0 0 0 0 0 0 0 0 0 0 0 0), .bool b])
theorem LeavesIs.pow2 {k y : Int} {pk : Bool} (h : LeavesIs k pk y true) : Pow2 y := by
  obtain ⟨⟨i, hi, hy⟩, _, _, ho⟩ := h
  have ho := ho.symm
  simp only [Bool.and_eq_true, decide_eq_true_eq] at ho
  refine ⟨⟨i, ?_, hy⟩⟩
  have := pow_tbl i (by omega)
  omega
theorem nodeLong_bd {k v c f m l n x z : Int} (h : Good k v c f m l n x z) : 0 ≤ nodeLong k v f m l ∧ nodeLong k v f m l ≤ 10005 := by
  obtain ⟨b0, b1, b2, b3, b4, b5, b6, b7, b8, b9⟩ := h
  have m1a : 0 ≤ l * (k + 2 + v + 2) := Int.mul_nonneg (by omega) (by omega)
  have m1b : l * (k + 2 + v + 2) ≤ 32 * 100 := Int.mul_le_mul b5.2 (by omega) (by omega) (by decide)
  have m2a : 0 ≤ (f - 1) * (k + 2) := Int.mul_nonneg (by omega) (by omega)
  have m2b : (f - 1) * (k + 2) ≤ 7 * 34 := Int.mul_le_mul (by omega) (by omega) (by omega) (by decide)
  have m3a : 0 ≤ m * (k + v + 5) := Int.mul_nonneg (by omega) (by omega)
  have m3b : m * (k + v + 5) ≤ 64 * 101 := Int.mul_le_mul b4.2 (by omega) (by omega) (by decide)
  unfold nodeLong
  omega
set_option maxHeartbeats 4000000 in
theorem c_bounds1 (k v c f m l n x z : Int) (fl : Nat) (w : World) (hf : W64 fl) (h : okNums k v c f m l n x z = true) :
    Calls Try.prog 37 #[.agg #[.int .i64 k, .int .i64 v, .int .i64 c, .int .i64 f, .int .i64 m, .int .i64 l, .int .i64 n, .int .i64 x, .int .i64 z, .float .f64 fl]] w (BndAns k v c f m l n x z fl w) := by
  have hgood := okNums_good h
  have H0 := CfgAt.new w k v c f m l n x z fl 50
  have hsz : (w.alloc (.cells #[.int .i64 k, .int .i64 v, .int .i64 c, .int .i64 f, .int .i64 m, .int .i64 l, .int .i64 n, .int .i64 x, .int .i64 z, .float .f64 fl] 50)).heap.size = w.heap.size + 1 := by simp
  have HZ0 := BndAt.zero (w.alloc (.cells #[.int .i64 k, .int .i64 v, .int .i64 c, .int .i64 f, .int .i64 m, .int .i64 l, .int .i64 n, .int .i64 x, .int .i64 z, .float .f64 fl] 50))
  rw [hsz] at HZ0
  obtain ⟨G, hG⟩ : ∃ G, l + 1 - (l + c + 1) / 2 = G := ⟨_, rfl⟩
  obtain ⟨ml, hml⟩ : ∃ ml, 1 + x / G = ml := ⟨_, rfl⟩
  obtain ⟨hf', hhf⟩ : ∃ hf, (f + 1) / 2 = hf := ⟨_, rfl⟩
  have HG := Lib.hid hG
  have HML := Lib.hid hml
  have HHF := Lib.hid hhf
  clear hG hml hhf hsz
  go_enter Try.func37, Try.ntmps37
  go_upto_region 4 with (first | (go_at_call 51; refine (c_numbersB _ _ _ _ _ _ _ _ _ _ _ _ h).mono ?_; rintro e w1 ⟨rfl, hb1⟩; have HZ1 := HZ0.keep hb1 (by simp); have HC1 := (H0.keep (below_alloc (Below.refl _ _) _) (by simp)).keep hb1 (by simp <;> omega); obtain ⟨g0, g1, g2, g3, g4, g5, g6, g7, g8, g9⟩ := id HC1) | (go_at_call 52; refine (c_shape _ _ _ _ _ _ _ _ _ _ _ _ _ _ hgood HG.out HML.out HHF.out).mono ?_; rintro e w2 ⟨nd, hh, hfin, n0, n1, h0, h1, rfl, hb2⟩))
  clear g0 g1 g2 g3 g4 g5 g6 g7 g8 g9 H0 HZ0
  have hs1 : w.heap.size + 2 ≤ w1.heap.size := by have := hb1.size; simp at this; omega
  have hs2 : w1.heap.size ≤ w2.heap.size := hb2.size
  have HB2 : Below w.heap.size w w2 := below_two (below_two (below_alloc (below_alloc (Below.refl _ _) _) _) hb1) hb2
  have HC2 := HC1.keep hb2 (by omega)
  have HZ2 := HZ1.keep hb2 (by omega)
  clear HC1 HZ1 hb1 hb2
  have HB3 : Below w2.heap.size w2 (w2.alloc (.cells (bA G ml hf' hh nd 0 0 0 0 0 0 0 0) 56)) := below_alloc (Below.refl _ _) _
  have HW3 : BndAt (w2.alloc (.cells (bA G ml hf' hh nd 0 0 0 0 0 0 0 0) 56)) w2.heap.size 56 G ml hf' hh nd 0 0 0 0 0 0 0 0 := ⟨heap_alloc_last w2 _⟩
  have hs3 : w2.heap.size + 1 ≤ (w2.alloc (.cells (bA G ml hf' hh nd 0 0 0 0 0 0 0 0) 56)).heap.size := by simp
  have HE : Hid (w2.alloc (.cells (bA G ml hf' hh nd 0 0 0 0 0 0 0 0) 56) = w2.alloc (.cells #[.int .i64 G, .int .i64 ml, .int .i64 hf', .int .i64 hh, .int .i64 nd, .int .i64 0, .int .i64 0, .int .i64 0, .int .i64 0, .int .i64 0, .int .i64 0, .int .i64 0, .int .i64 0] 56)) := rfl
  generalize w2.alloc (.cells (bA G ml hf' hh nd 0 0 0 0 0 0 0 0) 56) = w3 at HB3 HW3 hs3 HE
  rw [← HE.out]
  clear HE
  have HC3 := HC2.keep HB3 (by omega)
  have HZ3 := HZ2.keep HB3 (by omega)
  have HB3' := HB2.trans (HB3.mono (by omega))
  have hbB : w.heap.size + 2 ≤ w2.heap.size := by omega
  clear HC2 HZ2 HB2 HB3 hs1 hs2
  generalize w2.heap.size = bB at *
  obtain ⟨c0, c1, c2, c3, c4, c5, c6, c7, c8, c9, c10, c11, c12, fz⟩ := HW3.cells
  obtain ⟨g0, g1, g2, g3, g4, g5, g6, g7, g8, g9⟩ := id HC3
  go_upto_region 6 with (go_at_call 53; refine (c_leaves _ _ _ hf (by omega)).mono ?_; rintro e w4 ⟨kk, pk, y, ok, hpk, hle, rfl, hb4⟩; obtain ⟨d0, d1, d2, d3, d4, d5, d6, d7, d8, d9, d10, d11, d12, dz⟩ := (HW3.keep hb4 (by omega)).cells)
  have hs4 : w3.heap.size ≤ w4.heap.size := hb4.size
  have HW5 := (HW3.keep hb4 (by omega)).set5 y
  have HB5 : Below bB w4 (w4.setCell ⟨bB, 5, none⟩ (.int .i64 y)) := below_setB (Below.refl _ _) (Nat.le_refl _) _
  have HC5 := (HC3.keep hb4 (by omega)).keep HB5 (by omega)
  have HZ5 := (HZ3.keep hb4 (by omega)).keep HB5 (by omega)
  have HB5' : Below w.heap.size w (w4.setCell ⟨bB, 5, none⟩ (.int .i64 y)) := (HB3'.trans (hb4.mono (by omega))).trans (HB5.mono (by omega))
  have hs5 : bB + 1 ≤ (w4.setCell ⟨bB, 5, none⟩ (.int .i64 y)).heap.size := by simp; omega
  generalize w4.setCell ⟨bB, 5, none⟩ (.int .i64 y) = w5 at *
  clear c0 c1 c2 c3 c4 c5 c6 c7 c8 c9 c10 c11 c12 fz d0 d1 d2 d3 d4 d5 d6 d7 d8 d9 d10 d11 d12 dz g0 g1 g2 g3 g4 g5 g6 g7 g8 g9 HW3 HC3 HZ3 HB3' hb4 HB5 hs3 hs4
  cases ok with
  | false =>
    go_wp2_with (refine wpl_storeS rfl 56 _ _ rfl (w.heap.size + 1) (bA 0 0 0 0 0 0 0 0 0 0 0 0 0) rfl rfl 56 _ HZ5.row (by kernel_rfl) rfl (bA_one _ _ _ _ _ _ _ _ _ _ _ _ _) ?_; intro W1 hW1)
    refine bodyPost_ret (results_cell2 rfl rfl (bnd_load _ _ 0 0 0 0 0 0 0 0 0 0 0 0 0 ⟨hW1.row⟩)) rfl ?_
    exact ⟨false, _, _, _, _, _, _, _, _, _, _, _, _, _, ⟨HG.out.symm, HML.out.symm, HHF.out.symm, hfin, ⟨_, _, hpk, hle⟩, rfl, rfl, rfl, rfl, rfl, rfl, rfl⟩, HB5'.trans (hW1.below (by omega)), rfl⟩
  | true =>
    have hp2 := hle.pow2
    obtain ⟨_, y1, y2⟩ := hp2.fits
    have hgood' := hgood
    obtain ⟨b0, b1, b2, b3, b4, b5, b6, b7, b8, b9⟩ := hgood'
    have hk : 0 ≤ k ∧ k ≤ 1000 := by omega
    have hv : 0 ≤ v ∧ v ≤ 1000 := by omega
    obtain ⟨c0, c1, c2, c3, c4, c5, c6, c7, c8, c9, c10, c11, c12, fz⟩ := HW5.cells
    obtain ⟨g0, g1, g2, g3, g4, g5, g6, g7, g8, g9⟩ := id HC5
    go_upto_region 9 with (go_at_call 54; refine (c_msgLong _ _ _ _ _ _ _ _ _ _ _ hk hv).mono ?_; rintro e w2 ⟨rfl, hb2⟩)
    have hs6 : bB + 1 ≤ w2.heap.size := by have := hb2.size; omega
    have HB6' := below_two HB5' hb2
    have HW6 := HW5.keep hb2 (by omega)
    have HC6 := HC5.keep hb2 (by omega)
    have HZ6 := HZ5.keep hb2 (by omega)
    clear c0 c1 c2 c3 c4 c5 c6 c7 c8 c9 c10 c11 c12 fz g0 g1 g2 g3 g4 g5 g6 g7 g8 g9 HW5 HC5 HZ5 HB5' hb2 hs5
    obtain ⟨g0, g1, g2, g3, g4, g5, g6, g7, g8, g9⟩ := id HC6
    have hlt : w.heap.size < bB := by omega
    have HW6d : BndAt w2.drew bB 56 G ml hf' hh nd y 0 0 0 0 0 0 0 := ⟨HW6.row⟩
    obtain ⟨c5, c6, c7, fz⟩ := (show _ ∧ _ ∧ _ ∧ _ from ⟨HW6.cells.c5, HW6.cells.c6, HW6.cells.c7, HW6.cells.fz⟩)
    (refine wp_region_linR (RK bB [⟨bB, 5, none⟩]) (wayK bB [⟨bB, 5, none⟩]) [(0, true), (1, true), (3, true), (2, false), (5, true), (4, false), (6, false), (7, true), (8, false)] rfl rfl (by kernel_rfl) (by kernel_rfl) (fun _ _ _ _ _ h => h) ?_; (iterate 9 (first | (apply linR_take; (simp only [List.getElem?_toArray, List.getElem?_cons_succ, List.getElem?_cons_zero]; rfl); (rfl); (intro w' hb'; (try have k_g0 := keepK hb' (by first | exact .inl hlt | exact .inr (by simp)) g0); (try have k_g1 := keepK hb' (by first | exact .inl hlt | exact .inr (by simp)) g1); (try have k_g2 := keepK hb' (by first | exact .inl hlt | exact .inr (by simp)) g2); (try have k_g3 := keepK hb' (by first | exact .inl hlt | exact .inr (by simp)) g3); (try have k_g4 := keepK hb' (by first | exact .inl hlt | exact .inr (by simp)) g4); (try have k_g5 := keepK hb' (by first | exact .inl hlt | exact .inr (by simp)) g5); (try have k_g6 := keepK hb' (by first | exact .inl hlt | exact .inr (by simp)) g6); (try have k_g7 := keepK hb' (by first | exact .inl hlt | exact .inr (by simp)) g7); (try have k_g8 := keepK hb' (by first | exact .inl hlt | exact .inr (by simp)) g8); (try have k_g9 := keepK hb' (by first | exact .inl hlt | exact .inr (by simp)) g9); (try have k_c5 := keepK hb' (by first | exact .inl hlt | exact .inr (by simp)) c5); (first | (go_simp; done) | (go_simp; with_reducible rfl) | (go_simp; go_bits; with_reducible rfl) | (go_simp; go_bits; done))); try simp only [Act.put, List.setIfInBounds_toArray, List.set_cons_zero, List.set_cons_succ]) | (apply linR_skip; (simp only [List.getElem?_toArray, List.getElem?_cons_succ, List.getElem?_cons_zero]; rfl); (rfl); try simp only [Act.put, List.setIfInBounds_toArray, List.set_cons_zero, List.set_cons_succ]) | (apply linR_pass (wayK bB [⟨bB, 5, none⟩]); (simp only [List.getElem?_toArray, List.getElem?_cons_succ, List.getElem?_cons_zero]; rfl); (rfl); try simp only [Act.put, List.setIfInBounds_toArray, List.set_cons_zero, List.set_cons_succ]) | (apply linR_op; (simp only [List.getElem?_toArray, List.getElem?_cons_succ, List.getElem?_cons_zero]; rfl); (rfl); intro K hK; go_simp; (first | (go_at_call 44; refine (c_buckets2 _ _ hp2).mono ?_; rintro e w' ⟨rfl, rfl⟩) | (go_at_call 41; refine (c_nodeLong _ _ _ _ _ _ _ _ _ _ _ hgood).mono ?_; rintro e w7 ⟨rfl, hb7⟩; have E7 := HW6d.keep hb7 (by first | omega | (simp; omega)); obtain ⟨e6, e7, ez⟩ := (show _ ∧ _ ∧ _ from ⟨E7.cells.c6, E7.cells.c7, E7.cells.fz⟩)) | skip); refine hK _ _ ?_ ?_; (first | exact rk_refl _ _ _ | exact rk_set (by first | omega | (simp <;> omega)) (by simp) _ | exact rk_call (by first | omega | (simp <;> omega)) (by first | (simp; done) | (simp; omega)) (by assumption) | exact ⟨rfl, rfl, rfl, Nat.le_refl _, fun _ _ => rfl⟩ | assumption | exact belowB_alloc (by first | omega | (simp; omega) | simp) _ | exact below_anew (by first | omega | simp) _ _ | exact below_anew_drew (by first | omega | simp) _ _ | exact belowB_mono (by first | omega | (simp; omega) | simp) (by assumption)); clear hK; try simp only [Act.put, List.setIfInBounds_toArray, List.set_cons_zero, List.set_cons_succ]))); refine linR_end ?_)
    have hce := nodeLong_bd hgood
    have hs7 : bB + 1 ≤ w7.heap.size := by have := hb7.size; simp at this; omega
    have HW8 := (E7.set6 (2 * y - 1)).set7 (nodeLong k v f m l)
    have HB8 : Below bB w7 ((w7.setCell ⟨bB, 6, none⟩ (.int .i64 (2 * y - 1))).setCell ⟨bB, 7, none⟩ (.int .i64 (nodeLong k v f m l))) := below_setB (below_setB (Below.refl _ _) (Nat.le_refl _) _) (Nat.le_refl _) _
    have HB8' : Below bB w2 ((w7.setCell ⟨bB, 6, none⟩ (.int .i64 (2 * y - 1))).setCell ⟨bB, 7, none⟩ (.int .i64 (nodeLong k v f m l))) := by
      have hb7' : Below bB w2.drew w7 := hb7.mono (by simp; omega)
      exact (below_drew (Below.refl _ _)).trans (hb7'.trans HB8)
    have HC8 := HC6.keep HB8' hlt
    have HZ8 := HZ6.keep HB8' (by omega)
    have HB8'' := HB6'.trans (HB8'.mono (by omega))
    generalize ((w7.setCell ⟨bB, 6, none⟩ (.int .i64 (2 * y - 1))).setCell ⟨bB, 7, none⟩ (.int .i64 (nodeLong k v f m l))) = w8 at *
    clear g0 g1 g2 g3 g4 g5 g6 g7 g8 g9 c5 c6 c7 fz e6 e7 ez E7 HW6 HW6d HC6 HZ6 HB6' hb7 HB8 HB8' hs6 hs7
    obtain ⟨ce, hce'⟩ : ∃ ce, nodeLong k v f m l = ce := ⟨_, rfl⟩
    have HCE := Lib.hid hce'
    rw [hce'] at HW8 hce ⊢
    clear hce'
    obtain ⟨ce1, ce2⟩ := hce
    obtain ⟨g0, g1, g2, g3, g4, g5, g6, g7, g8, g9⟩ := id HC8
    obtain ⟨c0, c1, c2, c3, c4, c5, c6, c7, c8, c9, c10, c11, c12, fz⟩ := HW8.cells
    go_upto_region 11 with (fail)
    obtain ⟨re, hre⟩ : ∃ re, re = (1 + if k + v + 5 < 2 * k + 8 then 2 * k + 8 else k + v + 5) := ⟨_, rfl⟩
    rw [← hre]
    have hre2 : re = 1 + max (k + v + 5) (2 * k + 8) := by rw [hre]; split <;> omega
    have HRE := Lib.hid hre2
    have re1 : 15 ≤ re := by omega
    have re2 : re ≤ 110 := by omega
    clear hre hre2
    have HW9 := HW8.set8 re
    have HB9 : Below bB w8 (w8.setCell ⟨bB, 8, none⟩ (.int .i64 re)) := below_setB (Below.refl _ _) (Nat.le_refl _) _
    have HC9 := HC8.keep HB9 hlt
    have HZ9 := HZ8.keep HB9 (by omega)
    have HB9' := HB8''.trans (HB9.mono (by omega))
    generalize w8.setCell ⟨bB, 8, none⟩ (.int .i64 re) = w9 at *
    clear g0 g1 g2 g3 g4 g5 g6 g7 g8 g9 c0 c1 c2 c3 c4 c5 c6 c7 c8 c9 c10 c11 c12 fz HW8 HC8 HZ8 HB8'' HB9
    obtain ⟨g0, g1, g2, g3, g4, g5, g6, g7, g8, g9⟩ := id HC9
    obtain ⟨c0, c1, c2, c3, c4, c5, c6, c7, c8, c9, c10, c11, c12, fz⟩ := HW9.cells
    have zq0 : 0 ≤ z * (8 + ce) := Int.mul_nonneg (by omega) (by omega)
    have zq1 : z * (8 + ce) ≤ 8 * 10013 := Int.mul_le_mul (by omega) (by omega) (by omega) (by decide)
    (refine wp_region_linR (RK bB [⟨bB, 7, none⟩, ⟨bB, 8, none⟩]) (wayK bB [⟨bB, 7, none⟩, ⟨bB, 8, none⟩]) [(0, true), (1, true), (2, true), (3, true), (5, true), (6, true), (7, true), (4, false), (8, true), (9, true), (10, true), (11, false)] rfl rfl (by kernel_rfl) (by kernel_rfl) (fun _ _ _ _ _ h => h) ?_; (iterate 12 (first | (apply linR_take; (simp only [List.getElem?_toArray, List.getElem?_cons_succ, List.getElem?_cons_zero]; rfl); (rfl); (intro w' hb'; (try have k_g8 := keepK hb' (by first | exact .inl hlt | exact .inr (by simp)) g8); (try have k_c7 := keepK hb' (by first | exact .inl hlt | exact .inr (by simp)) c7); (try have k_c8 := keepK hb' (by first | exact .inl hlt | exact .inr (by simp)) c8); (first | (go_simp; done) | (go_simp; with_reducible rfl) | (go_simp; go_bits; with_reducible rfl) | (go_simp; go_bits; done))); try simp only [Act.put, List.setIfInBounds_toArray, List.set_cons_zero, List.set_cons_succ]) | (apply linR_skip; (simp only [List.getElem?_toArray, List.getElem?_cons_succ, List.getElem?_cons_zero]; rfl); (rfl); try simp only [Act.put, List.setIfInBounds_toArray, List.set_cons_zero, List.set_cons_succ]) | (apply linR_pass (wayK bB [⟨bB, 7, none⟩, ⟨bB, 8, none⟩]); (simp only [List.getElem?_toArray, List.getElem?_cons_succ, List.getElem?_cons_zero]; rfl); (rfl); try simp only [Act.put, List.setIfInBounds_toArray, List.set_cons_zero, List.set_cons_succ]) | (apply linR_op; (simp only [List.getElem?_toArray, List.getElem?_cons_succ, List.getElem?_cons_zero]; rfl); (rfl); intro K hK; go_simp; (first | (go_at_call 43; refine (c_buckLong _ _ _ (by omega) (by omega)).mono ?_; rintro e w' ⟨rfl, rfl⟩) | skip); refine hK _ _ ?_ ?_; (first | exact rk_refl _ _ _ | exact rk_set (by first | omega | (simp <;> omega)) (by simp) _ | exact rk_call (by first | omega | (simp <;> omega)) (by first | (simp; done) | (simp; omega)) (by assumption) | exact ⟨rfl, rfl, rfl, Nat.le_refl _, fun _ _ => rfl⟩ | assumption | exact belowB_alloc (by first | omega | (simp; omega) | simp) _ | exact below_anew (by first | omega | simp) _ _ | exact below_anew_drew (by first | omega | simp) _ _ | exact belowB_mono (by first | omega | (simp; omega) | simp) (by assumption)); clear hK; try simp only [Act.put, List.setIfInBounds_toArray, List.set_cons_zero, List.set_cons_succ]))); refine linR_end ?_)
    go_upto_region 12 with (fail)
    obtain ⟨bl, hbl⟩ : ∃ bl, bl = (IntKind.i64.wrap (22 + if (if z * (8 + ce) < IntKind.i64.wrap (12 + re) then IntKind.i64.wrap (12 + re) else z * (8 + ce)) < 16 then 16 else if z * (8 + ce) < IntKind.i64.wrap (12 + re) then IntKind.i64.wrap (12 + re) else z * (8 + ce))) := ⟨_, rfl⟩
    rw [← hbl]
    have hbl2 : bl = 22 + max (max (z * (8 + ce)) (12 + re)) 16 := by
      rw [hbl, IntWalk.i64_in (12 + re) ⟨by omega, by omega⟩]
      have hq : (if (if z * (8 + ce) < 12 + re then 12 + re else z * (8 + ce)) < 16 then 16 else if z * (8 + ce) < 12 + re then 12 + re else z * (8 + ce)) = max (max (z * (8 + ce)) (12 + re)) 16 := by
        by_cases q : z * (8 + ce) < 12 + re
        · rw [if_pos q]; split <;> omega
        · rw [if_neg q]; split <;> omega
      rw [hq]
      exact IntWalk.i64_in _ ⟨by omega, by omega⟩
    have HBL := Lib.hid hbl2
    have bl1 : 38 ≤ bl := by omega
    have bl2 : bl ≤ 90000 := by omega
    clear hbl hbl2
    have HW10 : BndAt (w9.setCell ⟨bB, 9, none⟩ (.int .i64 bl)).drew bB 56 G ml hf' hh nd y (2 * y - 1) ce re bl 0 0 0 := ⟨(HW9.set9 bl).row⟩
    have HB10 : Below bB w9 (w9.setCell ⟨bB, 9, none⟩ (.int .i64 bl)).drew := below_drew (below_setB (Below.refl _ _) (Nat.le_refl _) _)
    have HC10 := HC9.keep HB10 hlt
    have HZ10 := HZ9.keep HB10 (by omega)
    have HB10' := HB9'.trans (HB10.mono (by omega))
    generalize (w9.setCell ⟨bB, 9, none⟩ (.int .i64 bl)).drew = w10 at *
    clear g0 g1 g2 g3 g4 g5 g6 g7 g8 g9 c0 c1 c2 c3 c4 c5 c6 c7 c8 c9 c10 c11 c12 fz HW9 HC9 HZ9 HB9' HB10
    obtain ⟨g0, g1, g2, g3, g4, g5, g6, g7, g8, g9⟩ := id HC10
    obtain ⟨c0, c1, c2, c3, c4, c5, c6, c7, c8, c9, c10, c11, c12, fz⟩ := HW10.cells
    have nq0 : 0 ≤ nd * (8 + ce) := Int.mul_nonneg (by omega) (by omega)
    have nq1 : nd * (8 + ce) ≤ 1503 * 10013 := Int.mul_le_mul (by omega) (by omega) (by omega) (by decide)
    have cq0 : 0 ≤ c * (k + v + 5) := Int.mul_nonneg (by omega) (by omega)
    have cq1 : c * (k + v + 5) ≤ 8 * 101 := Int.mul_le_mul (by omega) (by omega) (by omega) (by decide)
    (refine wp_region_linR (RK bB [⟨bB, 4, none⟩, ⟨bB, 6, none⟩, ⟨bB, 7, none⟩]) (wayK bB [⟨bB, 4, none⟩, ⟨bB, 6, none⟩, ⟨bB, 7, none⟩]) [(0, true), (1, true), (2, true), (3, true), (4, true), (5, true), (6, true), (7, true), (10, true), (11, true), (14, true), (15, true), (16, true), (17, true), (8, false), (9, true), (12, false), (13, true), (18, true), (19, true), (20, true), (21, true), (22, false)] rfl rfl (by kernel_rfl) (by kernel_rfl) (fun _ _ _ _ _ h => h) ?_; (iterate 23 (first | (apply linR_take; (simp only [List.getElem?_toArray, List.getElem?_cons_succ, List.getElem?_cons_zero]; rfl); (rfl); (intro w' hb'; (try have k_g2 := keepK hb' (by first | exact .inl hlt | exact .inr (by simp)) g2); (try have k_c4 := keepK hb' (by first | exact .inl hlt | exact .inr (by simp)) c4); (try have k_c6 := keepK hb' (by first | exact .inl hlt | exact .inr (by simp)) c6); (try have k_c7 := keepK hb' (by first | exact .inl hlt | exact .inr (by simp)) c7); (first | (go_simp; done) | (go_simp; with_reducible rfl) | (go_simp; go_bits; with_reducible rfl) | (go_simp; go_bits; done))); try simp only [Act.put, List.setIfInBounds_toArray, List.set_cons_zero, List.set_cons_succ]) | (apply linR_skip; (simp only [List.getElem?_toArray, List.getElem?_cons_succ, List.getElem?_cons_zero]; rfl); (rfl); try simp only [Act.put, List.setIfInBounds_toArray, List.set_cons_zero, List.set_cons_succ]) | (apply linR_pass (wayK bB [⟨bB, 4, none⟩, ⟨bB, 6, none⟩, ⟨bB, 7, none⟩]); (simp only [List.getElem?_toArray, List.getElem?_cons_succ, List.getElem?_cons_zero]; rfl); (rfl); try simp only [Act.put, List.setIfInBounds_toArray, List.set_cons_zero, List.set_cons_succ]) | (apply linR_op; (simp only [List.getElem?_toArray, List.getElem?_cons_succ, List.getElem?_cons_zero]; rfl); (rfl); intro K hK; go_simp; (first | (go_at_call 43; refine (c_buckLong _ _ _ (by omega) (by omega)).mono ?_; rintro e w' ⟨rfl, rfl⟩) | (go_at_call 55; refine (c_up _ _ _ (by omega) (by omega) (by omega) (by omega)).mono ?_; rintro e w' ⟨rfl, rfl⟩) | skip); refine hK _ _ ?_ ?_; (first | exact rk_refl _ _ _ | exact rk_set (by first | omega | (simp <;> omega)) (by simp) _ | exact rk_call (by first | omega | (simp <;> omega)) (by first | (simp; done) | (simp; omega)) (by assumption) | exact ⟨rfl, rfl, rfl, Nat.le_refl _, fun _ _ => rfl⟩ | assumption | exact belowB_alloc (by first | omega | (simp; omega) | simp) _ | exact below_anew (by first | omega | simp) _ _ | exact below_anew_drew (by first | omega | simp) _ _ | exact belowB_mono (by first | omega | (simp; omega) | simp) (by assumption)); clear hK; try simp only [Act.put, List.setIfInBounds_toArray, List.set_cons_zero, List.set_cons_succ]))); refine linR_end ?_)
    obtain ⟨st, hst⟩ : ∃ st, st = IntKind.i64.wrap (IntKind.i64.wrap (IntKind.i64.wrap (IntKind.i64.wrap (IntKind.i64.wrap (IntKind.i64.wrap (IntKind.i64.wrap (12 * nd) + 4) + nd * (8 + ce)) + (2 * y - 1 + 8 - 1) / 8) + IntKind.i64.wrap (c * (k + v + 5))) + 1) + 44) := ⟨_, rfl⟩
    rw [← hst]
    have hst2 : st = 12 * nd + 4 + nd * (8 + ce) + (2 * y - 1 + 7) / 8 + c * (k + v + 5) + 45 := by
      rw [hst, IntWalk.i64_in (12 * nd) ⟨by omega, by omega⟩, IntWalk.i64_in (12 * nd + 4) ⟨by omega, by omega⟩, IntWalk.i64_in (12 * nd + 4 + nd * (8 + ce)) ⟨by omega, by omega⟩, IntWalk.i64_in (12 * nd + 4 + nd * (8 + ce) + (2 * y - 1 + 8 - 1) / 8) ⟨by omega, by omega⟩,
        IntWalk.i64_in (c * (k + v + 5)) ⟨by omega, by omega⟩, IntWalk.i64_in (12 * nd + 4 + nd * (8 + ce) + (2 * y - 1 + 8 - 1) / 8 + c * (k + v + 5)) ⟨by omega, by omega⟩, IntWalk.i64_in (12 * nd + 4 + nd * (8 + ce) + (2 * y - 1 + 8 - 1) / 8 + c * (k + v + 5) + 1) ⟨by omega, by omega⟩,
        IntWalk.i64_in (12 * nd + 4 + nd * (8 + ce) + (2 * y - 1 + 8 - 1) / 8 + c * (k + v + 5) + 1 + 44) ⟨by omega, by omega⟩]
      omega
    have HST := Lib.hid hst2
    have st1 : 45 ≤ st := by omega
    have st2 : st ≤ 20000000 := by omega
    clear hst hst2
    have HW11 : BndAt (w10.setCell ⟨bB, 10, none⟩ (.int .i64 st)).drew bB 56 G ml hf' hh nd y (2 * y - 1) ce re bl st 0 0 := ⟨(HW10.set10 st).row⟩
    have HB11 : Below bB w10 (w10.setCell ⟨bB, 10, none⟩ (.int .i64 st)).drew := below_drew (below_setB (Below.refl _ _) (Nat.le_refl _) _)
    have HC11 := HC10.keep HB11 hlt
    have HZ11 := HZ10.keep HB11 (by omega)
    have HB11' := HB10'.trans (HB11.mono (by omega))
    generalize (w10.setCell ⟨bB, 10, none⟩ (.int .i64 st)).drew = w11 at *
    clear g0 g1 g2 g3 g4 g5 g6 g7 g8 g9 c0 c1 c2 c3 c4 c5 c6 c7 c8 c9 c10 c11 c12 fz HW10 HC10 HZ10 HB10' HB11
    obtain ⟨g0, g1, g2, g3, g4, g5, g6, g7, g8, g9⟩ := id HC11
    obtain ⟨c0, c1, c2, c3, c4, c5, c6, c7, c8, c9, c10, c11, c12, fz⟩ := HW11.cells
    go_upto_region 14 with (go_at_call 55; refine (c_up _ _ _ (by omega) (by omega) (by omega) (by omega)).mono ?_; rintro e w' ⟨rfl, rfl⟩)
    obtain ⟨ar, har⟩ : ∃ ar, ar = (st + (bl - 22) - 1) / (bl - 22) := ⟨_, rfl⟩
    rw [← har]
    have har1 : 0 ≤ ar := by rw [har]; exact Int.ediv_nonneg (by omega) (by omega)
    have har2 : ar ≤ 30000000 := by rw [har]; exact Int.le_trans (Int.ediv_le_self _ (by omega)) (by omega)
    have HAR := Lib.hid har
    clear har
    have HW12 := HW11.set11 ar
    have HB12 : Below bB w11 (w11.setCell ⟨bB, 11, none⟩ (.int .i64 ar)) := below_setB (Below.refl _ _) (Nat.le_refl _) _
    have HC12 := HC11.keep HB12 hlt
    have HZ12 := HZ11.keep HB12 (by omega)
    have HB12' := HB11'.trans (HB12.mono (by omega))
    generalize w11.setCell ⟨bB, 11, none⟩ (.int .i64 ar) = w12 at *
    clear g0 g1 g2 g3 g4 g5 g6 g7 g8 g9 c0 c1 c2 c3 c4 c5 c6 c7 c8 c9 c10 c11 c12 fz HW11 HC11 HZ11 HB11' HB12
    obtain ⟨g0, g1, g2, g3, g4, g5, g6, g7, g8, g9⟩ := id HC12
    obtain ⟨c0, c1, c2, c3, c4, c5, c6, c7, c8, c9, c10, c11, c12, fz⟩ := HW12.cells
    go_upto_region 15 with (fail)
    have HW13 := HW12.set12 (4 + 2 * ar + n + 2 * (2 * y - 1))
    have HB13 : Below bB w12 (w12.setCell ⟨bB, 12, none⟩ (.int .i64 (4 + 2 * ar + n + 2 * (2 * y - 1)))) := below_setB (Below.refl _ _) (Nat.le_refl _) _
    have HZ13 := HZ12.keep HB13 (by omega)
    have HB13' := HB12'.trans (HB13.mono (by omega))
    generalize w12.setCell ⟨bB, 12, none⟩ (.int .i64 (4 + 2 * ar + n + 2 * (2 * y - 1))) = w13 at *
    clear g0 g1 g2 g3 g4 g5 g6 g7 g8 g9 c0 c1 c2 c3 c4 c5 c6 c7 c8 c9 c10 c11 c12 fz HW12 HC12 HZ12 HB12' HB13
    obtain ⟨bs, hbs⟩ : ∃ bs, bs = 4 + 2 * ar + n + 2 * (2 * y - 1) := ⟨_, rfl⟩
    rw [← hbs] at HW13
    have HBS := Lib.hid hbs
    clear hbs
    obtain ⟨bu, hbu⟩ : ∃ bu, bu = 2 * y - 1 := ⟨_, rfl⟩
    rw [← hbu] at HW13
    have HBU := Lib.hid hbu
    clear hbu
    obtain ⟨c0, c1, c2, c3, c4, c5, c6, c7, c8, c9, c10, c11, c12, fz⟩ := HW13.cells
    iterate 4 go_step
    refine wpl_storeS rfl 56 (.tmp 2) (.tmp 94) rfl (w.heap.size + 1) (bA G ml hf' hh nd y bu ce re bl st ar bs) rfl rfl 56 _ HZ13.row (by kernel_rfl) rfl (bA_one _ _ _ _ _ _ _ _ _ _ _ _ _) ?_
    intro W1 hW1
    clear c0 c1 c2 c3 c4 c5 c6 c7 c8 c9 c10 c11 c12 fz
    simp only [Act.put]
    iterate 7 go_step
    try simp only [Exit.inBlock, Exit.then]
    refine bodyPost_ret (results_cell2 rfl rfl (bnd_load _ _ _ _ _ _ _ _ _ _ _ _ _ _ _ ⟨hW1.row⟩)) rfl ?_
    exact ⟨true, _, _, _, _, _, _, _, _, _, _, _, _, _, ⟨HG.out.symm, HML.out.symm, HHF.out.symm, hfin, ⟨_, _, hpk, hle⟩, HBU.out, HCE.out.symm, HRE.out, HBL.out, (by rw [HBU.out]; exact HST.out), (show ar = _ by rw [HAR.out, show st + (bl - 22) - 1 = st + bl - 23 by omega]), (by rw [HBU.out]; exact HBS.out)⟩, HB13'.trans (hW1.below (by omega)), rfl⟩
end Go.Proofs.Ytldeohbfhigagaa
