/- The walk of PathForms. -/
import Derived.Test.YtldeohbfhigagaaDoorPathF
import Derived.Test.YtldeohbfhigagaaDoorMask
import Derived.Test.YtldeohbfhigagaaDoorLoadR
import Derived.Test.YtldeohbfhigagaaDoorRw
import Derived.Test.YtldeohbfhigagaaDoorLawPath
set_option linter.unusedVariables false
set_option linter.unusedSimpArgs false
namespace Go.Proofs.YtldeohbfhigagaaDoor
open Go.RowKit

structure Frm where
  (n lf lv at_ : Int)
  ok : Bool
  on : Int
def frmL : List Frm := [⟨1, 0, 0, 0, true, 1⟩, ⟨1, 0, 1, 0, false, 1⟩, ⟨1, 1, 0, 0, false, 0⟩, ⟨2, 1, 1, 2, true, 2⟩, ⟨3, 0, 0, 0, false, 0⟩, ⟨0, 0, 0, 0, false, 0⟩, ⟨-4, 0, 0, 0, false, 0⟩, ⟨4, -1, 0, 0, false, 0⟩, ⟨4, 3, -1, 0, false, 3⟩, ⟨4, 3, 3, 0, false, 3⟩, ⟨65536, 65535, 16, 131070, true, 17⟩, ⟨131072, 0, 0, 0, false, 0⟩]
def frmC (f : Frm) : List Value := [.int .i64 f.n, .int .i64 f.lf, .int .i64 f.lv, .int .i64 f.at_, .bool f.ok, .int .i64 f.on]
def frmV : List Value := frmL.flatMap frmC
def frm (i : Nat) : Frm := frmL[i]?.getD ⟨0, 0, 0, 0, false, 0⟩
def frmB (i : Nat) : Bool := decide (atF (frm i).n (frm i).lf (frm i).lv = ((frm i).at_, (frm i).ok)) && decide (((onF (frm i).n (frm i).lf).length : Int) = (frm i).on) && (decide (0 ≤ meF (frm i).n (frm i).lf (frm i).lf) == decide (0 < (frm i).on)) && decide (-10 ≤ (frm i).n) && decide ((frm i).n ≤ 200000)
theorem frm_ok : ∀ i, i < 12 → frmB i = true := by decide +kernel
theorem frm_row (i : Nat) (hi : i < 12) : (frmV.drop (6 * i)).take 6 = frmC (frm i) := by
  match i, hi with
  | 0, _ => rfl
  | 1, _ => rfl
  | 2, _ => rfl
  | 3, _ => rfl
  | 4, _ => rfl
  | 5, _ => rfl
  | 6, _ => rfl
  | 7, _ => rfl
  | 8, _ => rfl
  | 9, _ => rfl
  | 10, _ => rfl
  | 11, _ => rfl
theorem frm_cells {W : World} {g i : Nat} (h : Rd W (some ⟨g, 0, none⟩) 72 frmV) (hi : i < 12) : ∀ j v, (frmC (frm i))[j]? = some v → W.cell? ((⟨g, i * 6, none⟩ : Addr).add j) = some v := by
  intro j v hv
  rw [← frm_row i hi, List.getElem?_take] at hv
  split at hv
  · rw [List.getElem?_drop] at hv
    obtain ⟨ad, e, hc⟩ := h.2 (by decide)
    cases e
    have := hc _ v hv
    rw [ad_none, Nat.zero_add] at this
    rw [ad_none, Nat.mul_comm]
    exact this
  · cases hv
set_option maxHeartbeats 4000000 in
set_option maxRecDepth 100000 in
theorem w_PathForms (a : Int) (w : World) (w0 : (Lit.int .i64 a).wf = true) (hT : TabW w) : Calls Tryd.prog 4 #[.int .i64 a] w fun e w' => e = .returned (.bool true) ∧ Below w.heap.size w w' := by
  have hm := m255 a
  obtain ⟨i, hi⟩ : ∃ i : Nat, a % 256 % 12 = (i : Int) := ⟨(a % 256 % 12).toNat, by omega⟩
  have hi12 : i < 12 := by omega
  have hb : 0 ≤ a % 256 ∧ a % 256 < 256 := by omega
  obtain ⟨hb0, hb1⟩ := hb
  have hok := frm_ok i hi12
  unfold frmB at hok
  simp only [Bool.and_eq_true, decide_eq_true_iff, beq_iff_eq] at hok
  obtain ⟨⟨⟨⟨h1, h2⟩, h3⟩, h4⟩, h5⟩ := hok
  have hce := fun (W : World) (g : Nat) (h : Rd W (some ⟨g, 0, none⟩) 72 frmV) => frm_cells h hi12
  generalize frm i = f at *
  obtain ⟨n, lf, lv, at_, ok, on⟩ := f
  simp only at h1 h2 h3 h4 h5
  have hI : I64 n := ⟨by omega, by omega⟩
  go_enter Tryd.func4, Tryd.ntmps4
  go_upto_region 2 with (fail)
  have hr := rd_lit w frmV 30 (0, 0) 72 rfl
  have hB : Below w.heap.size w (w.alloc (.cells frmV.toArray 30)) := below_alloc (Below.refl _ _) _
  have HE : Hid (w.alloc (.cells frmV.toArray 30) = w.alloc (.cells frmV.toArray 30)) := rfl
  have hT1 := hT.alloc (.cells frmV.toArray 30)
  have hs1 : (w.alloc (.cells frmV.toArray 30)).heap.size = w.heap.size + 1 := by simp
  have hc := hce _ _ hr
  change Code.wp _ _ _ _ (w.alloc (.cells frmV.toArray 30))
  generalize w.alloc (.cells frmV.toArray 30) = w1 at *
  clear hr hce HE
  have hc' : ∀ (j : Nat) (v : Value), [Value.int .i64 n, .int .i64 lf, .int .i64 lv, .int .i64 at_, .bool ok, .int .i64 on][j]? = some v → w1.cell? ((⟨w.heap.size, i * 6, none⟩ : Addr).add j) = some v := hc
  clear hc
  go_upto_region 3 with (first | (apply wpl_loadR (ty := 30) [.int .i64 n, .int .i64 lf, .int .i64 lv, .int .i64 at_, .bool ok, .int .i64 on]; rfl; rfl; rfl; kernel_rfl; kernel_rfl; exact hc') | (apply wpl_storeN; rfl; rfl; rfl; (first | rfl | simp); rfl; kernel_rfl; rfl; (simp [Value.oneCell']); simp only [Act.put]))
  have R2 := Row.new w1 #[.int .i64 n, .int .i64 lf, .int .i64 lv, .int .i64 at_, .bool ok, .int .i64 on] 30
  have hT2 := hT1.alloc (.cells #[.int .i64 n, .int .i64 lf, .int .i64 lv, .int .i64 at_, .bool ok, .int .i64 on] 30)
  have hB2 := below_alloc hB (.cells #[.int .i64 n, .int .i64 lf, .int .i64 lv, .int .i64 at_, .bool ok, .int .i64 on] 30)
  rw [hs1] at R2
  generalize w1.alloc (.cells #[.int .i64 n, .int .i64 lf, .int .i64 lv, .int .i64 at_, .bool ok, .int .i64 on] 30) = w2 at *
  clear hc' hB hT1 hs1 hm hi hb0 hb1
  have c0 := R2.cell 0 rfl
  have c1 := R2.cell 1 rfl
  have c2 := R2.cell 2 rfl
  have c3 := R2.cell 3 rfl
  have c4 := R2.cell 4 rfl
  have c5 := R2.cell 5 rfl
  have hAt := c_at n lf lv w2 hI hT2
  rw [h1] at hAt
  have h2' : (((onF n lf).length : Int) == on) = true := by rw [h2]; simp
  clear h1 h2 R2
  go_upto_region 4 with (go_at_call 8; refine hAt.mono ?_; rintro e w' ⟨rfl, q2, rfl⟩)
  have hB3 := below_drewN hB2 q2
  have hT3 : TabW (w2.drewN q2) := hT2.below (below_drewN (Below.refl _ _) _) (Nat.le_refl _)
  have b0 : (w2.drewN q2).cell? _ = _ := c0
  have b1 : (w2.drewN q2).cell? _ = _ := c1
  have b3 : (w2.drewN q2).cell? _ = _ := c3
  have b4 : (w2.drewN q2).cell? _ = _ := c4
  have b5 : (w2.drewN q2).cell? _ = _ := c5
  generalize w2.drewN q2 = w3 at *
  clear hT2 hB2 hAt c0 c1 c2 c3 c4 c5
  have hT3d : TabW w3.drew := hT3.below (below_drew (Below.refl _ _)) (Nat.le_refl _)
  have hl17 := onF_len n lf
  (refine wp_region_lin [(0, true), (1, true), (2, true), (3, true), (4, true), (5, true), (6, true), (7, true), (8, true), (9, true), (10, true), (11, true), (12, true), (13, true), (14, true), (17, true), (18, true), (15, false), (16, true), (19, true), (20, true), (21, true), (22, true), (23, true), (24, true), (25, true), (26, true), (27, true), (30, true), (31, true), (32, true), (28, false), (29, true), (33, true), (34, true), (35, true), (36, false), (37, true), (38, true)] rfl rfl (by kernel_rfl) (by kernel_rfl) (fun _ _ _ _ _ h => h) ?_; (iterate 39 (first | (apply lin_take; (simp only [List.getElem?_toArray, List.getElem?_cons_succ, List.getElem?_cons_zero]; rfl); (rfl); (intro w' hb'; (try have k_b0 := cell_keep hb' b0); (try have k_b1 := cell_keep hb' b1); (try have k_b3 := cell_keep hb' b3); (try have k_b4 := cell_keep hb' b4); (try have k_b5 := cell_keep hb' b5); (first | (go_simp; done) | (go_simp; with_reducible rfl) | (go_simp; go_bits; with_reducible rfl) | (go_simp; go_bits; done))); try simp only [Act.put, List.setIfInBounds_toArray, List.set_cons_zero, List.set_cons_succ]) | (apply lin_skip; (simp only [List.getElem?_toArray, List.getElem?_cons_succ, List.getElem?_cons_zero]; rfl); (rfl); try simp only [Act.put, List.setIfInBounds_toArray, List.set_cons_zero, List.set_cons_succ]) | (apply lin_pass; (simp only [List.getElem?_toArray, List.getElem?_cons_succ, List.getElem?_cons_zero]; rfl); (rfl); try simp only [Act.put, List.setIfInBounds_toArray, List.set_cons_zero, List.set_cons_succ]) | (apply lin_op; (simp only [List.getElem?_toArray, List.getElem?_cons_succ, List.getElem?_cons_zero]; rfl); (rfl); intro K hK; go_simp; (first | (go_at_call 12; refine (c_on _ _ _ hI hT3d).mono ?_; rintro e w4 ⟨v4, rfl, ho4, hb4⟩; have hT4 := hT3d.below hb4 (Nat.le_refl _); obtain ⟨A4, ca4, rfl, -, -, -⟩ := ho4.form; have b0 := cell_keep (w := w3.drew) hb4 b0; have b1 := cell_keep (w := w3.drew) hb4 b1; have b5 := cell_keep (w := w3.drew) hb4 b5) | (go_at_call 9; refine (c_meet _ _ _ _ hI hT4).mono ?_; rintro e w' ⟨rfl, rfl⟩) | (go_at_call 11; refine (c_awake13 _ hT4).mono ?_; rintro e w5 ⟨rfl, hb5⟩) | skip); refine hK _ _ ?_ ?_; (first | exact ⟨rfl, rfl, rfl, Nat.le_refl _, fun _ _ => rfl⟩ | assumption | exact below_alloc (Below.refl _ _) _ | exact below_drewN (by assumption) _); clear hK; try simp only [Act.put, List.setIfInBounds_toArray, List.set_cons_zero, List.set_cons_succ]))); refine lin_end ?_)
  go_wp2
  go_ret
  exact ⟨rfl, ((below_drew hB3).trans (hb4.mono (below_drew hB3).size)).trans (hb5.mono (by have h1 := (below_drew hB3).size; have h2 := hb4.size; omega))⟩
end Go.Proofs.YtldeohbfhigagaaDoor
