/- The walk of FlotRising. -/
import Derived.Test.YtldeohbfhigagaaLawFills
set_option linter.unusedVariables false
set_option linter.unusedSimpArgs false
namespace Go.Proofs.Ytldeohbfhigagaa
open Go.RowKit Flo

/-- the row of edges -/
def edges : List Nat := [18442240474082181120, 18442240474082181119, 13830554455654793216, 9223372036854775809, 9223372036854775808, 0, 1, 4607182418800017408, 9218868437227405311, 9218868437227405312, 9221120237041090561]
theorem edges_less : ∀ p, p < 11 → ∀ q, q < 11 → lessB (edges[p]?.getD 0) (edges[q]?.getD 0) = decide (p < q) := by decide +kernel
theorem edges_w : ∀ p, p < 11 → edges[p]?.getD 0 < 18446744073709551616 := by decide +kernel
theorem rd_edge {W : World} {B p : Nat} (h : Rd W (some ⟨B, 0, none⟩) 11 (fv edges)) (hp : p < 11) : W.cell? ⟨B, p, none⟩ = some (.float .f64 (edges[p]?.getD 0)) := by
  obtain ⟨ad, v, e, hv, hc⟩ := h.at_ hp
  cases e
  rw [ad_none, Nat.zero_add] at hc
  rw [hc]
  unfold fv at hv
  rw [List.getElem?_map] at hv
  have hl : p < edges.length := hp
  rw [List.getElem?_eq_getElem hl] at hv ⊢
  cases hv
  rfl

set_option maxHeartbeats 4000000 in
theorem w_rising0 (n m : Int) (w : World) (nn mm p q : Nat) (hn : bits BinOp.and IntKind.i64 n 255 = (nn : Int)) (hm : bits BinOp.and IntKind.i64 m 255 = (mm : Int)) (h1 : nn ≤ 255) (h2 : mm ≤ 255)
    (hp : (nn : Int).tmod 11 = (p : Int)) (hq : (mm : Int).tmod 11 = (q : Int)) (hp1 : p < 11) (hq1 : q < 11) (b : Bool) (hb : decide (p < q) = b) (hbi : decide ((p : Int) < q) = b) :
    Calls Try.prog 4 #[.int .i64 n, .int .i64 m] w fun e w' => e = .returned (.bool true) ∧ Below w.heap.size w w' := by
  have hless := edges_less p hp1 q hq1
  have wp : W64 (edges[p]?.getD 0) := edges_w p hp1
  have wq : W64 (edges[q]?.getD 0) := edges_w q hq1
  have hn0 : (0 : Int) ≤ (nn : Int) := by omega
  have hm0 : (0 : Int) ≤ (mm : Int) := by omega
  have hp0 : (0 : Int) ≤ (p : Int) := by omega
  have hq0 : (0 : Int) ≤ (q : Int) := by omega
  have hp11 : (p : Int) < 11 := by omega
  have hq11 : (q : Int) < 11 := by omega
  go_enter Try.func4, Try.ntmps4
  go_wp2_with (first | (go_at_call 15; refine (c_nan _).mono ?_; rintro e w' ⟨rfl, rfl⟩) | (go_at_call 16; refine (c_inf _ _).mono ?_; rintro e w' ⟨rfl, rfl⟩) | (go_at_call 17; refine (c_minus _).mono ?_; rintro e w' ⟨rfl, rfl⟩))
  have hrd := rd_lit w (fv edges) 22 (0, 0) 11 rfl
  have hB4 : Below w.heap.size w (w.alloc (.cells (fv edges).toArray 22)) := below_alloc (Below.refl _ _) _
  have hsz : w.heap.size < (w.alloc (.cells (fv edges).toArray 22)).heap.size := by simp
  have HE : Hid (w.alloc (.cells (fv edges).toArray 22) = w.alloc (.cells #[.float .f64 18442240474082181120, .float .f64 18442240474082181119, .float .f64 13830554455654793216, .float .f64 9223372036854775809, .float .f64 9223372036854775808, .float .f64 0, .float .f64 1, .float .f64 4607182418800017408, .float .f64 9218868437227405311, .float .f64 9218868437227405312, .float .f64 9221120237041090561] 22)) := rfl
  generalize w.alloc (.cells (fv edges).toArray 22) = w4 at hrd hB4 HE hsz
  rw [← HE.out]
  have hcp := rd_edge hrd hp1
  have hcq := rd_edge hrd hq1
  generalize edges[p]?.getD 0 = zp at *
  generalize edges[q]?.getD 0 = zq at *
  rw [hb] at hless
  clear hrd
  (refine wp_region_lin [(0, true), (1, true), (2, true), (3, true), (4, true), (5, true), (6, true), (7, true), (8, true), (9, true), (10, true), (11, true)] rfl rfl (by kernel_rfl) (by kernel_rfl) (fun _ _ _ _ _ h => h) ?_; (iterate 12 (first | (apply lin_take; (simp only [List.getElem?_toArray, List.getElem?_cons_succ, List.getElem?_cons_zero]; rfl); (rfl); (intro w' hb'; (first | (go_simp; done) | (go_simp; with_reducible rfl) | (go_simp; go_bits; with_reducible rfl) | (go_simp; go_bits; done))); try simp only [Act.put, List.setIfInBounds_toArray, List.set_cons_zero, List.set_cons_succ]) | (apply lin_skip; (simp only [List.getElem?_toArray, List.getElem?_cons_succ, List.getElem?_cons_zero]; rfl); (rfl); try simp only [Act.put, List.setIfInBounds_toArray, List.set_cons_zero, List.set_cons_succ]) | (apply lin_pass; (simp only [List.getElem?_toArray, List.getElem?_cons_succ, List.getElem?_cons_zero]; rfl); (rfl); try simp only [Act.put, List.setIfInBounds_toArray, List.set_cons_zero, List.set_cons_succ]) | (apply lin_op; (simp only [List.getElem?_toArray, List.getElem?_cons_succ, List.getElem?_cons_zero]; rfl); (rfl); intro K hK; go_simp; (first | skip); refine hK _ _ ?_ ?_; (first | exact ⟨rfl, rfl, rfl, Nat.le_refl _, fun _ _ => rfl⟩ | assumption | exact below_alloc (Below.refl _ _) _ | exact below_drewN (by assumption) _); clear hK; try simp only [Act.put, List.setIfInBounds_toArray, List.set_cons_zero, List.set_cons_succ]))); refine lin_end ?_)
  go_wp2
  have hsz2 : w.heap.size < w4.drew.drew.heap.size := hsz
  cases b
  all_goals
    (refine wp_region_lin [(0, true), (1, true), (2, true), (3, true), (4, true), (5, true), (6, true), (7, true), (9, true), (10, true), (11, true), (8, false), (12, true), (13, true), (14, false), (15, true), (16, true)] rfl rfl (by kernel_rfl) (by kernel_rfl) (fun _ _ _ _ _ h => h) ?_; (iterate 17 (first | (apply lin_take; (simp only [List.getElem?_toArray, List.getElem?_cons_succ, List.getElem?_cons_zero]; rfl); (rfl); (intro w' hb'; (try have k_hcp := cell_keep hb' hcp); (try have k_hcq := cell_keep hb' hcq); (first | (go_simp; done) | (go_simp; with_reducible rfl) | (go_simp; go_bits; with_reducible rfl) | (go_simp; go_bits; done))); try simp only [Act.put, List.setIfInBounds_toArray, List.set_cons_zero, List.set_cons_succ]) | (apply lin_skip; (simp only [List.getElem?_toArray, List.getElem?_cons_succ, List.getElem?_cons_zero]; rfl); (rfl); try simp only [Act.put, List.setIfInBounds_toArray, List.set_cons_zero, List.set_cons_succ]) | (apply lin_pass; (simp only [List.getElem?_toArray, List.getElem?_cons_succ, List.getElem?_cons_zero]; rfl); (rfl); try simp only [Act.put, List.setIfInBounds_toArray, List.set_cons_zero, List.set_cons_succ]) | (apply lin_op; (simp only [List.getElem?_toArray, List.getElem?_cons_succ, List.getElem?_cons_zero]; rfl); (rfl); intro K hK; go_simp; (first | (go_at_call 24; refine (c_less _ _ _ (by assumption) (by assumption)).mono ?_; rintro e w' ⟨rfl, rfl⟩) | (go_at_call 23; refine (c_awake5 _).mono ?_; rintro e w1 ⟨rfl, hb⟩) | skip); refine hK _ _ ?_ ?_; (first | exact ⟨rfl, rfl, rfl, Nat.le_refl _, fun _ _ => rfl⟩ | assumption | exact below_alloc (Below.refl _ _) _ | exact below_drewN (by assumption) _); clear hK; try simp only [Act.put, List.setIfInBounds_toArray, List.set_cons_zero, List.set_cons_succ]))); refine lin_end ?_)
    go_wp2
    go_ret
    refine ⟨rfl, ?_⟩
    refine below_two hB4 ?_
    (repeat (first | exact Below.refl _ _ | exact ⟨rfl, rfl, rfl, Nat.le_refl _, fun _ _ => rfl⟩ | refine below_alloc ?_ _ | refine below_drewN ?_ _ | refine below_drew ?_ | refine below_two ?_ (by assumption)))
theorem w_FlotRising (a0 a1 : Int) (w : World) (w0 : (Lit.int .i64 a0).wf = true) (w1 : (Lit.int .i64 a1).wf = true) :
    Calls Try.prog 4 #[.int .i64 a0, .int .i64 a1] w fun e w' => e = .returned (.bool true) ∧ Below w.heap.size w w' := by
  have e0 := m255 a0
  have e1 := m255 a1
  rw [show a0 % 256 = ((a0 % 256).toNat : Int) by omega] at e0
  rw [show a1 % 256 = ((a1 % 256).toNat : Int) by omega] at e1
  have h0 : (a0 % 256).toNat ≤ 255 := by omega
  have h1 : (a1 % 256).toNat ≤ 255 := by omega
  generalize (a0 % 256).toNat = nn at *
  generalize (a1 % 256).toNat = mm at *
  exact w_rising0 a0 a1 w nn mm (nn % 11) (mm % 11) e0 e1 h0 h1 (by rw [Int.tmod_eq_emod_of_nonneg (by omega)]; omega) (by rw [Int.tmod_eq_emod_of_nonneg (by omega)]; omega) (Nat.mod_lt _ (by decide)) (Nat.mod_lt _ (by decide)) _ rfl (by rw [decide_eq_decide]; omega)
end Go.Proofs.Ytldeohbfhigagaa
