/- The walk of FlotEdges. -/
import Derived.Test.YtldeohbfhigagaaLawRising
import Derived.Deep.Cut
import Derived.Deep.WholeRow
set_option linter.unusedVariables false
set_option linter.unusedSimpArgs false
namespace Go.Proofs.Ytldeohbfhigagaa
open Go.RowKit Flo

/-- the rows, by hand: two numbers and their sum -/
def sums : List Nat := [0, 0, 0, 0, 9223372036854775808, 0, 9223372036854775808, 0, 0, 9223372036854775808, 9223372036854775808, 9223372036854775808, 4607182418800017408, 13830554455654793216, 0,
  9218868437227405312, 4607182418800017408, 9218868437227405312, 9218868437227405312, 9218868437227405312, 9218868437227405312, 18442240474082181120, 4607182418800017408, 18442240474082181120,
  9218868437227405312, 18442240474082181120, 9221120237041090561, 9221120237041090561, 4607182418800017408, 9221120237041090561, 4607182418800017408, 9221120237041090561, 9221120237041090561,
  9221120237041090561, 9218868437227405312, 9221120237041090561, 9218868437227405311, 9218868437227405311, 9218868437227405312, 4607182418800017408, 4336966441157787648, 4607182418800017408,
  4845873199050653696, 4607182418800017408, 4845873199050653696, 4845873199050653696, 4613937818241073152, 4845873199050653698, 1, 1, 2, 1, 9223372036854775809, 0]
theorem sums_ok : ∀ p, p < 18 → addB (sums[p * 3]?.getD 0) (sums[p * 3 + 1]?.getD 0) = oneB (sums[p * 3 + 2]?.getD 0) ∧ sums[p * 3 + 2]?.getD 0 < 18446744073709551616 := by decide +kernel

theorem rd_sum {W : World} {B k : Nat} (h : Rd W (some ⟨B, 0, none⟩) 54 (fv sums)) (hk : k < 54) : W.cell? ⟨B, k, none⟩ = some (.float .f64 (sums[k]?.getD 0)) := by
  obtain ⟨ad, v, e, hv, hc⟩ := h.at_ hk
  cases e
  rw [ad_none, Nat.zero_add] at hc
  rw [hc]
  unfold fv at hv
  rw [List.getElem?_map] at hv
  have hl : k < sums.length := hk
  rw [List.getElem?_eq_getElem hl] at hv ⊢
  cases hv
  rfl
theorem run_three (w : World) (x y z : Nat) :
    (((store ⟨w.heap.size, 0, none⟩ (.float .f64 x)).run Try.prog (w.alloc (.cells #[.float .f64 0, .float .f64 0, .float .f64 0] 26))).andThen fun _ w' =>
      ((store ⟨w.heap.size, 1, none⟩ (.float .f64 y)).run Try.prog w').andThen fun _ w' => (store ⟨w.heap.size, 2, none⟩ (.float .f64 z)).run Try.prog w')
    = .ok () (w.alloc (.cells #[.float .f64 x, .float .f64 y, .float .f64 z] 26)) := by
  have h := run_storeCells_new (P := Try.prog) w 26 #[.float .f64 0, .float .f64 0, .float .f64 0] #[.float .f64 x, .float .f64 y, .float .f64 z] (by kernel_rfl) rfl (by simp [Value.oneCell'])
  simpa [storeCells, Addr.add] using h
theorem c_of8z (z : Nat) (A : Option Addr) (c : Nat) (w : World) (hn : z < 18446744073709551616) (h : RdB w A 8 (leP (oneB z) 8)) :
    Calls Try.prog 21 #[.slice A 8 c] w fun e w' => e = .returned (.float .f64 (oneB z)) ∧ w = w' := by
  have := c_of8 A c (oneB z) w (oneB_lt hn) h
  rwa [oneB_one] at this
set_option maxHeartbeats 4000000 in
theorem w_edges0 (n : Int) (w : World) (nn p : Nat) (hn : bits BinOp.and IntKind.i64 n 255 = (nn : Int)) (h1 : nn ≤ 255) (hp : (nn : Int) % 18 = (p : Int)) (hp1 : p < 18) :
    Calls Try.prog 3 #[.int .i64 n] w fun e w' => e = .returned (.bool true) ∧ Below w.heap.size w w' := by
  have hneg : ∀ W, (Op.unary .neg (.float .f64 9218868437227405312)).run Try.prog W = .ok (.float .f64 18442240474082181120) W := fun _ => by kernel_rfl
  have hn0 : (0 : Int) ≤ (nn : Int) := by omega
  have hp0 : (0 : Int) ≤ (p : Int) := by omega
  have hp11 : (p : Int) < 18 := by omega
  obtain ⟨hsum, hwz⟩ := sums_ok p hp1
  have k0 : p * 3 < 54 := by omega
  have k1 : p * 3 + 1 < 54 := by omega
  have k2 : p * 3 + 2 < 54 := by omega
  go_enter Try.func3, Try.ntmps3
  go_upto_region 3 with (first | (go_at_call 15; refine (c_nan _).mono ?_; rintro e w' ⟨rfl, rfl⟩) | (go_at_call 16; refine (c_inf _ _).mono ?_; rintro e w' ⟨rfl, rfl⟩) | (go_at_call 17; refine (c_minus _).mono ?_; rintro e w' ⟨rfl, rfl⟩))
  have hrd := rd_lit w (fv sums) 26 (0, 0) 54 rfl
  have hB4 : Below w.heap.size w (w.alloc (.cells (fv sums).toArray 26)) := below_alloc (Below.refl _ _) _
  have hsz : w.heap.size < (w.alloc (.cells (fv sums).toArray 26)).heap.size := by simp
  have HE : Hid (w.alloc (.cells (fv sums).toArray 26) = w.alloc (.cells #[.float .f64 0, .float .f64 0, .float .f64 0, .float .f64 0, .float .f64 9223372036854775808, .float .f64 0, .float .f64 9223372036854775808, .float .f64 0, .float .f64 0, .float .f64 9223372036854775808, .float .f64 9223372036854775808, .float .f64 9223372036854775808, .float .f64 4607182418800017408, .float .f64 13830554455654793216, .float .f64 0, .float .f64 9218868437227405312, .float .f64 4607182418800017408, .float .f64 9218868437227405312, .float .f64 9218868437227405312, .float .f64 9218868437227405312, .float .f64 9218868437227405312, .float .f64 18442240474082181120, .float .f64 4607182418800017408, .float .f64 18442240474082181120, .float .f64 9218868437227405312, .float .f64 18442240474082181120, .float .f64 9221120237041090561, .float .f64 9221120237041090561, .float .f64 4607182418800017408, .float .f64 9221120237041090561, .float .f64 4607182418800017408, .float .f64 9221120237041090561, .float .f64 9221120237041090561, .float .f64 9221120237041090561, .float .f64 9218868437227405312, .float .f64 9221120237041090561, .float .f64 9218868437227405311, .float .f64 9218868437227405311, .float .f64 9218868437227405312, .float .f64 4607182418800017408, .float .f64 4336966441157787648, .float .f64 4607182418800017408, .float .f64 4845873199050653696, .float .f64 4607182418800017408, .float .f64 4845873199050653696, .float .f64 4845873199050653696, .float .f64 4613937818241073152, .float .f64 4845873199050653698, .float .f64 1, .float .f64 1, .float .f64 2, .float .f64 1, .float .f64 9223372036854775809, .float .f64 0] 26)) := rfl
  generalize w.alloc (.cells (fv sums).toArray 26) = w4 at hrd hB4 HE hsz
  rw [← HE.out]
  have hcx := rd_sum hrd k0
  have hcy := rd_sum hrd k1
  have hcz := rd_sum hrd k2
  clear hrd HE k0 k1 k2 hneg
  generalize sums[p * 3]?.getD 0 = x at *
  generalize sums[p * 3 + 1]?.getD 0 = y at *
  generalize sums[p * 3 + 2]?.getD 0 = z at *
  go_wp2
  rw [run_three]
  simp only [Result.andThen]
  have hax : (w4.alloc (.cells #[.float .f64 x, .float .f64 y, .float .f64 z] 26)).cell? ⟨w4.heap.size, 0, none⟩ = some (.float .f64 x) := cell_of_row _ _ 0 _ _ _ (heap_alloc_last w4 _)
  have hay : (w4.alloc (.cells #[.float .f64 x, .float .f64 y, .float .f64 z] 26)).cell? ⟨w4.heap.size, 1, none⟩ = some (.float .f64 y) := cell_of_row _ _ 1 _ _ _ (heap_alloc_last w4 _)
  have haz : (w4.alloc (.cells #[.float .f64 x, .float .f64 y, .float .f64 z] 26)).cell? ⟨w4.heap.size, 2, none⟩ = some (.float .f64 z) := cell_of_row _ _ 2 _ _ _ (heap_alloc_last w4 _)
  have hB5 : Below w.heap.size w (w4.alloc (.cells #[.float .f64 x, .float .f64 y, .float .f64 z] 26)) := below_alloc hB4 _
  have hsz5 : w4.heap.size < (w4.alloc (.cells #[.float .f64 x, .float .f64 y, .float .f64 z] 26)).heap.size := by simp
  generalize w4.alloc (.cells #[.float .f64 x, .float .f64 y, .float .f64 z] 26) = w5 at hax hay haz hB5 hsz5 ⊢
  clear hcx hcy hcz
  go_wp2
  (refine wp_region_lin [(0, true), (1, true), (2, true), (3, true), (5, true), (6, true), (4, false), (7, false), (8, false), (9, true), (10, true), (11, true), (14, true), (15, true), (12, false), (13, false), (16, false), (17, false), (18, true), (19, true), (20, false), (21, true), (22, true)] rfl rfl (by kernel_rfl) (by kernel_rfl) (fun _ _ _ _ _ h => h) ?_; (iterate 23 (first | (apply lin_take; (simp only [List.getElem?_toArray, List.getElem?_cons_succ, List.getElem?_cons_zero]; rfl); (rfl); (intro w' hb'; (try have k_hax := cell_keep hb' hax); (try have k_hay := cell_keep hb' hay); (try have k_haz := cell_keep hb' haz); (first | (go_simp; done) | (go_simp; with_reducible rfl) | (go_simp; go_bits; with_reducible rfl) | (go_simp; go_bits; done))); try simp only [Act.put, List.setIfInBounds_toArray, List.set_cons_zero, List.set_cons_succ]) | (apply lin_skip; (simp only [List.getElem?_toArray, List.getElem?_cons_succ, List.getElem?_cons_zero]; rfl); (rfl); try simp only [Act.put, List.setIfInBounds_toArray, List.set_cons_zero, List.set_cons_succ]) | (apply lin_pass; (simp only [List.getElem?_toArray, List.getElem?_cons_succ, List.getElem?_cons_zero]; rfl); (rfl); try simp only [Act.put, List.setIfInBounds_toArray, List.set_cons_zero, List.set_cons_succ]) | (apply lin_op; (simp only [List.getElem?_toArray, List.getElem?_cons_succ, List.getElem?_cons_zero]; rfl); (rfl); intro K hK; go_simp; (first | (go_at_call 19; refine (c_addL _ _ _ hsum _).mono ?_; rintro e w' ⟨rfl, k, rfl⟩) | (go_at_call 20; refine (c_rOne _ _).mono ?_; rintro e w' ⟨rfl, rfl⟩) | (go_at_call 18; refine (c_alike _ _ _).mono ?_; rintro e w' ⟨rfl, rfl⟩) | (go_at_call 22; refine (c_bytes8 _ _).mono ?_; rintro e w1 ⟨A, c, rfl, hr, hb⟩) | (go_at_call 21; (with_reducible refine (c_of8z z _ _ _ hwz (by assumption)).mono ?_); rintro e w' ⟨rfl, rfl⟩) | (go_at_call 23; refine (c_awake5 _).mono ?_; rintro e w1 ⟨rfl, hb⟩) | skip); refine hK _ _ ?_ ?_; (first | exact ⟨rfl, rfl, rfl, Nat.le_refl _, fun _ _ => rfl⟩ | assumption | exact below_alloc (Below.refl _ _) _ | exact below_drewN (by assumption) _); clear hK; try simp only [Act.put, List.setIfInBounds_toArray, List.set_cons_zero, List.set_cons_succ]))); refine lin_end ?_)
  go_wp2
  go_ret
  refine ⟨rfl, ?_⟩
  refine below_two hB5 ?_
  (repeat (first | exact Below.refl _ _ | exact ⟨rfl, rfl, rfl, Nat.le_refl _, fun _ _ => rfl⟩ | refine below_alloc ?_ _ | refine below_drewN ?_ _ | refine below_drew ?_ | refine below_two ?_ (by assumption)))
theorem w_FlotEdges (a0 : Int) (w : World) (w0 : (Lit.int .i64 a0).wf = true) :
    Calls Try.prog 3 #[.int .i64 a0] w fun e w' => e = .returned (.bool true) ∧ Below w.heap.size w w' := by
  have e0 := m255 a0
  rw [show a0 % 256 = ((a0 % 256).toNat : Int) by omega] at e0
  have h0 : (a0 % 256).toNat ≤ 255 := by omega
  generalize (a0 % 256).toNat = nn at *
  exact w_edges0 a0 w nn (nn % 18) e0 h0 (by omega) (Nat.mod_lt _ (by decide))
end Go.Proofs.Ytldeohbfhigagaa
