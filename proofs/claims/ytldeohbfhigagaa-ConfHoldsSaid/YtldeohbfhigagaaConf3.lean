/- Contracts of node.Long and of conf's shape. -/
import Derived.Test.YtldeohbfhigagaaConf2
set_option linter.unusedVariables false
set_option linter.unusedSimpArgs false
namespace Go.Proofs.Ytldeohbfhigagaa
open Go.RowKit Flo

/-- the ten cells of a Config's box -/
structure CfgAt (W : World) (B : Nat) (k v c f m l n x z : Int) (fl : Nat) : Prop where
  g0 : W.cell? ⟨B, 0, none⟩ = some (.int .i64 k)
  g1 : W.cell? ⟨B, 1, none⟩ = some (.int .i64 v)
  g2 : W.cell? ⟨B, 2, none⟩ = some (.int .i64 c)
  g3 : W.cell? ⟨B, 3, none⟩ = some (.int .i64 f)
  g4 : W.cell? ⟨B, 4, none⟩ = some (.int .i64 m)
  g5 : W.cell? ⟨B, 5, none⟩ = some (.int .i64 l)
  g6 : W.cell? ⟨B, 6, none⟩ = some (.int .i64 n)
  g7 : W.cell? ⟨B, 7, none⟩ = some (.int .i64 x)
  g8 : W.cell? ⟨B, 8, none⟩ = some (.int .i64 z)
  g9 : W.cell? ⟨B, 9, none⟩ = some (.float .f64 fl)
theorem CfgAt.new (w : World) (k v c f m l n x z : Int) (fl : Nat) (T : TypeId) : CfgAt (w.alloc (.cells #[.int .i64 k, .int .i64 v, .int .i64 c, .int .i64 f, .int .i64 m, .int .i64 l, .int .i64 n, .int .i64 x, .int .i64 z, .float .f64 fl] T)) w.heap.size k v c f m l n x z fl := by
  constructor
  all_goals exact cell_of_row _ _ _ _ _ _ (heap_alloc_last w _)
theorem CfgAt.keep {W W' : World} {B B' : Nat} {k v c f m l n x z : Int} {fl : Nat} (h : CfgAt W B k v c f m l n x z fl) (hb : Below B' W W') (hB : B < B') : CfgAt W' B k v c f m l n x z fl := by
  obtain ⟨g0, g1, g2, g3, g4, g5, g6, g7, g8, g9⟩ := h
  constructor
  all_goals (rw [hb.cell hB]; assumption)
/-- a Config's whole numbers may be -/
structure Good (k v c f m l n x z : Int) : Prop where
  b0 : 1 ≤ k ∧ k ≤ 32
  b1 : 8 ≤ v ∧ v ≤ 64
  b2 : 1 ≤ c ∧ c ≤ 8
  b3 : 3 ≤ f ∧ f ≤ 8
  b4 : f * c ≤ m ∧ m ≤ 64
  b5 : c + 1 ≤ l ∧ l ≤ 32
  b6 : 1 ≤ n ∧ n ≤ 64
  b7 : 1 ≤ x ∧ x ≤ 500
  b8 : 1 ≤ z ∧ z ≤ 8
  b9 : 1 ≤ m
theorem okNums_good {k v c f m l n x z : Int} (h : okNums k v c f m l n x z = true) : Good k v c f m l n x z := by
  simp only [okNums, Bool.and_eq_true, win_true] at h
  obtain ⟨⟨⟨⟨⟨⟨⟨⟨h0, h1⟩, h2⟩, h3⟩, h4⟩, h5⟩, h6⟩, h7⟩, h8⟩ := h
  have hm := mul_in f c h3 h2
  rw [IntWalk.i64_in _ ⟨by omega, by omega⟩] at h4 h5
  exact ⟨h0, h1, h2, h3, h4, h5, h6, h7, h8, by omega⟩
theorem Good.all {k v c f m l n x z : Int} (h : Good k v c f m l n x z) : ∀ y ∈ cfgL k v c f m l n x z, 0 ≤ y ∧ y ≤ 1000 := by
  obtain ⟨h0, h1, h2, h3, h4, h5, h6, h7, h8, h9⟩ := h
  unfold cfgL
  simp only [List.mem_cons, List.not_mem_nil, or_false]
  omega
/-- how long a node is -/
def nodeLong (k v f m l : Int) : Int := 5 + max (l * (k + 2 + v + 2)) (f * 4 + (f - 1) * (k + 2) + m * (k + v + 5))
set_option maxHeartbeats 4000000 in
theorem c_nodeLong (k v c f m l n x z : Int) (fl : Nat) (w : World) (h : Good k v c f m l n x z) :
    Calls Try.prog 41 #[.agg #[.int .i64 k, .int .i64 v, .int .i64 c, .int .i64 f, .int .i64 m, .int .i64 l, .int .i64 n, .int .i64 x, .int .i64 z, .float .f64 fl]] w fun e w' => e = .returned (.int .i64 (nodeLong k v f m l)) ∧ Below w.heap.size w w' := by
  have hAll := h.all
  obtain ⟨b0, b1, b2, b3, b4, b5, b6, b7, b8, b9⟩ := h
  have hk : 0 ≤ k ∧ k ≤ 1000 := by omega
  have hv : 0 ≤ v ∧ v ≤ 1000 := by omega
  have m1a : 0 ≤ l * (k + 2 + v + 2) := Int.mul_nonneg (by omega) (by omega)
  have m1b : l * (k + 2 + v + 2) ≤ 32 * 100 := Int.mul_le_mul b5.2 (by omega) (by omega) (by decide)
  have m2a : 0 ≤ (f - 1) * (k + 2) := Int.mul_nonneg (by omega) (by omega)
  have m2b : (f - 1) * (k + 2) ≤ 7 * 34 := Int.mul_le_mul (by omega) (by omega) (by omega) (by decide)
  have m3a : 0 ≤ m * (k + v + 5) := Int.mul_nonneg (by omega) (by omega)
  have m3b : m * (k + v + 5) ≤ 64 * 101 := Int.mul_le_mul b4.2 (by omega) (by omega) (by decide)
  have wq1 : wrap64 (l * (k + 2 + v + 2)) = l * (k + 2 + v + 2) := by unfold wrap64; omega
  have wq2 : wrap64 ((f - 1) * (k + 2)) = (f - 1) * (k + 2) := by unfold wrap64; omega
  have wq3 : wrap64 (m * (k + v + 5)) = m * (k + v + 5) := by unfold wrap64; omega
  have hS0 : 0 ≤ f * 4 + (f - 1) * (k + 2) + m * (k + v + 5) ∧ f * 4 + (f - 1) * (k + 2) + m * (k + v + 5) ≤ 10000 := by omega
  clear wq2 wq3
  go_enter Try.func41, Try.ntmps41
  go_wp2_with (go_at_call 57; refine (c_nodeOk _ _ _ _ _ _ _ _ _ _ _ hAll).mono ?_; rintro e w1 ⟨rfl, hb⟩; obtain ⟨g0, g1, g2, g3, g4, g5, g6, g7, g8, g9⟩ := CfgAt.keep (CfgAt.new w k v c f m l n x z fl _) hb (by simp))
  (refine wp_region_lin [(0, true), (1, true), (2, true), (3, true), (4, true), (5, true), (6, true), (7, true), (8, true), (9, true), (10, true), (11, true), (12, true), (13, true), (14, true), (15, false), (16, true), (17, true), (18, true)] rfl rfl (by kernel_rfl) (by kernel_rfl) (fun _ _ _ _ _ h => h) ?_; (iterate 19 (first | (apply lin_take; (simp only [List.getElem?_toArray, List.getElem?_cons_succ, List.getElem?_cons_zero]; rfl); (rfl); (intro w' hb'; (try have k_g0 := cell_keep hb' g0); (try have k_g1 := cell_keep hb' g1); (try have k_g2 := cell_keep hb' g2); (try have k_g3 := cell_keep hb' g3); (try have k_g4 := cell_keep hb' g4); (try have k_g5 := cell_keep hb' g5); (try have k_g6 := cell_keep hb' g6); (try have k_g7 := cell_keep hb' g7); (try have k_g8 := cell_keep hb' g8); (try have k_g9 := cell_keep hb' g9); (first | (go_simp; done) | (go_simp; with_reducible rfl) | (go_simp; go_bits; with_reducible rfl) | (go_simp; go_bits; done))); try simp only [Act.put, List.setIfInBounds_toArray, List.set_cons_zero, List.set_cons_succ]) | (apply lin_skip; (simp only [List.getElem?_toArray, List.getElem?_cons_succ, List.getElem?_cons_zero]; rfl); (rfl); try simp only [Act.put, List.setIfInBounds_toArray, List.set_cons_zero, List.set_cons_succ]) | (apply lin_pass; (simp only [List.getElem?_toArray, List.getElem?_cons_succ, List.getElem?_cons_zero]; rfl); (rfl); try simp only [Act.put, List.setIfInBounds_toArray, List.set_cons_zero, List.set_cons_succ]) | (apply lin_op; (simp only [List.getElem?_toArray, List.getElem?_cons_succ, List.getElem?_cons_zero]; rfl); (rfl); intro K hK; go_simp; (first | (go_at_call 54; refine (c_msgLong _ _ _ _ _ _ _ _ _ _ _ hk hv).mono ?_; rintro e w2 ⟨rfl, hb2⟩) | skip); refine hK _ _ ?_ ?_; (first | exact ⟨rfl, rfl, rfl, Nat.le_refl _, fun _ _ => rfl⟩ | assumption | exact below_alloc (Below.refl _ _) _ | exact below_drewN (by assumption) _); clear hK; try simp only [Act.put, List.setIfInBounds_toArray, List.set_cons_zero, List.set_cons_succ]))); refine lin_end ?_)
  have r0 : ¬ f - 1 < 0 := by omega
  have r1 : IntKind.i64.wrap (f - 1) = f - 1 := IntWalk.i64_in _ ⟨by omega, by omega⟩
  have r2 : IntKind.i64.wrap (f * 4) = f * 4 := IntWalk.i64_in _ ⟨by omega, by omega⟩
  have r3 : IntKind.i64.wrap (k + 2) = k + 2 := IntWalk.i64_in _ ⟨by omega, by omega⟩
  have r5 : IntKind.i64.wrap ((f - 1) * (k + 2)) = (f - 1) * (k + 2) := IntWalk.i64_in _ ⟨by omega, by omega⟩
  have r6 : IntKind.i64.wrap (f * 4 + (f - 1) * (k + 2)) = f * 4 + (f - 1) * (k + 2) := IntWalk.i64_in _ ⟨by omega, by omega⟩
  have r7 : IntKind.i64.wrap (m * (k + v + 5)) = m * (k + v + 5) := IntWalk.i64_in _ ⟨by omega, by omega⟩
  have r8 : IntKind.i64.wrap (f * 4 + (f - 1) * (k + 2) + m * (k + v + 5)) = f * 4 + (f - 1) * (k + 2) + m * (k + v + 5) := IntWalk.i64_in _ ⟨by omega, by omega⟩
  simp only [r1, r2, r3, if_neg r0, r5, r6, r7, r8]
  have hN : nodeLong k v f m l = 5 + max (l * (k + 2 + v + 2)) (f * 4 + (f - 1) * (k + 2) + m * (k + v + 5)) := rfl
  clear r0 r1 r2 r3 r5 r6 r7 r8 wq1
  generalize f * 4 + (f - 1) * (k + 2) + m * (k + v + 5) = s2 at *
  generalize l * (k + 2 + v + 2) = s1 at *
  go_wp2
  all_goals
    go_ret
    refine ⟨?_, below_two (below_two (below_alloc (Below.refl _ _) _) hb) (below_two (below_drew (Below.refl _ _)) hb2)⟩
    try rw [hN]
    first | (rw [show max s1 s2 = s2 by omega]; rfl) | (rw [show max s1 s2 = s1 by omega]; rfl)
end Go.Proofs.Ytldeohbfhigagaa
