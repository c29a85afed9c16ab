/- Contract of conf's shape. -/
import Derived.Test.YtldeohbfhigagaaConf3
import Derived.Test.YtldeohbfhigagaaLinR
import Derived.Handy
set_option linter.unusedVariables false
set_option linter.unusedSimpArgs false
namespace Go.Proofs.Ytldeohbfhigagaa
open Go.RowKit Flo

/-- how many leaves a tree has at most, and what each level adds: the rest of shape -/
def halve (hf : Int) : Nat → Int → Int × Int → Int × Int
  | 0, _, r => r
  | t + 1, n, (nodes, height) => if n > 1 then halve hf t (n / hf) (nodes + max (n / hf) 1, height + 1) else (nodes, height)
/-- the thirteen cells of a Bounds -/
def bA (g ml hf h nd lv bu ce re bl st ar bs : Int) : Array Value := #[.int .i64 g, .int .i64 ml, .int .i64 hf, .int .i64 h, .int .i64 nd, .int .i64 lv, .int .i64 bu, .int .i64 ce, .int .i64 re, .int .i64 bl, .int .i64 st, .int .i64 ar, .int .i64 bs]
structure BndAt (W : World) (B : Nat) (T : TypeId) (g ml hf h nd lv bu ce re bl st ar bs : Int) : Prop where mk ::
  (row : W.heap[B]? = some (.cells (bA g ml hf h nd lv bu ce re bl st ar bs) T (0, 0)))
structure BndCells (W : World) (B : Nat) (g ml hf h nd lv bu ce re bl st ar bs : Int) : Prop where
  c0 : W.cell? ⟨B, 0, none⟩ = some (.int .i64 g)
  c1 : W.cell? ⟨B, 1, none⟩ = some (.int .i64 ml)
  c2 : W.cell? ⟨B, 2, none⟩ = some (.int .i64 hf)
  c3 : W.cell? ⟨B, 3, none⟩ = some (.int .i64 h)
  c4 : W.cell? ⟨B, 4, none⟩ = some (.int .i64 nd)
  c5 : W.cell? ⟨B, 5, none⟩ = some (.int .i64 lv)
  c6 : W.cell? ⟨B, 6, none⟩ = some (.int .i64 bu)
  c7 : W.cell? ⟨B, 7, none⟩ = some (.int .i64 ce)
  c8 : W.cell? ⟨B, 8, none⟩ = some (.int .i64 re)
  c9 : W.cell? ⟨B, 9, none⟩ = some (.int .i64 bl)
  c10 : W.cell? ⟨B, 10, none⟩ = some (.int .i64 st)
  c11 : W.cell? ⟨B, 11, none⟩ = some (.int .i64 ar)
  c12 : W.cell? ⟨B, 12, none⟩ = some (.int .i64 bs)
  fz : ∀ j, W.frozen? ⟨B, j, none⟩ = false
theorem BndAt.cells {W : World} {B : Nat} {T : TypeId} {g ml hf h nd lv bu ce re bl st ar bs : Int} (H : BndAt W B T g ml hf h nd lv bu ce re bl st ar bs) : BndCells W B g ml hf h nd lv bu ce re bl st ar bs := by
  constructor
  case fz => exact fun j => frozen_of_row _ _ _ _ _ H.row
  all_goals exact cell_of_row _ _ _ _ _ _ H.row
theorem BndAt.keep {W W' : World} {B B' : Nat} {T : TypeId} {g ml hf h nd lv bu ce re bl st ar bs : Int} (H : BndAt W B T g ml hf h nd lv bu ce re bl st ar bs) (hb : Below B' W W') (hB : B < B') : BndAt W' B T g ml hf h nd lv bu ce re bl st ar bs :=
  ⟨(hb.block B hB).trans H.row⟩
theorem BndAt.set3 {W : World} {B : Nat} {T : TypeId} {g ml hf h nd lv bu ce re bl st ar bs : Int} (H : BndAt W B T g ml hf h nd lv bu ce re bl st ar bs) (y : Int) : BndAt (W.setCell ⟨B, 3, none⟩ (.int .i64 y)) B T g ml hf y nd lv bu ce re bl st ar bs := ⟨heap_setCell_same _ _ _ _ _ _ H.row⟩
theorem BndAt.set4 {W : World} {B : Nat} {T : TypeId} {g ml hf h nd lv bu ce re bl st ar bs : Int} (H : BndAt W B T g ml hf h nd lv bu ce re bl st ar bs) (y : Int) : BndAt (W.setCell ⟨B, 4, none⟩ (.int .i64 y)) B T g ml hf h y lv bu ce re bl st ar bs := ⟨heap_setCell_same _ _ _ _ _ _ H.row⟩
theorem below_setB {B : Nat} {a w : World} (h : Below B a w) {b o : Nat} (hp : B ≤ b) (u : Value) : Below B a (w.setCell ⟨b, o, none⟩ u) := h.setCell hp u
theorem BndAt.fill {W : World} {B : Nat} {T : TypeId} (H : BndAt W B T 0 0 0 0 0 0 0 0 0 0 0 0 0) (g ml hf h nd lv bu ce re bl st ar bs : Int) :
    BndAt (((((((((((((W.setCell ⟨B, 0, none⟩ (.int .i64 g)).setCell ⟨B, 1, none⟩ (.int .i64 ml)).setCell ⟨B, 2, none⟩ (.int .i64 hf)).setCell ⟨B, 3, none⟩ (.int .i64 h)).setCell ⟨B, 4, none⟩ (.int .i64 nd)).setCell ⟨B, 5, none⟩ (.int .i64 lv)).setCell ⟨B, 6, none⟩ (.int .i64 bu)).setCell ⟨B, 7, none⟩ (.int .i64 ce)).setCell ⟨B, 8, none⟩ (.int .i64 re)).setCell ⟨B, 9, none⟩ (.int .i64 bl)).setCell ⟨B, 10, none⟩ (.int .i64 st)).setCell ⟨B, 11, none⟩ (.int .i64 ar)).setCell ⟨B, 12, none⟩ (.int .i64 bs)) B T g ml hf h nd lv bu ce re bl st ar bs := ⟨by
  refine heap_setCell_same _ _ _ (bA g ml hf h nd lv bu ce re bl st ar 0) _ _ ?_
  refine heap_setCell_same _ _ _ (bA g ml hf h nd lv bu ce re bl st 0 0) _ _ ?_
  refine heap_setCell_same _ _ _ (bA g ml hf h nd lv bu ce re bl 0 0 0) _ _ ?_
  refine heap_setCell_same _ _ _ (bA g ml hf h nd lv bu ce re 0 0 0 0) _ _ ?_
  refine heap_setCell_same _ _ _ (bA g ml hf h nd lv bu ce 0 0 0 0 0) _ _ ?_
  refine heap_setCell_same _ _ _ (bA g ml hf h nd lv bu 0 0 0 0 0 0) _ _ ?_
  refine heap_setCell_same _ _ _ (bA g ml hf h nd lv 0 0 0 0 0 0 0) _ _ ?_
  refine heap_setCell_same _ _ _ (bA g ml hf h nd 0 0 0 0 0 0 0 0) _ _ ?_
  refine heap_setCell_same _ _ _ (bA g ml hf h 0 0 0 0 0 0 0 0 0) _ _ ?_
  refine heap_setCell_same _ _ _ (bA g ml hf 0 0 0 0 0 0 0 0 0 0) _ _ ?_
  refine heap_setCell_same _ _ _ (bA g ml 0 0 0 0 0 0 0 0 0 0 0) _ _ ?_
  refine heap_setCell_same _ _ _ (bA g 0 0 0 0 0 0 0 0 0 0 0 0) _ _ ?_
  refine heap_setCell_same _ _ _ (bA 0 0 0 0 0 0 0 0 0 0 0 0 0) _ _ ?_
  exact H.row⟩
set_option maxHeartbeats 4000000 in
theorem c_shape (k v c f m l n x z G ml hf : Int) (fl : Nat) (w : World) (h : Good k v c f m l n x z) (hG : l + 1 - (l + c + 1) / 2 = G) (hml : 1 + x / G = ml) (hhf : (f + 1) / 2 = hf) :
    Calls Try.prog 52 #[.agg #[.int .i64 k, .int .i64 v, .int .i64 c, .int .i64 f, .int .i64 m, .int .i64 l, .int .i64 n, .int .i64 x, .int .i64 z, .float .f64 fl]] w fun e w' =>
      ∃ nd h, halve hf 600 ml (ml, 1) = (nd, h) ∧ 0 ≤ nd ∧ nd ≤ 1503 ∧ 1 ≤ h ∧ h ≤ 502 ∧ e = .returned (.agg #[.int .i64 G, .int .i64 ml, .int .i64 hf, .int .i64 h, .int .i64 nd, .int .i64 0, .int .i64 0, .int .i64 0, .int .i64 0, .int .i64 0, .int .i64 0, .int .i64 0, .int .i64 0]) ∧ Below w.heap.size w w' := by
  obtain ⟨b0, b1, b2, b3, b4, b5, b6, b7, b8, b9⟩ := h
  have hc1 : 1 ≤ c := by omega
  have hc2 : c ≤ 64 := by omega
  have hl1 : 1 ≤ l := by omega
  have hl2 : l ≤ 64 := by omega
  have H0 := CfgAt.new w k v c f m l n x z fl 50
  have HB0 : Below w.heap.size w (w.alloc (.cells #[.int .i64 k, .int .i64 v, .int .i64 c, .int .i64 f, .int .i64 m, .int .i64 l, .int .i64 n, .int .i64 x, .int .i64 z, .float .f64 fl] 50)) := below_alloc (Below.refl _ _) _
  have HS0 : (w.alloc (.cells #[.int .i64 k, .int .i64 v, .int .i64 c, .int .i64 f, .int .i64 m, .int .i64 l, .int .i64 n, .int .i64 x, .int .i64 z, .float .f64 fl] 50)).heap.size = w.heap.size + 1 := by simp
  go_enter Try.func52, Try.ntmps52
  go_wp2
  generalize w.alloc (.cells #[.int .i64 k, .int .i64 v, .int .i64 c, .int .i64 f, .int .i64 m, .int .i64 l, .int .i64 n, .int .i64 x, .int .i64 z, .float .f64 fl] 50) = wa at *
  rw [← HS0]
  have H1 := H0.keep (B' := wa.heap.size) (below_alloc (Below.refl _ _) (.cells #[.int .i64 0, .int .i64 0, .int .i64 0, .int .i64 0, .int .i64 0, .int .i64 0, .int .i64 0, .int .i64 0, .int .i64 0, .int .i64 0, .int .i64 0, .int .i64 0, .int .i64 0] 56)) (by omega)
  obtain ⟨g0, g1, g2, g3, g4, g5, g6, g7, g8, g9⟩ := H1
  (refine wp_region_lin [(0, true), (1, true), (2, true), (3, true), (4, false), (5, true), (6, true)] rfl rfl (by kernel_rfl) (by kernel_rfl) (fun _ _ _ _ _ h => h) ?_; (iterate 7 (first | (apply lin_take; (simp only [List.getElem?_toArray, List.getElem?_cons_succ, List.getElem?_cons_zero]; rfl); (rfl); (intro w' hb'; (try have k_g0 := cell_keep hb' g0); (try have k_g1 := cell_keep hb' g1); (try have k_g2 := cell_keep hb' g2); (try have k_g3 := cell_keep hb' g3); (try have k_g4 := cell_keep hb' g4); (try have k_g5 := cell_keep hb' g5); (try have k_g6 := cell_keep hb' g6); (try have k_g7 := cell_keep hb' g7); (try have k_g8 := cell_keep hb' g8); (try have k_g9 := cell_keep hb' g9); (first | (go_simp; done) | (go_simp; with_reducible rfl) | (go_simp; go_bits; with_reducible rfl) | (go_simp; go_bits; done))); try simp only [Act.put, List.setIfInBounds_toArray, List.set_cons_zero, List.set_cons_succ]) | (apply lin_skip; (simp only [List.getElem?_toArray, List.getElem?_cons_succ, List.getElem?_cons_zero]; rfl); (rfl); try simp only [Act.put, List.setIfInBounds_toArray, List.set_cons_zero, List.set_cons_succ]) | (apply lin_pass; (simp only [List.getElem?_toArray, List.getElem?_cons_succ, List.getElem?_cons_zero]; rfl); (rfl); try simp only [Act.put, List.setIfInBounds_toArray, List.set_cons_zero, List.set_cons_succ]) | (apply lin_op; (simp only [List.getElem?_toArray, List.getElem?_cons_succ, List.getElem?_cons_zero]; rfl); (rfl); intro K hK; go_simp; (first | (go_at_call 60; refine (c_half _ _ _ _ _ _ _ _ _ _ _ hc1 hc2 hl1 hl2).mono ?_; rintro e w2 ⟨rfl, hb2⟩) | skip); refine hK _ _ ?_ ?_; (first | exact ⟨rfl, rfl, rfl, Nat.le_refl _, fun _ _ => rfl⟩ | assumption | exact below_alloc (Below.refl _ _) _ | exact below_drewN (by assumption) _); clear hK; try simp only [Act.put, List.setIfInBounds_toArray, List.set_cons_zero, List.set_cons_succ]))); refine lin_end ?_)
  have rG : IntKind.i64.wrap (IntKind.i64.wrap (l + 1) - (l + c + 1) / 2) = l + 1 - (l + c + 1) / 2 := by rw [IntWalk.i64_in (l + 1) ⟨by omega, by omega⟩]; exact IntWalk.i64_in _ ⟨by omega, by omega⟩
  simp only [rG]
  have HB2 : Below wa.heap.size wa w2 := by
    refine below_two ?_ (by assumption)
    (repeat (first | exact Below.refl _ _ | exact ⟨rfl, rfl, rfl, Nat.le_refl _, fun _ _ => rfl⟩ | refine below_alloc ?_ _ | refine below_drewN ?_ _ | refine below_drew ?_ | refine below_two ?_ (by assumption)))
  have HZ2 : w2.heap[wa.heap.size]? = some (.cells #[.int .i64 0, .int .i64 0, .int .i64 0, .int .i64 0, .int .i64 0, .int .i64 0, .int .i64 0, .int .i64 0, .int .i64 0, .int .i64 0, .int .i64 0, .int .i64 0, .int .i64 0] 56 (0, 0)) := by
    rw [hb2.block _ (by simp)]
    exact heap_alloc_last wa _
  have H2 := H0.keep HB2 (by omega)
  have HS2 : wa.heap.size < w2.heap.size := by have := hb2.size; simp at this; omega
  clear g0 g1 g2 g3 g4 g5 g6 g7 g8 g9 hb2 rG
  rw [hG]
  have hg1 : 1 ≤ G := by omega
  have hg2 : G ≤ 32 := by omega
  have hq : x.tdiv G = x / G := Int.tdiv_eq_ediv_of_nonneg (by omega)
  have hq0 : 0 ≤ x / G := Int.ediv_nonneg (by omega) (by omega)
  have hq1 : x / G ≤ 500 := Int.le_trans (Int.ediv_le_self G (by omega)) (by omega)
  have hq2 : (f + 1).tdiv 2 = (f + 1) / 2 := Int.tdiv_eq_ediv_of_nonneg (by omega)
  have hG0 : G ≠ 0 := by omega
  obtain ⟨g0, g1, g2, g3, g4, g5, g6, g7, g8, g9⟩ := H2
  go_wp2
  have hlt : w.heap.size < w2.heap.size := by omega
  (refine wp_region_linR (Below w2.heap.size) (wayB w2.heap.size) [(0, true), (1, true), (2, true), (3, true), (4, true), (5, true), (6, true), (7, true), (8, true), (9, true), (10, true), (11, false), (12, false)] rfl rfl (by kernel_rfl) (by kernel_rfl) (fun _ _ _ _ _ h => h) ?_; (iterate 13 (first | (apply linR_take; (simp only [List.getElem?_toArray, List.getElem?_cons_succ, List.getElem?_cons_zero]; rfl); (rfl); (intro w' hb'; (try have k_g3 := keepB hlt hb' g3); (try have k_g7 := keepB hlt hb' g7); (first | (go_simp; done) | (go_simp; with_reducible rfl) | (go_simp; go_bits; with_reducible rfl) | (go_simp; go_bits; done))); try simp only [Act.put, List.setIfInBounds_toArray, List.set_cons_zero, List.set_cons_succ]) | (apply linR_skip; (simp only [List.getElem?_toArray, List.getElem?_cons_succ, List.getElem?_cons_zero]; rfl); (rfl); try simp only [Act.put, List.setIfInBounds_toArray, List.set_cons_zero, List.set_cons_succ]) | (apply linR_pass (wayB w2.heap.size); (simp only [List.getElem?_toArray, List.getElem?_cons_succ, List.getElem?_cons_zero]; rfl); (rfl); try simp only [Act.put, List.setIfInBounds_toArray, List.set_cons_zero, List.set_cons_succ]) | (apply linR_op; (simp only [List.getElem?_toArray, List.getElem?_cons_succ, List.getElem?_cons_zero]; rfl); (rfl); intro K hK; go_simp; (first | skip); refine hK _ _ ?_ ?_; (first | exact ⟨rfl, rfl, rfl, Nat.le_refl _, fun _ _ => rfl⟩ | assumption | exact belowB_alloc (by first | omega | (simp; omega) | simp) _ | exact below_anew (by first | omega | simp) _ _ | exact below_anew_drew (by first | omega | simp) _ _ | exact belowB_mono (by first | omega | (simp; omega) | simp) (by assumption)); clear hK; try simp only [Act.put, List.setIfInBounds_toArray, List.set_cons_zero, List.set_cons_succ]))); refine linR_end ?_)
  have t1 : IntKind.i64.wrap (x / G) = x / G := IntWalk.i64_in _ ⟨by omega, by omega⟩
  have t2 : IntKind.i64.wrap (1 + x / G) = 1 + x / G := IntWalk.i64_in _ ⟨by omega, by omega⟩
  have t3 : IntKind.i64.wrap (f + 1) = f + 1 := IntWalk.i64_in _ ⟨by omega, by omega⟩
  have t4 : IntKind.i64.wrap ((f + 1) / 2) = (f + 1) / 2 := IntWalk.i64_in _ ⟨by omega, by omega⟩
  simp only [t1, t2, t3, hq2, t4]
  clear g0 g1 g2 g3 g4 g5 g6 g7 g8 g9 t1 t2 t3 t4 hq hq2
  have hml1 : 1 ≤ ml := by omega
  have hml2 : ml ≤ 501 := by omega
  have hhf1 : 2 ≤ hf := by omega
  have hhf2 : hf ≤ 4 := by omega
  rw [hml, hhf]
  clear hG hml hhf hq0 hq1
  have HW : BndAt (w2.alloc (.cells (bA G ml hf 1 0 0 0 0 0 0 0 0 0) 56)).drew w2.heap.size 56 G ml hf 1 0 0 0 0 0 0 0 0 0 := ⟨heap_alloc_last w2 _⟩
  have HB3 : Below w2.heap.size w2 (w2.alloc (.cells (bA G ml hf 1 0 0 0 0 0 0 0 0 0) 56)).drew := below_drew (below_alloc (Below.refl _ _) _)
  have HE : Hid ((w2.alloc (.cells (bA G ml hf 1 0 0 0 0 0 0 0 0 0) 56)).drew = (w2.alloc (.cells #[.int .i64 G, .int .i64 ml, .int .i64 hf, .int .i64 1, .int .i64 0, .int .i64 0, .int .i64 0, .int .i64 0, .int .i64 0, .int .i64 0, .int .i64 0, .int .i64 0, .int .i64 0] 56)).drew) := rfl
  generalize (w2.alloc (.cells (bA G ml hf 1 0 0 0 0 0 0 0 0 0) 56)).drew = w3 at HW HB3 HE
  rw [← HE.out]
  clear HE
  obtain ⟨c0, c1, c2, c3, c4, c5, c6, c7, c8, c9, c10, c11, c12, fz⟩ := HW.cells
  go_wp2
  clear c0 c1 c2 c3 c4 c5 c6 c7 c8 c9 c10 c11 c12 fz
  have HW4 := HW.set4 ml
  have HB4 : Below w2.heap.size w2 (w3.setCell ⟨w2.heap.size, 4, none⟩ (.int .i64 ml)) := below_setB HB3 (Nat.le_refl _) _
  generalize w3.setCell ⟨w2.heap.size, 4, none⟩ (.int .i64 ml) = w4 at HW4 HB4 ⊢
  clear HW HB3 w3
  go_loopw [5] (fun s5 wr => ∃ (n' nd' h' : Int) (t : Nat), s5 = .int .i64 n' ∧ BndAt wr w2.heap.size 56 G ml hf h' nd' 0 0 0 0 0 0 0 0 ∧ Below w2.heap.size w2 wr ∧ 0 ≤ n' ∧ n' ≤ 501 ∧ 0 ≤ nd' ∧ nd' + 2 * n' ≤ 1503 ∧ 1 ≤ h' ∧ h' + n' ≤ 502 ∧ n' ≤ t ∧ halve hf t n' (nd', h') = halve hf 600 ml (ml, 1)) (fun s5 _ => (intOf s5).toNat)
  case atStart => exact ⟨ml, ml, 1, 600, rfl, HW4, HB4, by omega, by omega, by omega, by omega, by omega, by omega, by omega, rfl⟩
  case round =>
    obtain ⟨n', nd', h', t, rfl, HR, HBr, j1, j2, j3, j4, j5, j6, j7, hfin⟩ := hrel
    obtain ⟨c0, c1, c2, c3, c4, c5, c6, c7, c8, c9, c10, c11, c12, fz⟩ := HR.cells
    by_cases hgt : 1 < n'
    · have hq : n'.tdiv hf = n' / hf := Int.tdiv_eq_ediv_of_nonneg (by omega)
      have hn2 : 0 ≤ n' / hf ∧ 2 * (n' / hf) ≤ n' := by
        have : hf = 2 ∨ hf = 3 ∨ hf = 4 := by omega
        rcases this with h | h | h <;> subst h <;> omega
      obtain ⟨hn2a, hn2b⟩ := hn2
      have hhf0 : hf ≠ 0 := by omega
      obtain ⟨t', rfl⟩ : ∃ t', t = t' + 1 := ⟨t - 1, by omega⟩
      rw [halve, if_pos hgt] at hfin
      generalize n' / hf = n2 at *
      by_cases h0 : n2 < 1
      · have hmx : max n2 1 = 1 := by omega
        rw [hmx] at hfin
        go_wp2
        go_roundw
        case rel => exact ⟨n2, nd' + 1, h' + 1, t', rfl, (HR.set4 _).set3 _, below_setB (below_setB HBr (Nat.le_refl _) _) (Nat.le_refl _) _, by omega, by omega, by omega, by omega, by omega, by omega, by omega, hfin⟩
        case measure => simp [intOf]; omega
      · have hmx : max n2 1 = n2 := by omega
        rw [hmx] at hfin
        go_wp2
        go_roundw
        case rel => exact ⟨n2, nd' + n2, h' + 1, t', rfl, (HR.set4 _).set3 _, below_setB (below_setB HBr (Nat.le_refl _) _) (Nat.le_refl _) _, by omega, by omega, by omega, by omega, by omega, by omega, by omega, hfin⟩
        case measure => simp [intOf]; omega
    · have hend : halve hf t n' (nd', h') = (nd', h') := by
        cases t with
        | zero => rfl
        | succ t => rw [halve, if_neg hgt]
      rw [hend] at hfin
      have HZ : BndAt wr (w.heap.size + 1) 56 0 0 0 0 0 0 0 0 0 0 0 0 0 := ⟨by rw [← HS0]; exact (HBr.block _ HS2).trans HZ2⟩
      obtain ⟨d0, d1, d2, d3, d4, d5, d6, d7, d8, d9, d10, d11, d12, dz⟩ := HZ.cells
      have HFIN : Hid (halve hf 600 ml (ml, 1) = (nd', h')) := hfin.symm
      clear hend hfin
      go_wp2
      have HF := HZ.fill G ml hf h' nd' 0 0 0 0 0 0 0 0
      have HBF : Below w.heap.size w (((((((((((((wr.setCell ⟨w.heap.size + 1, 0, none⟩ (.int .i64 G)).setCell ⟨w.heap.size + 1, 1, none⟩ (.int .i64 ml)).setCell ⟨w.heap.size + 1, 2, none⟩ (.int .i64 hf)).setCell ⟨w.heap.size + 1, 3, none⟩ (.int .i64 h')).setCell ⟨w.heap.size + 1, 4, none⟩ (.int .i64 nd')).setCell ⟨w.heap.size + 1, 5, none⟩ (.int .i64 0)).setCell ⟨w.heap.size + 1, 6, none⟩ (.int .i64 0)).setCell ⟨w.heap.size + 1, 7, none⟩ (.int .i64 0)).setCell ⟨w.heap.size + 1, 8, none⟩ (.int .i64 0)).setCell ⟨w.heap.size + 1, 9, none⟩ (.int .i64 0)).setCell ⟨w.heap.size + 1, 10, none⟩ (.int .i64 0)).setCell ⟨w.heap.size + 1, 11, none⟩ (.int .i64 0)).setCell ⟨w.heap.size + 1, 12, none⟩ (.int .i64 0)) := by
        refine below_two HB0 ?_
        refine Below.trans (HB2.mono (by omega)) ?_
        refine Below.trans (HBr.mono (by omega)) ?_
        iterate 13 (refine below_setB ?_ (by omega) _)
        exact Below.refl _ _
      generalize (((((((((((((wr.setCell ⟨w.heap.size + 1, 0, none⟩ (.int .i64 G)).setCell ⟨w.heap.size + 1, 1, none⟩ (.int .i64 ml)).setCell ⟨w.heap.size + 1, 2, none⟩ (.int .i64 hf)).setCell ⟨w.heap.size + 1, 3, none⟩ (.int .i64 h')).setCell ⟨w.heap.size + 1, 4, none⟩ (.int .i64 nd')).setCell ⟨w.heap.size + 1, 5, none⟩ (.int .i64 0)).setCell ⟨w.heap.size + 1, 6, none⟩ (.int .i64 0)).setCell ⟨w.heap.size + 1, 7, none⟩ (.int .i64 0)).setCell ⟨w.heap.size + 1, 8, none⟩ (.int .i64 0)).setCell ⟨w.heap.size + 1, 9, none⟩ (.int .i64 0)).setCell ⟨w.heap.size + 1, 10, none⟩ (.int .i64 0)).setCell ⟨w.heap.size + 1, 11, none⟩ (.int .i64 0)).setCell ⟨w.heap.size + 1, 12, none⟩ (.int .i64 0)) = w5 at HF HBF ⊢
      obtain ⟨e0, e1, e2, e3, e4, e5, e6, e7, e8, e9, e10, e11, e12, ez⟩ := HF.cells
      clear HF HZ d0 d1 d2 d3 d4 d5 d6 d7 d8 d9 d10 d11 d12 dz c0 c1 c2 c3 c4 c5 c6 c7 c8 c9 c10 c11 c12 fz
      (try simp only [Exit.inBlock, Exit.then])
      refine bodyPost_ret (by simp [results, Try.results52, go_sem, e0, e1, e2, e3, e4, e5, e6, e7, e8, e9, e10, e11, e12]; rfl) rfl ?_
      exact ⟨nd', h', HFIN.out, by omega, by omega, by omega, by omega, rfl, HBF⟩
end Go.Proofs.Ytldeohbfhigagaa
