/- The walk of ConfGrows. -/
import Derived.Test.YtldeohbfhigagaaGrow
import Derived.Test.YtldeohbfhigagaaMask
set_option linter.unusedVariables false
set_option linter.unusedSimpArgs false
namespace Go.Proofs.Ytldeohbfhigagaa
open Go.RowKit Flo

theorem c_bdG (f x : Int) (w : World) : Calls Try.prog 37 #[.agg #[.int .i64 4, .int .i64 8, .int .i64 1, .int .i64 f, .int .i64 16, .int .i64 6, .int .i64 3, .int .i64 x, .int .i64 4, .float .f64 4602678819172646912]] w fun e w' =>
    e = .returned (.tuple #[.agg (bdR (gA f x)).arr, .bool (bdOk (gA f x))]) ∧ Below w.heap.size w w' := c_bounds (gA f x) w (show (4602678819172646912 : Nat) < 18446744073709551616 by decide)
set_option maxHeartbeats 4000000 in
theorem w_grows0 (a0 a1 a2 : Int) (kk mm ff : Nat) (w : World) (h0 : bits BinOp.and IntKind.i64 a0 255 = (kk : Int)) (h1 : bits BinOp.and IntKind.i64 a1 127 = (mm : Int)) (h2 : bits BinOp.and IntKind.i64 a2 3 = (ff : Int)) (hk : kk ≤ 255) (hm : mm ≤ 127) (hf : ff ≤ 3) :
    Calls Try.prog 11 #[.int .i64 a0, .int .i64 a1, .int .i64 a2] w fun e w' => e = .returned (.bool true) ∧ Below w.heap.size w w' := by
  obtain ⟨o1, o2, q1, q2, q3, q4, q5⟩ := grow_keys ((ff : Int) + 3) ((kk : Int) + 1) ((kk : Int) + 1 + (mm : Int)) (by omega) (by omega) (by omega) (by omega)
  obtain ⟨o3, q6, q7⟩ := grow_wide ((ff : Int) + 3) ((kk : Int) + 1 + (mm : Int)) (by omega) (by omega) (by omega)
  have C1 := fun W => c_bdG ((ff : Int) + 3) ((kk : Int) + 1) W
  have C2 := fun W => c_bdG ((ff : Int) + 3) ((kk : Int) + 1 + (mm : Int)) W
  have C3 := fun W => c_bdG 8 ((kk : Int) + 1 + (mm : Int)) W
  rw [o1] at C1
  rw [o2] at C2
  rw [o3] at C3
  clear o1 o2 o3
  generalize bdR (gA ((ff : Int) + 3) ((kk : Int) + 1)) = b1 at *
  generalize bdR (gA ((ff : Int) + 3) ((kk : Int) + 1 + (mm : Int))) = b2 at *
  generalize bdR (gA 8 ((kk : Int) + 1 + (mm : Int))) = b3 at *
  obtain ⟨x0, x1, x2, x3, x4, x5, x6, x7, x8, x9, x10, x11, x12⟩ := b1
  obtain ⟨y0, y1, y2, y3, y4, y5, y6, y7, y8, y9, y10, y11, y12⟩ := b2
  obtain ⟨z0, z1, z2, z3, z4, z5, z6, z7, z8, z9, z10, z11, z12⟩ := b3
  simp only [Bd.arr, bA] at C1 C2 C3
  simp only at q1 q2 q3 q4 q5 q6 q7
  subst q7
  have hk0 : (0 : Int) ≤ (kk : Int) := by omega
  have hm0 : (0 : Int) ≤ (mm : Int) := by omega
  have hf0 : (0 : Int) ≤ (ff : Int) := by omega
  go_enter Try.func11, Try.ntmps11
  go_upto_region 3 with (apply wpl_storeN; rfl; rfl; rfl; (first | rfl | simp); rfl; kernel_rfl; rfl; (simp [Value.oneCell']); simp only [Act.put])
  have R1 := Row.new w #[.int .i64 4, .int .i64 8, .int .i64 1, .int .i64 ((ff : Int) + 3), .int .i64 16, .int .i64 6, .int .i64 3, .int .i64 ((kk : Int) + 1), .int .i64 4, .float .f64 4602678819172646912] 50
  have HB1 := below_alloc (Below.refl w.heap.size w) (.cells #[.int .i64 4, .int .i64 8, .int .i64 1, .int .i64 ((ff : Int) + 3), .int .i64 16, .int .i64 6, .int .i64 3, .int .i64 ((kk : Int) + 1), .int .i64 4, .float .f64 4602678819172646912] 50)
  generalize w.alloc (.cells #[.int .i64 4, .int .i64 8, .int .i64 1, .int .i64 ((ff : Int) + 3), .int .i64 16, .int .i64 6, .int .i64 3, .int .i64 ((kk : Int) + 1), .int .i64 4, .float .f64 4602678819172646912] 50) = w1 at *
  go_upto_region 4 with (first | (apply wpl_loadS (ty := 50); rfl; rfl; rfl; kernel_rfl; (first | assumption | exact Row.new _ _ _ | (apply Row.alloc; (first | assumption | exact Row.new _ _ _ | (apply Row.alloc; (first | assumption | exact Row.new _ _ _))))); kernel_rfl; simp only [Act.put, List.setIfInBounds_toArray, List.set_cons_zero, List.set_cons_succ]) | (go_at_call 37; (with_reducible refine (C1 _).mono ?_); rintro e w2 ⟨rfl, hb2⟩))
  have hlt1 : w.heap.size < w1.heap.size := R1.lt
  have hs2 := hb2.size
  have R3 := (R1.below hb2 R1.lt).alloc (.cells #[.int .i64 x0, .int .i64 x1, .int .i64 x2, .int .i64 x3, .int .i64 x4, .int .i64 x5, .int .i64 x6, .int .i64 x7, .int .i64 x8, .int .i64 x9, .int .i64 x10, .int .i64 x11, .int .i64 x12] 56)
  have X3 := Row.new w2 #[.int .i64 x0, .int .i64 x1, .int .i64 x2, .int .i64 x3, .int .i64 x4, .int .i64 x5, .int .i64 x6, .int .i64 x7, .int .i64 x8, .int .i64 x9, .int .i64 x10, .int .i64 x11, .int .i64 x12] 56
  have HB3 := below_alloc (below_two HB1 hb2) (.cells #[.int .i64 x0, .int .i64 x1, .int .i64 x2, .int .i64 x3, .int .i64 x4, .int .i64 x5, .int .i64 x6, .int .i64 x7, .int .i64 x8, .int .i64 x9, .int .i64 x10, .int .i64 x11, .int .i64 x12] 56)
  have hl3 : w.heap.size < w2.heap.size := by omega
  generalize w2.alloc (.cells #[.int .i64 x0, .int .i64 x1, .int .i64 x2, .int .i64 x3, .int .i64 x4, .int .i64 x5, .int .i64 x6, .int .i64 x7, .int .i64 x8, .int .i64 x9, .int .i64 x10, .int .i64 x11, .int .i64 x12] 56) = w3 at *
  generalize w2.heap.size = p1 at *
  clear R1 HB1 hb2 hs2 hlt1
  have g7 := R3.cell 7 rfl
  have gz := R3.free
  have hne1 : p1 ≠ w.heap.size := by omega
  go_upto_region 5 with (fail)
  have R4 : Row (w3.setCell ⟨w.heap.size, 7, none⟩ (.int .i64 ((kk : Int) + 1 + (mm : Int)))) w.heap.size #[.int .i64 4, .int .i64 8, .int .i64 1, .int .i64 ((ff : Int) + 3), .int .i64 16, .int .i64 6, .int .i64 3, .int .i64 ((kk : Int) + 1 + (mm : Int)), .int .i64 4, .float .f64 4602678819172646912] 50 := R3.set 7 (.int .i64 ((kk : Int) + 1 + (mm : Int)))
  have X4 := X3.set_other 7 (.int .i64 ((kk : Int) + 1 + (mm : Int))) hne1
  have HB4 : Below w.heap.size w (w3.setCell ⟨w.heap.size, 7, none⟩ (.int .i64 ((kk : Int) + 1 + (mm : Int)))) := below_setB HB3 (Nat.le_refl _) _
  generalize w3.setCell ⟨w.heap.size, 7, none⟩ (.int .i64 ((kk : Int) + 1 + (mm : Int))) = w4 at *
  clear R3 X3 HB3 g7 gz
  go_upto_region 6 with (first | (apply wpl_loadS (ty := 50); rfl; rfl; rfl; kernel_rfl; (first | assumption | exact Row.new _ _ _ | (apply Row.alloc; (first | assumption | exact Row.new _ _ _ | (apply Row.alloc; (first | assumption | exact Row.new _ _ _))))); kernel_rfl; simp only [Act.put, List.setIfInBounds_toArray, List.set_cons_zero, List.set_cons_succ]) | (go_at_call 37; (with_reducible refine (C2 _).mono ?_); rintro e w5 ⟨rfl, hb5⟩))
  have hs5 := hb5.size
  have hx4 := X4.lt
  have R6 := (R4.below hb5 R4.lt).alloc (.cells #[.int .i64 y0, .int .i64 z1, .int .i64 y2, .int .i64 y3, .int .i64 y4, .int .i64 y5, .int .i64 y6, .int .i64 y7, .int .i64 y8, .int .i64 y9, .int .i64 y10, .int .i64 y11, .int .i64 y12] 56)
  have X6 := (X4.below hb5 X4.lt).alloc (.cells #[.int .i64 y0, .int .i64 z1, .int .i64 y2, .int .i64 y3, .int .i64 y4, .int .i64 y5, .int .i64 y6, .int .i64 y7, .int .i64 y8, .int .i64 y9, .int .i64 y10, .int .i64 y11, .int .i64 y12] 56)
  have Y6 := Row.new w5 #[.int .i64 y0, .int .i64 z1, .int .i64 y2, .int .i64 y3, .int .i64 y4, .int .i64 y5, .int .i64 y6, .int .i64 y7, .int .i64 y8, .int .i64 y9, .int .i64 y10, .int .i64 y11, .int .i64 y12] 56
  have HB6 := below_alloc (below_two HB4 hb5) (.cells #[.int .i64 y0, .int .i64 z1, .int .i64 y2, .int .i64 y3, .int .i64 y4, .int .i64 y5, .int .i64 y6, .int .i64 y7, .int .i64 y8, .int .i64 y9, .int .i64 y10, .int .i64 y11, .int .i64 y12] 56)
  have hl6 : p1 < w5.heap.size := by omega
  generalize w5.alloc (.cells #[.int .i64 y0, .int .i64 z1, .int .i64 y2, .int .i64 y3, .int .i64 y4, .int .i64 y5, .int .i64 y6, .int .i64 y7, .int .i64 y8, .int .i64 y9, .int .i64 y10, .int .i64 y11, .int .i64 y12] 56) = w6 at *
  generalize w5.heap.size = p2 at *
  clear R4 X4 HB4 hb5 hs5 hx4
  have g3 := R6.cell 3 rfl
  have gz := R6.free
  have hne2 : p2 ≠ w.heap.size := by omega
  go_upto_region 7 with (fail)
  have R7 : Row (w6.setCell ⟨w.heap.size, 3, none⟩ (.int .i64 8)) w.heap.size #[.int .i64 4, .int .i64 8, .int .i64 1, .int .i64 8, .int .i64 16, .int .i64 6, .int .i64 3, .int .i64 ((kk : Int) + 1 + (mm : Int)), .int .i64 4, .float .f64 4602678819172646912] 50 := R6.set 3 (.int .i64 8)
  have X7 := X6.set_other 3 (.int .i64 8) hne1
  have Y7 := Y6.set_other 3 (.int .i64 8) hne2
  have HB7 : Below w.heap.size w (w6.setCell ⟨w.heap.size, 3, none⟩ (.int .i64 8)) := below_setB HB6 (Nat.le_refl _) _
  generalize w6.setCell ⟨w.heap.size, 3, none⟩ (.int .i64 8) = w7 at *
  clear R6 X6 Y6 HB6 g3 gz
  go_upto_region 8 with (first | (apply wpl_loadS (ty := 50); rfl; rfl; rfl; kernel_rfl; (first | assumption | exact Row.new _ _ _ | (apply Row.alloc; (first | assumption | exact Row.new _ _ _ | (apply Row.alloc; (first | assumption | exact Row.new _ _ _))))); kernel_rfl; simp only [Act.put, List.setIfInBounds_toArray, List.set_cons_zero, List.set_cons_succ]) | (go_at_call 37; (with_reducible refine (C3 _).mono ?_); rintro e w8 ⟨rfl, hb8⟩))
  have X9 := (X7.below hb8 X7.lt).alloc (.cells #[.int .i64 z0, .int .i64 z1, .int .i64 z2, .int .i64 z3, .int .i64 z4, .int .i64 z5, .int .i64 z6, .int .i64 z7, .int .i64 z8, .int .i64 z9, .int .i64 z10, .int .i64 z11, .int .i64 z12] 56)
  have Y9 := (Y7.below hb8 Y7.lt).alloc (.cells #[.int .i64 z0, .int .i64 z1, .int .i64 z2, .int .i64 z3, .int .i64 z4, .int .i64 z5, .int .i64 z6, .int .i64 z7, .int .i64 z8, .int .i64 z9, .int .i64 z10, .int .i64 z11, .int .i64 z12] 56)
  have Z9 := Row.new w8 #[.int .i64 z0, .int .i64 z1, .int .i64 z2, .int .i64 z3, .int .i64 z4, .int .i64 z5, .int .i64 z6, .int .i64 z7, .int .i64 z8, .int .i64 z9, .int .i64 z10, .int .i64 z11, .int .i64 z12] 56
  have HB9 := below_alloc (below_two HB7 hb8) (.cells #[.int .i64 z0, .int .i64 z1, .int .i64 z2, .int .i64 z3, .int .i64 z4, .int .i64 z5, .int .i64 z6, .int .i64 z7, .int .i64 z8, .int .i64 z9, .int .i64 z10, .int .i64 z11, .int .i64 z12] 56)
  generalize w8.alloc (.cells #[.int .i64 z0, .int .i64 z1, .int .i64 z2, .int .i64 z3, .int .i64 z4, .int .i64 z5, .int .i64 z6, .int .i64 z7, .int .i64 z8, .int .i64 z9, .int .i64 z10, .int .i64 z11, .int .i64 z12] 56) = w9 at *
  generalize w8.heap.size = p3 at *
  clear R7 X7 Y7 HB7 hb8
  have e4 := X9.cell 4 rfl
  have e5 := X9.cell 5 rfl
  have e1 := X9.cell 1 rfl
  have e3 := X9.cell 3 rfl
  have e12 := X9.cell 12 rfl
  have f4 := Y9.cell 4 rfl
  have f5 := Y9.cell 5 rfl
  have f1 := Y9.cell 1 rfl
  have f3 := Y9.cell 3 rfl
  have f12 := Y9.cell 12 rfl
  have g3 := Z9.cell 3 rfl
  have g1 := Z9.cell 1 rfl
  clear C1 C2 C3 X9 Y9 Z9
  go_wp2_with (go_at_call 38; refine (c_awake20 _).mono ?_; rintro e w10 ⟨rfl, hb10⟩)
  go_ret
  exact ⟨rfl, below_two HB9 hb10⟩
theorem w_ConfGrows (a0 a1 a2 : Int) (w : World) (w0 : (Lit.int .i64 a0).wf = true) (w1 : (Lit.int .i64 a1).wf = true) (w2 : (Lit.int .i64 a2).wf = true) :
    Calls Try.prog 11 #[.int .i64 a0, .int .i64 a1, .int .i64 a2] w fun e w' => e = .returned (.bool true) ∧ Below w.heap.size w w' := by
  have e0 := m255 a0
  have e1 := m127 a1
  have e2 := m3 a2
  rw [show a0 % 256 = ((a0 % 256).toNat : Int) by omega] at e0
  rw [show a1 % 128 = ((a1 % 128).toNat : Int) by omega] at e1
  rw [show a2 % 4 = ((a2 % 4).toNat : Int) by omega] at e2
  exact w_grows0 a0 a1 a2 _ _ _ w e0 e1 e2 (by omega) (by omega) (by omega)
end Go.Proofs.Ytldeohbfhigagaa
