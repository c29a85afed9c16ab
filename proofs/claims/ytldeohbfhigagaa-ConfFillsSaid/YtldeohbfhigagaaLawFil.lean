/- The walk of ConfFills. -/
import Derived.Test.YtldeohbfhigagaaFil
import Derived.Test.YtldeohbfhigagaaLawParts
set_option linter.unusedVariables false
set_option linter.unusedSimpArgs false
namespace Go.Proofs.Ytldeohbfhigagaa
open Go.RowKit Flo

/-- one cell of a block whose row is known -/
theorem wpl_storeY {P : Program} {ops : Array Oper} {rest : List Oper} {o : Oper} {a : Act} {W : World} {Q : Exit → Act → World → Prop} {ty : TypeId} {x y : Operand} {v : Value} {t : TypeId} {old : Array Value} {g j : Nat}
    (hgd : o.guard = none) (ho : o.op = .store ty x y) (hx : a.eval x = .pointer (some ⟨g, j, none⟩)) (hy : a.eval y = v) (hi : (P.info? ty).map (·.size) = some 1)
    (hc : v.cells = #[v]) (h1 : v.oneCell' = true) (hr : Row W g old t) (hold : j < old.size)
    (h : ∀ W1, Upd g (old.setIfInBounds j v) t W W1 → wpList P ops Q rest (a.put o.dst undef) W1) : wpList P ops Q (o :: rest) a W := by
  refine wpList_plain hgd fun K hK => ?_
  have hcell : W.cell? ⟨g, j, none⟩ = some old[j] := hr.cell j (by simp [hold])
  have hfro : W.frozen? ⟨g, j, none⟩ = false := hr.free j
  have hst : (storeVar ty ⟨g, j, none⟩ v).run P W = .ok () (W.setRow g (old.setIfInBounds j v)) := by
    have hadd : (⟨g, j, none⟩ : Addr).add 0 = ⟨g, j, none⟩ := rfl
    cases hq : P.info? ty with
    | none => simp [hq] at hi
    | some i =>
      have hs : i.size = 1 := by simpa [hq] using hi
      simp [storeVar, sizeOf, typeInfo, hq, hc, hs, storeCells, hadd, run_store P _ _ v _ h1, hcell, hfro, setCell_eq_setRow _ _ j old t (0, 0) v hr]
  unfold Oper.wp execOp
  simp only [ho, hx, hy, Instr.storeAt, Instr.sureAddr, Sem.run_bind, Sem.run_pure, Result.andThen_ok, hst]
  exact hK _ _ (h _ (upd_set hr))
theorem c_bdF (fl : Nat) (w : World) (h : W64 fl) : Calls Try.prog 37 #[.agg #[.int .i64 4, .int .i64 8, .int .i64 2, .int .i64 4, .int .i64 16, .int .i64 8, .int .i64 3, .int .i64 20, .int .i64 4, .float .f64 fl]] w fun e w' =>
    e = .returned (.tuple #[.agg (bdR (fA fl)).arr, .bool (bdOk (fA fl))]) ∧ Below w.heap.size w w' := c_bounds (fA fl) w h
theorem c_okF (fl : Nat) (w : World) (h : W64 fl) : Calls Try.prog 36 #[.agg #[.int .i64 4, .int .i64 8, .int .i64 2, .int .i64 4, .int .i64 16, .int .i64 8, .int .i64 3, .int .i64 20, .int .i64 4, .float .f64 fl]] w fun e w' =>
    e = .returned (.bool (bdOk (fA fl))) ∧ Below w.heap.size w w' := c_ok (fA fl) w h
theorem tbl_ltF (i j : Nat) (hi : i < 1000) (hj : j < 1000) : (FloatKind.f64.format.order (tblF j) (tblF i) == some .lt) = decide (tblF j < tblF i) := by
  have h1 := (tbl_pos hi).2.1
  have h2 := (tbl_pos hj).2.1
  rw [fmt64, lt_key (nan_small _ (by unfold infR; omega)) (nan_small _ (by unfold infR; omega)), key_small _ (by unfold infR; omega), key_small _ (by unfold infR; omega), decide_eq_decide]
  omega
set_option maxHeartbeats 4000000 in
theorem w_cfills0 (f g : Nat) (n : Int) (nn p : Nat) (w : World) (hn : bits BinOp.and IntKind.i64 n 255 = (nn : Int)) (h1 : nn ≤ 255) (hp : (nn : Int) % 9 = (p : Int)) (hp1 : p < 9) (hf : W64 f) (hg : W64 g) :
    Calls Try.prog 13 #[.int .u64 (f : Int), .int .u64 (g : Int), .int .i64 n] w fun e w' => e = .returned (.bool true) ∧ Below w.heap.size w w' := by
  have hneg : ∀ W, (Op.unary .neg (.float .f64 9218868437227405312)).run Try.prog W = .ok (.float .f64 18442240474082181120) W := fun _ => by kernel_rfl
  have hi : f % 1000 < 1000 := Nat.mod_lt _ (by decide)
  have hj : g % 1000 < 1000 := Nat.mod_lt _ (by decide)
  obtain ⟨o1, o2, q1, q2, q3⟩ := fA_two (f % 1000) (g % 1000) hi hj
  have o3 := fA_none p hp1
  have wz := none_w p hp1
  have hlt := tbl_ltF (f % 1000) (g % 1000) hi hj
  have C1 := fun W => c_bdF (tblF (f % 1000)) W (tbl_w hi)
  have C2 := fun W => c_bdF (tblF (g % 1000)) W (tbl_w hj)
  have C3 := fun W => c_okF (nones[p]?.getD 0) W wz
  rw [o1] at C1
  rw [o2] at C2
  rw [o3] at C3
  have hd1 := run_tbl (P := Try.prog) 22 f
  have hd2 := run_tbl (P := Try.prog) 22 g
  have hb : ∃ b, decide (tblF (g % 1000) < tblF (f % 1000)) = b := ⟨_, rfl⟩
  obtain ⟨b, hb⟩ := hb
  rw [hb] at hlt
  have hq3 : b = false → (bdR (fA (tblF (g % 1000)))).lv ≤ (bdR (fA (tblF (f % 1000)))).lv := fun h => q3 (by rw [h] at hb; simpa using hb)
  clear o1 o2 o3 q3 hb
  generalize bdR (fA (tblF (f % 1000))) = b1 at *
  generalize bdR (fA (tblF (g % 1000))) = b2 at *
  generalize tblF (f % 1000) = fx at *
  generalize tblF (g % 1000) = fy at *
  obtain ⟨x0, x1, x2, x3, x4, x5, x6, x7, x8, x9, x10, x11, x12⟩ := b1
  obtain ⟨y0, y1, y2, y3, y4, y5, y6, y7, y8, y9, y10, y11, y12⟩ := b2
  simp only at q1 q2 hq3
  subst q1
  subst q2
  simp only [Bd.arr, bA] at C1 C2
  have hn0 : (0 : Int) ≤ (nn : Int) := by omega
  have hp0 : (0 : Int) ≤ (p : Int) := by omega
  have hp11 : (p : Int) < 9 := by omega
  have HF0 : (0 : Int) ≤ (f : Int) := by omega
  have HG0 : (0 : Int) ≤ (g : Int) := by omega
  have HF1 : (f : Int) < 18446744073709551616 := by unfold W64 at hf; omega
  have HG1 : (g : Int) < 18446744073709551616 := by unfold W64 at hg; omega
  go_enter Try.func13, Try.ntmps13
  go_upto_region 3 with (first | (apply wpl_storeN; rfl; rfl; rfl; (first | rfl | simp); rfl; kernel_rfl; rfl; (simp [Value.oneCell']); simp only [Act.put]) | (apply wpl_storeF; rfl; rfl; rfl; (first | rfl | simp); (focus (go_simp; try rfl)); kernel_rfl; rfl; (simp); rfl; simp only [Act.put, List.setIfInBounds_toArray, List.set_cons_zero, List.set_cons_succ]))
  have R1 := Row.new w #[.int .i64 4, .int .i64 8, .int .i64 2, .int .i64 4, .int .i64 16, .int .i64 8, .int .i64 3, .int .i64 20, .int .i64 4, .float .f64 fx] 50
  have HB1 := below_alloc (Below.refl w.heap.size w) (.cells #[.int .i64 4, .int .i64 8, .int .i64 2, .int .i64 4, .int .i64 16, .int .i64 8, .int .i64 3, .int .i64 20, .int .i64 4, .float .f64 fx] 50)
  generalize w.alloc (.cells #[.int .i64 4, .int .i64 8, .int .i64 2, .int .i64 4, .int .i64 16, .int .i64 8, .int .i64 3, .int .i64 20, .int .i64 4, .float .f64 fx] 50) = w1 at *
  go_upto_region 4 with (first | (apply wpl_loadS (ty := 50); rfl; rfl; rfl; kernel_rfl; (first | assumption | exact Row.new _ _ _ | (apply Row.alloc; (first | assumption | exact Row.new _ _ _ | (apply Row.alloc; (first | assumption | exact Row.new _ _ _))))); kernel_rfl; simp only [Act.put, List.setIfInBounds_toArray, List.set_cons_zero, List.set_cons_succ]) | (go_at_call 37; (with_reducible refine (C1 _).mono ?_); rintro e w2 ⟨rfl, hb2⟩))
  have hlt1 : w.heap.size < w1.heap.size := R1.lt
  have hs2 := hb2.size
  have R3 := (R1.below hb2 R1.lt).alloc (.cells #[.int .i64 x0, .int .i64 x1, .int .i64 x2, .int .i64 x3, .int .i64 x4, .int .i64 x5, .int .i64 x6, .int .i64 x7, .int .i64 x8, .int .i64 x9, .int .i64 x10, .int .i64 x11, .int .i64 x12] 56)
  have X3 := Row.new w2 #[.int .i64 x0, .int .i64 x1, .int .i64 x2, .int .i64 x3, .int .i64 x4, .int .i64 x5, .int .i64 x6, .int .i64 x7, .int .i64 x8, .int .i64 x9, .int .i64 x10, .int .i64 x11, .int .i64 x12] 56
  have HB3 := below_alloc (below_two HB1 hb2) (.cells #[.int .i64 x0, .int .i64 x1, .int .i64 x2, .int .i64 x3, .int .i64 x4, .int .i64 x5, .int .i64 x6, .int .i64 x7, .int .i64 x8, .int .i64 x9, .int .i64 x10, .int .i64 x11, .int .i64 x12] 56)
  have hl3 : w.heap.size < w2.heap.size := by omega
  generalize w2.alloc (.cells #[.int .i64 x0, .int .i64 x1, .int .i64 x2, .int .i64 x3, .int .i64 x4, .int .i64 x5, .int .i64 x6, .int .i64 x7, .int .i64 x8, .int .i64 x9, .int .i64 x10, .int .i64 x11, .int .i64 x12] 56) = w3 at *
  generalize w2.heap.size = p1 at *
  clear R1 HB1 hb2 hs2 hlt1
  have hx3 := X3.lt
  go_upto_region 6 with (first | (apply wpl_loadS (ty := 50); rfl; rfl; rfl; kernel_rfl; (first | assumption | exact Row.new _ _ _ | (apply Row.alloc; (first | assumption | exact Row.new _ _ _ | (apply Row.alloc; (first | assumption | exact Row.new _ _ _))))); kernel_rfl; simp only [Act.put, List.setIfInBounds_toArray, List.set_cons_zero, List.set_cons_succ]) | (apply wpl_storeN; rfl; rfl; rfl; (first | rfl | simp); rfl; kernel_rfl; rfl; (simp [Value.oneCell']); simp only [Act.put]) | (apply wpl_storeF; rfl; rfl; rfl; (first | rfl | simp); (focus (go_simp; try rfl)); kernel_rfl; rfl; (simp); rfl; simp only [Act.put, List.setIfInBounds_toArray, List.set_cons_zero, List.set_cons_succ]))
  have R5 := R3.alloc (.cells #[.int .i64 4, .int .i64 8, .int .i64 2, .int .i64 4, .int .i64 16, .int .i64 8, .int .i64 3, .int .i64 20, .int .i64 4, .float .f64 fy] 50)
  have X5 := X3.alloc (.cells #[.int .i64 4, .int .i64 8, .int .i64 2, .int .i64 4, .int .i64 16, .int .i64 8, .int .i64 3, .int .i64 20, .int .i64 4, .float .f64 fy] 50)
  have D5 := Row.new w3 #[.int .i64 4, .int .i64 8, .int .i64 2, .int .i64 4, .int .i64 16, .int .i64 8, .int .i64 3, .int .i64 20, .int .i64 4, .float .f64 fy] 50
  have HB5 := below_alloc HB3 (.cells #[.int .i64 4, .int .i64 8, .int .i64 2, .int .i64 4, .int .i64 16, .int .i64 8, .int .i64 3, .int .i64 20, .int .i64 4, .float .f64 fy] 50)
  generalize w3.alloc (.cells #[.int .i64 4, .int .i64 8, .int .i64 2, .int .i64 4, .int .i64 16, .int .i64 8, .int .i64 3, .int .i64 20, .int .i64 4, .float .f64 fy] 50) = w5 at *
  generalize w3.heap.size = p2 at *
  clear R3 X3 HB3
  go_upto_region 7 with (first | (apply wpl_loadS (ty := 50); rfl; rfl; rfl; kernel_rfl; (first | assumption | exact Row.new _ _ _ | (apply Row.alloc; (first | assumption | exact Row.new _ _ _ | (apply Row.alloc; (first | assumption | exact Row.new _ _ _))))); kernel_rfl; simp only [Act.put, List.setIfInBounds_toArray, List.set_cons_zero, List.set_cons_succ]) | (go_at_call 37; (with_reducible refine (C2 _).mono ?_); rintro e w6 ⟨rfl, hb6⟩))
  have hs6 := hb6.size
  have hd5 := D5.lt
  have R7 := (R5.below hb6 R5.lt).alloc (.cells #[.int .i64 y0, .int .i64 y1, .int .i64 y2, .int .i64 x3, .int .i64 x4, .int .i64 y5, .int .i64 y6, .int .i64 y7, .int .i64 y8, .int .i64 y9, .int .i64 y10, .int .i64 y11, .int .i64 y12] 56)
  have X7 := (X5.below hb6 X5.lt).alloc (.cells #[.int .i64 y0, .int .i64 y1, .int .i64 y2, .int .i64 x3, .int .i64 x4, .int .i64 y5, .int .i64 y6, .int .i64 y7, .int .i64 y8, .int .i64 y9, .int .i64 y10, .int .i64 y11, .int .i64 y12] 56)
  have D7 := (D5.below hb6 D5.lt).alloc (.cells #[.int .i64 y0, .int .i64 y1, .int .i64 y2, .int .i64 x3, .int .i64 x4, .int .i64 y5, .int .i64 y6, .int .i64 y7, .int .i64 y8, .int .i64 y9, .int .i64 y10, .int .i64 y11, .int .i64 y12] 56)
  have Y7 := Row.new w6 #[.int .i64 y0, .int .i64 y1, .int .i64 y2, .int .i64 x3, .int .i64 x4, .int .i64 y5, .int .i64 y6, .int .i64 y7, .int .i64 y8, .int .i64 y9, .int .i64 y10, .int .i64 y11, .int .i64 y12] 56
  have HB7 := below_alloc (below_two HB5 hb6) (.cells #[.int .i64 y0, .int .i64 y1, .int .i64 y2, .int .i64 x3, .int .i64 x4, .int .i64 y5, .int .i64 y6, .int .i64 y7, .int .i64 y8, .int .i64 y9, .int .i64 y10, .int .i64 y11, .int .i64 y12] 56)
  have hl7 : p2 < w6.heap.size := by omega
  generalize w6.alloc (.cells #[.int .i64 y0, .int .i64 y1, .int .i64 y2, .int .i64 x3, .int .i64 x4, .int .i64 y5, .int .i64 y6, .int .i64 y7, .int .i64 y8, .int .i64 y9, .int .i64 y10, .int .i64 y11, .int .i64 y12] 56) = w7 at *
  generalize w6.heap.size = p3 at *
  clear R5 X5 D5 HB5 hb6 hs6 hd5
  have hy7 := Y7.lt
  go_upto_region 8 with (first | (go_at_call 15; refine (c_nan _).mono ?_; rintro e w' ⟨rfl, rfl⟩) | (go_at_call 16; refine (c_inf _ _).mono ?_; rintro e w' ⟨rfl, rfl⟩) | (go_at_call 17; refine (c_minus _).mono ?_; rintro e w' ⟨rfl, rfl⟩))
  have hcell : (#[.float .f64 9221120237041090561, .float .f64 9218868437227405312, .float .f64 18442240474082181120, .float .f64 0, .float .f64 9223372036854775808, .float .f64 13826050856027422720, .float .f64 4607182419250377371, .float .f64 4427038433705197568, .float .f64 1] : Array Value)[p]? = some (.float .f64 (nones[p]?.getD 0)) := by
    have : p = 0 ∨ p = 1 ∨ p = 2 ∨ p = 3 ∨ p = 4 ∨ p = 5 ∨ p = 6 ∨ p = 7 ∨ p = 8 := by omega
    rcases this with h | h | h | h | h | h | h | h | h <;> subst h <;> rfl
  have R8 := R7.alloc (.cells #[.float .f64 9221120237041090561, .float .f64 9218868437227405312, .float .f64 18442240474082181120, .float .f64 0, .float .f64 9223372036854775808, .float .f64 13826050856027422720, .float .f64 4607182419250377371, .float .f64 4427038433705197568, .float .f64 1] 22)
  have X8 := X7.alloc (.cells #[.float .f64 9221120237041090561, .float .f64 9218868437227405312, .float .f64 18442240474082181120, .float .f64 0, .float .f64 9223372036854775808, .float .f64 13826050856027422720, .float .f64 4607182419250377371, .float .f64 4427038433705197568, .float .f64 1] 22)
  have D8 := D7.alloc (.cells #[.float .f64 9221120237041090561, .float .f64 9218868437227405312, .float .f64 18442240474082181120, .float .f64 0, .float .f64 9223372036854775808, .float .f64 13826050856027422720, .float .f64 4607182419250377371, .float .f64 4427038433705197568, .float .f64 1] 22)
  have Y8 := Y7.alloc (.cells #[.float .f64 9221120237041090561, .float .f64 9218868437227405312, .float .f64 18442240474082181120, .float .f64 0, .float .f64 9223372036854775808, .float .f64 13826050856027422720, .float .f64 4607182419250377371, .float .f64 4427038433705197568, .float .f64 1] 22)
  have S8 := (Row.new w7 #[.float .f64 9221120237041090561, .float .f64 9218868437227405312, .float .f64 18442240474082181120, .float .f64 0, .float .f64 9223372036854775808, .float .f64 13826050856027422720, .float .f64 4607182419250377371, .float .f64 4427038433705197568, .float .f64 1] 22).cell p hcell
  have HB8 := below_alloc HB7 (.cells #[.float .f64 9221120237041090561, .float .f64 9218868437227405312, .float .f64 18442240474082181120, .float .f64 0, .float .f64 9223372036854775808, .float .f64 13826050856027422720, .float .f64 4607182419250377371, .float .f64 4427038433705197568, .float .f64 1] 22)
  clear hcell R7 X7 D7 Y7 HB7 hy7
  generalize w7.alloc (.cells #[.float .f64 9221120237041090561, .float .f64 9218868437227405312, .float .f64 18442240474082181120, .float .f64 0, .float .f64 9223372036854775808, .float .f64 13826050856027422720, .float .f64 4607182419250377371, .float .f64 4427038433705197568, .float .f64 1] 22) = w8 at *
  generalize w7.heap.size = p4 at *
  have hne1 : p1 ≠ w.heap.size := by omega
  have hne2 : p2 ≠ w.heap.size := by omega
  have hne3 : p3 ≠ w.heap.size := by omega
  generalize nones[p]?.getD 0 = zz at *
  go_upto_region 9 with (apply wpl_storeY; rfl; rfl; rfl; (focus (go_simp; try rfl)); kernel_rfl; rfl; rfl; exact R8; (simp); intro W9 hW9; simp only [Act.put])
  have R9 : Row W9 w.heap.size #[.int .i64 4, .int .i64 8, .int .i64 2, .int .i64 4, .int .i64 16, .int .i64 8, .int .i64 3, .int .i64 20, .int .i64 4, .float .f64 zz] 50 := hW9.row
  have X9 := X8.upd hW9 hne1
  have D9 := D8.upd hW9 hne2
  have Y9 := Y8.upd hW9 hne3
  have HB9 := HB8.trans (hW9.below (Nat.le_refl _))
  clear R8 X8 D8 Y8 S8 HB8 hW9 hl3 hl7
  have d9 := D9.cell 9 rfl
  have e4 := X9.cell 4 rfl
  have e5 := X9.cell 5 rfl
  have e3 := X9.cell 3 rfl
  have f4 := Y9.cell 4 rfl
  have f5 := Y9.cell 5 rfl
  have f3 := Y9.cell 3 rfl
  clear C1 C2 D9 X9 Y9 hne1 hne2 hne3
  cases b
  · have hq := hq3 rfl
    clear hq3
    go_wp2_with (first | (apply wpl_loadS (ty := 50); rfl; rfl; rfl; kernel_rfl; (first | assumption | exact Row.new _ _ _ | (apply Row.alloc; (first | assumption | exact Row.new _ _ _ | (apply Row.alloc; (first | assumption | exact Row.new _ _ _))))); kernel_rfl; simp only [Act.put, List.setIfInBounds_toArray, List.set_cons_zero, List.set_cons_succ]) | (go_at_call 36; (with_reducible refine (C3 _).mono ?_); rintro e w10 ⟨rfl, hb10⟩) | (go_at_call 38; refine (c_awake20 _).mono ?_; rintro e w11 ⟨rfl, hb11⟩))
    go_ret
    exact ⟨rfl, below_two HB9 (below_two hb10 hb11)⟩
  · clear hq3
    go_wp2_with (first | (apply wpl_loadS (ty := 50); rfl; rfl; rfl; kernel_rfl; (first | assumption | exact Row.new _ _ _ | (apply Row.alloc; (first | assumption | exact Row.new _ _ _ | (apply Row.alloc; (first | assumption | exact Row.new _ _ _))))); kernel_rfl; simp only [Act.put, List.setIfInBounds_toArray, List.set_cons_zero, List.set_cons_succ]) | (go_at_call 36; (with_reducible refine (C3 _).mono ?_); rintro e w10 ⟨rfl, hb10⟩) | (go_at_call 38; refine (c_awake20 _).mono ?_; rintro e w11 ⟨rfl, hb11⟩))
    go_ret
    exact ⟨rfl, below_two HB9 (below_two hb10 hb11)⟩
theorem w_ConfFills (a0 a1 a2 : Int) (w : World) (w0 : (Lit.int .u64 a0).wf = true) (w1 : (Lit.int .u64 a1).wf = true) (w2 : (Lit.int .i64 a2).wf = true) :
    Calls Try.prog 13 #[.int .u64 a0, .int .u64 a1, .int .i64 a2] w fun e w' => e = .returned (.bool true) ∧ Below w.heap.size w w' := by
  obtain ⟨f, rfl, hf⟩ := of_wf_u64 w0
  obtain ⟨g, rfl, hg⟩ := of_wf_u64 w1
  have e0 := m255 a2
  rw [show a2 % 256 = ((a2 % 256).toNat : Int) by omega] at e0
  have h0 : (a2 % 256).toNat ≤ 255 := by omega
  generalize (a2 % 256).toNat = nn at *
  exact w_cfills0 f g a2 nn (nn % 9) w e0 h0 (by omega) (Nat.mod_lt _ (by decide)) hf hg
end Go.Proofs.Ytldeohbfhigagaa
