/- What the document fixes of conf: awake of layer 20. -/
import Derived.Test.YtldeohbfhigagaaConf7
set_option linter.unusedVariables false
set_option linter.unusedSimpArgs false
namespace Go.Proofs.Ytldeohbfhigagaa
open Go.RowKit Flo

theorem part19 : PartIs 19 half 38 true := by
  refine ⟨?_⟩
  unfold PartIs0
  have h : (partOk 19 half = true ∧ enB (Int.toNat 19) half big = true) := by decide +kernel
  rw [if_pos h]
  decide +kernel
def a20 : Cfg := ⟨4, 8, 2, 4, 8, 4, 3, 20, 4, half⟩
theorem bd20 : bdOk a20 = true ∧ bdR a20 = ⟨2, 11, 2, 4, 19, 64, 127, 175, 18, 754, 3804, 6, 273⟩ := by
  have hn : (nodesF a20).1 = 19 := by decide +kernel
  obtain ⟨h1, h2⟩ := bd_of (a := a20) (k := 38) (y := 64) (by decide +kernel) (by rw [hn]; exact part19) (by decide +kernel) (by decide)
  refine ⟨h1, h2.trans ?_⟩
  have : ∀ a b : Bd, a = b ↔ a.g = b.g ∧ a.ml = b.ml ∧ a.hf = b.hf ∧ a.h = b.h ∧ a.nd = b.nd ∧ a.lv = b.lv ∧ a.bu = b.bu ∧ a.ce = b.ce ∧ a.re = b.re ∧ a.bl = b.bl ∧ a.st = b.st ∧ a.ar = b.ar ∧ a.bs = b.bs := by
    rintro ⟨⟩ ⟨⟩; simp
  rw [this]
  decide +kernel
theorem c_b1 (w : World) : Calls Try.prog 37 #[.agg #[.int .i64 4, .int .i64 8, .int .i64 2, .int .i64 4, .int .i64 8, .int .i64 4, .int .i64 3, .int .i64 20, .int .i64 4, .float .f64 4602678819172646912]] w fun e w' =>
    e = .returned (.tuple #[.agg #[.int .i64 2, .int .i64 11, .int .i64 2, .int .i64 4, .int .i64 19, .int .i64 64, .int .i64 127, .int .i64 175, .int .i64 18, .int .i64 754, .int .i64 3804, .int .i64 6, .int .i64 273], .bool true]) ∧ Below w.heap.size w w' :=
  (c_bounds a20 w (by unfold W64; decide)).mono fun e w' ⟨he, hb⟩ => by
    rw [bd20.1, bd20.2] at he
    exact ⟨he, hb⟩
theorem c_b2 (w : World) : Calls Try.prog 37 #[.agg #[.int .i64 4, .int .i64 8, .int .i64 2, .int .i64 4, .int .i64 8, .int .i64 4, .int .i64 3, .int .i64 20, .int .i64 4, .float .f64 9221120237041090561]] w fun e w' =>
    e = .returned (.tuple #[.agg #[.int .i64 0, .int .i64 0, .int .i64 0, .int .i64 0, .int .i64 0, .int .i64 0, .int .i64 0, .int .i64 0, .int .i64 0, .int .i64 0, .int .i64 0, .int .i64 0, .int .i64 0], .bool false]) ∧ Below w.heap.size w w' :=
  (c_bounds ⟨4, 8, 2, 4, 8, 4, 3, 20, 4, 9221120237041090561⟩ w (by unfold W64; decide)).mono fun e w' ⟨he, hb⟩ => by
    obtain ⟨h1, h2⟩ := bd_no (a := ⟨4, 8, 2, 4, 8, 4, 3, 20, 4, 9221120237041090561⟩) (k := 0) (PartIs.no (by unfold partOk; simp))
    rw [h1, h2] at he
    exact ⟨he, hb⟩
theorem c_ok1 (w : World) : Calls Try.prog 36 #[.agg #[.int .i64 4, .int .i64 8, .int .i64 2, .int .i64 4, .int .i64 8, .int .i64 4, .int .i64 3, .int .i64 20, .int .i64 4, .float .f64 4602678819172646912]] w fun e w' =>
    e = .returned (.bool true) ∧ Below w.heap.size w w' :=
  (c_ok a20 w (by unfold W64; decide)).mono fun e w' ⟨he, hb⟩ => by
    rw [bd20.1] at he
    exact ⟨he, hb⟩
theorem c_ok2 (w : World) : Calls Try.prog 36 #[.agg #[.int .i64 4, .int .i64 8, .int .i64 2, .int .i64 4, .int .i64 7, .int .i64 4, .int .i64 3, .int .i64 20, .int .i64 4, .float .f64 4602678819172646912]] w fun e w' =>
    e = .returned (.bool false) ∧ Below w.heap.size w w' :=
  (c_ok ⟨4, 8, 2, 4, 7, 4, 3, 20, 4, half⟩ w (by unfold W64; decide)).mono fun e w' ⟨he, hb⟩ => by
    rw [(bd_nums (a := ⟨4, 8, 2, 4, 7, 4, 3, 20, 4, half⟩) (by decide +kernel)).1] at he
    exact ⟨he, hb⟩
def cfgA (k v c f m l n x z : Int) (fl : Nat) : Array Value := #[.int .i64 k, .int .i64 v, .int .i64 c, .int .i64 f, .int .i64 m, .int .i64 l, .int .i64 n, .int .i64 x, .int .i64 z, .float .f64 fl]
theorem Row.cfg {W : World} {g : Nat} {k v c f m l n x z : Int} {fl : Nat} (h : Row W g (cfgA k v c f m l n x z fl) 50) : CfgAt W g k v c f m l n x z fl := by
  constructor
  all_goals exact Row.cell h _ rfl
theorem Row.bnd {W : World} {g : Nat} {a b c d e f h i j k l m n : Int} (H : Row W g (bA a b c d e f h i j k l m n) 56) : BndCells W g a b c d e f h i j k l m n := BndAt.cells (T := 56) ⟨H⟩
set_option maxHeartbeats 4000000 in
theorem c_awake20 (w : World) : Calls Try.prog 38 #[] w fun e w' => e = .returned (.bool true) ∧ Below w.heap.size w w' := by
  go_enter Try.func38, Try.ntmps38
  go_upto_region 5 with (first | (apply wpl_storeN; rfl; rfl; rfl; (first | rfl | simp); rfl; kernel_rfl; rfl; (simp [Value.oneCell']); simp only [Act.put]) | (apply wpl_storeF; rfl; rfl; rfl; (first | rfl | simp); (focus (go_simp; try rfl)); kernel_rfl; rfl; (simp); rfl; simp only [Act.put, List.setIfInBounds_toArray, List.set_cons_zero, List.set_cons_succ]) | (go_at_call 15; refine (c_nan _).mono ?_; rintro e w' ⟨rfl, rfl⟩) | (go_at_call 37; refine (c_b1 _).mono ?_; rintro e w1 ⟨rfl, hb1⟩; have R1 := (Row.new w _ _).below hb1 (by simp); have hz1 := hb1.size; simp at hz1) | (apply wpl_loadS (ty := 50); rfl; rfl; rfl; kernel_rfl; (first | assumption | exact Row.new _ _ _ | (apply Row.alloc; (first | assumption | exact Row.new _ _ _ | (apply Row.alloc; (first | assumption | exact Row.new _ _ _))))); kernel_rfl; simp only [Act.put, List.setIfInBounds_toArray, List.set_cons_zero, List.set_cons_succ]))
  have R1' := (R1.alloc (.cells #[.int .i64 2, .int .i64 11, .int .i64 2, .int .i64 4, .int .i64 19, .int .i64 64, .int .i64 127, .int .i64 175, .int .i64 18, .int .i64 754, .int .i64 3804, .int .i64 6, .int .i64 273] 56)).alloc (.cells #[.int .i64 4, .int .i64 8, .int .i64 2, .int .i64 4, .int .i64 8, .int .i64 4, .int .i64 3, .int .i64 20, .int .i64 4, .float .f64 9221120237041090561] 50)
  have R2' := (Row.new w1 #[.int .i64 2, .int .i64 11, .int .i64 2, .int .i64 4, .int .i64 19, .int .i64 64, .int .i64 127, .int .i64 175, .int .i64 18, .int .i64 754, .int .i64 3804, .int .i64 6, .int .i64 273] 56).alloc (.cells #[.int .i64 4, .int .i64 8, .int .i64 2, .int .i64 4, .int .i64 8, .int .i64 4, .int .i64 3, .int .i64 20, .int .i64 4, .float .f64 9221120237041090561] 50)
  have R4' := Row.new (w1.alloc (.cells #[.int .i64 2, .int .i64 11, .int .i64 2, .int .i64 4, .int .i64 19, .int .i64 64, .int .i64 127, .int .i64 175, .int .i64 18, .int .i64 754, .int .i64 3804, .int .i64 6, .int .i64 273] 56)) #[.int .i64 4, .int .i64 8, .int .i64 2, .int .i64 4, .int .i64 8, .int .i64 4, .int .i64 3, .int .i64 20, .int .i64 4, .float .f64 9221120237041090561] 50
  have hsz : (w1.alloc (.cells #[.int .i64 2, .int .i64 11, .int .i64 2, .int .i64 4, .int .i64 19, .int .i64 64, .int .i64 127, .int .i64 175, .int .i64 18, .int .i64 754, .int .i64 3804, .int .i64 6, .int .i64 273] 56)).heap.size = w1.heap.size + 1 := by simp
  rw [hsz] at R4'
  have HB4 : Below w.heap.size w ((w1.alloc (.cells #[.int .i64 2, .int .i64 11, .int .i64 2, .int .i64 4, .int .i64 19, .int .i64 64, .int .i64 127, .int .i64 175, .int .i64 18, .int .i64 754, .int .i64 3804, .int .i64 6, .int .i64 273] 56)).alloc (.cells #[.int .i64 4, .int .i64 8, .int .i64 2, .int .i64 4, .int .i64 8, .int .i64 4, .int .i64 3, .int .i64 20, .int .i64 4, .float .f64 9221120237041090561] 50)) := below_alloc (below_alloc (below_two (below_alloc (Below.refl _ _) _) hb1) _) _
  generalize (w1.alloc (.cells #[.int .i64 2, .int .i64 11, .int .i64 2, .int .i64 4, .int .i64 19, .int .i64 64, .int .i64 127, .int .i64 175, .int .i64 18, .int .i64 754, .int .i64 3804, .int .i64 6, .int .i64 273] 56)).alloc (.cells #[.int .i64 4, .int .i64 8, .int .i64 2, .int .i64 4, .int .i64 8, .int .i64 4, .int .i64 3, .int .i64 20, .int .i64 4, .float .f64 9221120237041090561] 50) = W4 at *
  generalize w1.heap.size = b2 at *
  clear R1 hb1 hsz
  have hne : w.heap.size ≠ b2 + 1 := by omega
  have hne2 : b2 ≠ b2 + 1 := by omega
  go_upto_region 7 with (first | (apply wpl_loadS (ty := 50); rfl; rfl; rfl; kernel_rfl; (first | assumption | exact Row.new _ _ _ | (apply Row.alloc; (first | assumption | exact Row.new _ _ _ | (apply Row.alloc; (first | assumption | exact Row.new _ _ _))))); kernel_rfl; simp only [Act.put, List.setIfInBounds_toArray, List.set_cons_zero, List.set_cons_succ]) | ((apply wpl_storeX; rfl; rfl; rfl; rfl; (focus repeat (first | assumption | exact Row.new _ _ _ | apply Row.alloc)); kernel_rfl; rfl; (simp [Value.oneCell']); intro W6 hW6; simp only [Act.put]); have R16 := (R15.alloc (.cells #[.int .i64 0, .int .i64 0, .int .i64 0, .int .i64 0, .int .i64 0, .int .i64 0, .int .i64 0, .int .i64 0, .int .i64 0, .int .i64 0, .int .i64 0, .int .i64 0, .int .i64 0] 56)).upd hW6 hne; have R26 := (R25.alloc (.cells #[.int .i64 0, .int .i64 0, .int .i64 0, .int .i64 0, .int .i64 0, .int .i64 0, .int .i64 0, .int .i64 0, .int .i64 0, .int .i64 0, .int .i64 0, .int .i64 0, .int .i64 0] 56)).upd hW6 hne2; have R46 : Row _ _ _ _ := hW6.row) | (go_at_call 37; refine (c_b2 _).mono ?_; rintro e w5 ⟨rfl, hb5⟩; have R15 := R1'.below hb5 R1'.lt; have R25 := R2'.below hb5 R2'.lt; have R45 := R4'.below hb5 R4'.lt))
  have HB6 : Below w.heap.size w W6 := (below_alloc (below_two HB4 hb5) _).trans (hW6.below (by omega))
  have e4 := R46.cell 4 rfl
  have ez := R46.free
  clear R1' R2' R4' R15 R25 R45 hW6 hb5 HB4
  go_upto_region 8 with (fail)
  have R47 := R46.set 4 (.int .i64 7)
  have R17 := R16.set_other 4 (.int .i64 7) hne
  have R27 := R26.set_other 4 (.int .i64 7) hne2
  have HB7 : Below w.heap.size w (W6.setCell ⟨b2 + 1, 4, none⟩ (.int .i64 7)) := below_setB HB6 (by omega) _
  simp only [List.setIfInBounds_toArray, List.set_cons_zero, List.set_cons_succ] at R47
  generalize W6.setCell ⟨b2 + 1, 4, none⟩ (.int .i64 7) = W7 at *
  clear R46 R16 R26 HB6 e4 ez
  go_wp2_with (first | (apply wpl_loadS (ty := 50); rfl; rfl; rfl; kernel_rfl; (first | assumption | exact Row.new _ _ _ | (apply Row.alloc; (first | assumption | exact Row.new _ _ _ | (apply Row.alloc; (first | assumption | exact Row.new _ _ _))))); kernel_rfl; simp only [Act.put, List.setIfInBounds_toArray, List.set_cons_zero, List.set_cons_succ]) | (go_at_call 36; first | ((with_reducible refine (c_ok1 _).mono ?_); rintro e w8 ⟨rfl, hb8⟩; have R48 := R47.below hb8 R47.lt; have R28 := R27.below hb8 R27.lt; have HB8 := below_two HB7 hb8; obtain ⟨c0, c1, c2, c3, c4, c5, c6, c7, c8, c9, c10, c11, c12, fz⟩ := Row.bnd R28) | ((with_reducible refine (c_ok2 _).mono ?_); rintro e w9 ⟨rfl, hb9⟩))) 

  go_ret
  exact ⟨rfl, below_two HB8 hb9⟩
end Go.Proofs.Ytldeohbfhigagaa
