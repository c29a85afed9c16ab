/- The walk of ConfErrors: a theorem for each row of the table. -/
import Derived.Test.YtldeohbfhigagaaAwk20
import Derived.Test.YtldeohbfhigagaaMask
set_option linter.unusedVariables false
set_option linter.unusedSimpArgs false
namespace Go.Proofs.Ytldeohbfhigagaa
open Go.RowKit Flo

def all20C (b : Nat) : Array Value := #[.pointer (some ⟨b, 0, none⟩), .int .i64 1, .int .i64 32, .pointer (some ⟨b, 1, none⟩), .int .i64 8, .int .i64 64, .pointer (some ⟨b, 2, none⟩), .int .i64 1, .int .i64 4, .pointer (some ⟨b, 3, none⟩), .int .i64 3, .int .i64 8, .pointer (some ⟨b, 4, none⟩), .int .i64 8, .int .i64 64, .pointer (some ⟨b, 5, none⟩), .int .i64 3, .int .i64 32, .pointer (some ⟨b, 6, none⟩), .int .i64 1, .int .i64 64, .pointer (some ⟨b, 7, none⟩), .int .i64 1, .int .i64 500, .pointer (some ⟨b, 8, none⟩), .int .i64 1, .int .i64 8] 

theorem part_e60 : PartIs 10 half 20 true := by
  refine ⟨?_⟩
  unfold PartIs0
  have h : (partOk 10 half = true ∧ enB (Int.toNat 10) half big = true) := by decide +kernel
  rw [if_pos h]
  decide +kernel
theorem c_okI60 (w : World) : Calls Try.prog 36 #[.agg #[.int .i64 4, .int .i64 8, .int .i64 2, .int .i64 4, .int .i64 16, .int .i64 8, .int .i64 1, .int .i64 20, .int .i64 4, .float .f64 4602678819172646912]] w fun e w' => e = .returned (.bool true) ∧ Below w.heap.size w w' :=
  (c_ok ⟨4, 8, 2, 4, 16, 8, 1, 20, 4, half⟩ w (by unfold W64; decide)).mono fun e w' ⟨he, hb⟩ => by
    have hn : (nodesF ⟨4, 8, 2, 4, 16, 8, 1, 20, 4, half⟩).1 = 10 := by decide +kernel
    rw [(bd_of (a := ⟨4, 8, 2, 4, 16, 8, 1, 20, 4, half⟩) (k := 20) (y := 32) (by decide +kernel) (by rw [hn]; exact part_e60) (by decide +kernel) (by decide)).1] at he
    exact ⟨he, hb⟩
theorem c_okO60 (w : World) : Calls Try.prog 36 #[.agg #[.int .i64 4, .int .i64 8, .int .i64 2, .int .i64 4, .int .i64 16, .int .i64 8, .int .i64 0, .int .i64 20, .int .i64 4, .float .f64 4602678819172646912]] w fun e w' => e = .returned (.bool false) ∧ Below w.heap.size w w' :=
  (c_ok ⟨4, 8, 2, 4, 16, 8, 0, 20, 4, half⟩ w (by unfold W64; decide)).mono fun e w' ⟨he, hb⟩ => by
    rw [(bd_nums (a := ⟨4, 8, 2, 4, 16, 8, 0, 20, 4, half⟩) (by decide +kernel)).1] at he
    exact ⟨he, hb⟩
theorem c_bdO60 (w : World) : Calls Try.prog 37 #[.agg #[.int .i64 4, .int .i64 8, .int .i64 2, .int .i64 4, .int .i64 16, .int .i64 8, .int .i64 0, .int .i64 20, .int .i64 4, .float .f64 4602678819172646912]] w fun e w' =>
    e = .returned (.tuple #[.agg #[.int .i64 0, .int .i64 0, .int .i64 0, .int .i64 0, .int .i64 0, .int .i64 0, .int .i64 0, .int .i64 0, .int .i64 0, .int .i64 0, .int .i64 0, .int .i64 0, .int .i64 0], .bool false]) ∧ Below w.heap.size w w' :=
  (c_bounds ⟨4, 8, 2, 4, 16, 8, 0, 20, 4, half⟩ w (by unfold W64; decide)).mono fun e w' ⟨he, hb⟩ => by
    obtain ⟨h1, h2⟩ := bd_nums (a := ⟨4, 8, 2, 4, 16, 8, 0, 20, 4, half⟩) (by decide +kernel)
    rw [h1, h2] at he
    exact ⟨he, hb⟩
set_option maxHeartbeats 4000000 in
theorem w_err60 (n : Int) (w : World) (nn : Nat) (hn : bits BinOp.and IntKind.i64 n 255 = (nn : Int)) (h1 : nn ≤ 255) (hp : (nn : Int) % 9 = 6) :
    Calls Try.prog 10 #[.int .i64 n, .bool false] w fun e w' => e = .returned (.bool true) ∧ Below w.heap.size w w' := by
  have hn0 : (0 : Int) ≤ (nn : Int) := by omega
  go_enter Try.func10, Try.ntmps10
  go_upto_region 3 with (apply wpl_storeN; rfl; rfl; rfl; (first | rfl | simp); rfl; kernel_rfl; rfl; (simp [Value.oneCell']); simp only [Act.put])
  have RA := Row.new (w.alloc (.cells #[.int .i64 4, .int .i64 8, .int .i64 2, .int .i64 4, .int .i64 16, .int .i64 8, .int .i64 3, .int .i64 20, .int .i64 4, .float .f64 4602678819172646912] 50)) (all20C w.heap.size) 52
  have RC := (Row.new w #[.int .i64 4, .int .i64 8, .int .i64 2, .int .i64 4, .int .i64 16, .int .i64 8, .int .i64 3, .int .i64 20, .int .i64 4, .float .f64 4602678819172646912] 50).alloc (.cells (all20C w.heap.size) 52)
  have HB : Below w.heap.size w ((w.alloc (.cells #[.int .i64 4, .int .i64 8, .int .i64 2, .int .i64 4, .int .i64 16, .int .i64 8, .int .i64 3, .int .i64 20, .int .i64 4, .float .f64 4602678819172646912] 50)).alloc (.cells (all20C w.heap.size) 52)) := below_alloc (below_alloc (Below.refl _ _) _) _
  have hs : ((w.alloc (.cells #[.int .i64 4, .int .i64 8, .int .i64 2, .int .i64 4, .int .i64 16, .int .i64 8, .int .i64 3, .int .i64 20, .int .i64 4, .float .f64 4602678819172646912] 50)).alloc (.cells (all20C w.heap.size) 52)).heap.size = w.heap.size + 2 := by simp
  have hs1 : (w.alloc (.cells #[.int .i64 4, .int .i64 8, .int .i64 2, .int .i64 4, .int .i64 16, .int .i64 8, .int .i64 3, .int .i64 20, .int .i64 4, .float .f64 4602678819172646912] 50)).heap.size = w.heap.size + 1 := by simp
  rw [hs1] at RA
  unfold all20C at *
  generalize (w.alloc (.cells #[.int .i64 4, .int .i64 8, .int .i64 2, .int .i64 4, .int .i64 16, .int .i64 8, .int .i64 3, .int .i64 20, .int .i64 4, .float .f64 4602678819172646912] 50)).alloc (.cells #[.pointer (some ⟨w.heap.size, 0, none⟩), .int .i64 1, .int .i64 32, .pointer (some ⟨w.heap.size, 1, none⟩), .int .i64 8, .int .i64 64, .pointer (some ⟨w.heap.size, 2, none⟩), .int .i64 1, .int .i64 4, .pointer (some ⟨w.heap.size, 3, none⟩), .int .i64 3, .int .i64 8, .pointer (some ⟨w.heap.size, 4, none⟩), .int .i64 8, .int .i64 64, .pointer (some ⟨w.heap.size, 5, none⟩), .int .i64 3, .int .i64 32, .pointer (some ⟨w.heap.size, 6, none⟩), .int .i64 1, .int .i64 64, .pointer (some ⟨w.heap.size, 7, none⟩), .int .i64 1, .int .i64 500, .pointer (some ⟨w.heap.size, 8, none⟩), .int .i64 1, .int .i64 8] 52) = w2 at *
  have e0 := RA.cell 18 rfl
  have e1 := RA.cell 19 rfl
  have e2 := RA.cell 20 rfl
  clear hs1
  go_upto_region 4 with (fail)
  have RX := Row.new w2 #[.pointer (some ⟨w.heap.size, 6, none⟩), .int .i64 1, .int .i64 64] 52
  have RC3 := RC.alloc (.cells #[.pointer (some ⟨w.heap.size, 6, none⟩), .int .i64 1, .int .i64 64] 52)
  have HB3 : Below w.heap.size w (w2.alloc (.cells #[.pointer (some ⟨w.heap.size, 6, none⟩), .int .i64 1, .int .i64 64] 52)) := below_alloc HB _
  rw [hs] at RX
  generalize w2.alloc (.cells #[.pointer (some ⟨w.heap.size, 6, none⟩), .int .i64 1, .int .i64 64] 52) = w3 at *
  clear RA RC HB hs e0 e1 e2
  have f0 := RX.cell 0 rfl
  have f1 := RX.cell 1 rfl
  have f2 := RX.cell 2 rfl
  have g0 := RC3.cell 6 rfl
  have gz := RC3.free
  (refine wp_region_lin [(0, true), (1, true), (2, true), (3, true), (4, true), (5, true), (6, true)] rfl rfl (by kernel_rfl) (by kernel_rfl) (fun _ _ _ _ _ h => h) ?_; (iterate 7 (first | (apply lin_take; (simp only [List.getElem?_toArray, List.getElem?_cons_succ, List.getElem?_cons_zero]; rfl); (rfl); (intro w' hb'; (try have k_f0 := cell_keep hb' f0); (try have k_f1 := cell_keep hb' f1); (try have k_f2 := cell_keep hb' f2); (first | (go_simp; done) | (go_simp; with_reducible rfl) | (go_simp; go_bits; with_reducible rfl) | (go_simp; go_bits; done))); try simp only [Act.put, List.setIfInBounds_toArray, List.set_cons_zero, List.set_cons_succ]) | (apply lin_skip; (simp only [List.getElem?_toArray, List.getElem?_cons_succ, List.getElem?_cons_zero]; rfl); (rfl); try simp only [Act.put, List.setIfInBounds_toArray, List.set_cons_zero, List.set_cons_succ]) | (apply lin_pass; (simp only [List.getElem?_toArray, List.getElem?_cons_succ, List.getElem?_cons_zero]; rfl); (rfl); try simp only [Act.put, List.setIfInBounds_toArray, List.set_cons_zero, List.set_cons_succ]) | (apply lin_op; (simp only [List.getElem?_toArray, List.getElem?_cons_succ, List.getElem?_cons_zero]; rfl); (rfl); intro K hK; go_simp; (first | skip); refine hK _ _ ?_ ?_; (first | exact ⟨rfl, rfl, rfl, Nat.le_refl _, fun _ _ => rfl⟩ | assumption | exact below_alloc (Below.refl _ _) _ | exact below_drewN (by assumption) _); clear hK; try simp only [Act.put, List.setIfInBounds_toArray, List.set_cons_zero, List.set_cons_succ]))); refine lin_end ?_)
  go_upto_region 8 with (fail)
  have R4 : Row (w3.setCell ⟨w.heap.size, 6, none⟩ (.int .i64 1)).drew w.heap.size #[.int .i64 4, .int .i64 8, .int .i64 2, .int .i64 4, .int .i64 16, .int .i64 8, .int .i64 1, .int .i64 20, .int .i64 4, .float .f64 4602678819172646912] 50 := RC3.set 6 (.int .i64 1)
  have X4 : Row (w3.setCell ⟨w.heap.size, 6, none⟩ (.int .i64 1)).drew (w.heap.size + 2) #[.pointer (some ⟨w.heap.size, 6, none⟩), .int .i64 1, .int .i64 64] 52 := RX.set_other 6 (.int .i64 1) (by omega)
  have HB4 : Below w.heap.size w (w3.setCell ⟨w.heap.size, 6, none⟩ (.int .i64 1)).drew := below_drew (below_setB HB3 (Nat.le_refl _) _)
  generalize (w3.setCell ⟨w.heap.size, 6, none⟩ (.int .i64 1)).drew = w4 at *
  clear RX RC3 HB3 f0 f1 f2 g0 gz
  go_upto_region 9 with (first | (apply wpl_loadS (ty := 50); rfl; rfl; rfl; kernel_rfl; (first | assumption | exact Row.new _ _ _ | (apply Row.alloc; (first | assumption | exact Row.new _ _ _ | (apply Row.alloc; (first | assumption | exact Row.new _ _ _))))); kernel_rfl; simp only [Act.put, List.setIfInBounds_toArray, List.set_cons_zero, List.set_cons_succ]) | (go_at_call 36; (with_reducible refine (c_okI60 _).mono ?_); rintro e w5 ⟨rfl, hb5⟩))
  have R5 := R4.below hb5 R4.lt
  have X5 := X4.below hb5 X4.lt
  have HB5 := below_two HB4 hb5
  clear R4 X4 HB4 hb5
  have f0 := X5.cell 0 rfl
  have g0 := R5.cell 6 rfl
  have gz := R5.free
  go_upto_region 10 with (fail)
  have R6 : Row (w5.setCell ⟨w.heap.size, 6, none⟩ (.int .i64 (0))) w.heap.size #[.int .i64 4, .int .i64 8, .int .i64 2, .int .i64 4, .int .i64 16, .int .i64 8, .int .i64 0, .int .i64 20, .int .i64 4, .float .f64 4602678819172646912] 50 := R5.set 6 (.int .i64 (0))
  have HB6 : Below w.heap.size w (w5.setCell ⟨w.heap.size, 6, none⟩ (.int .i64 (0))) := below_setB HB5 (Nat.le_refl _) _
  generalize w5.setCell ⟨w.heap.size, 6, none⟩ (.int .i64 (0)) = w6 at *
  clear R5 X5 HB5 f0 g0 gz
  go_upto_region 11 with (first | (apply wpl_loadS (ty := 50); rfl; rfl; rfl; kernel_rfl; (first | assumption | exact Row.new _ _ _ | (apply Row.alloc; (first | assumption | exact Row.new _ _ _ | (apply Row.alloc; (first | assumption | exact Row.new _ _ _))))); kernel_rfl; simp only [Act.put, List.setIfInBounds_toArray, List.set_cons_zero, List.set_cons_succ]) | (go_at_call 37; (with_reducible refine (c_bdO60 _).mono ?_); rintro e w7 ⟨rfl, hb7⟩))
  have R8 := (R6.below hb7 R6.lt).alloc (.cells #[.int .i64 0, .int .i64 0, .int .i64 0, .int .i64 0, .int .i64 0, .int .i64 0, .int .i64 0, .int .i64 0, .int .i64 0, .int .i64 0, .int .i64 0, .int .i64 0, .int .i64 0] 56)
  have HB8 := below_alloc (below_two HB6 hb7) (.cells #[.int .i64 0, .int .i64 0, .int .i64 0, .int .i64 0, .int .i64 0, .int .i64 0, .int .i64 0, .int .i64 0, .int .i64 0, .int .i64 0, .int .i64 0, .int .i64 0, .int .i64 0] 56)
  generalize w7.alloc (.cells #[.int .i64 0, .int .i64 0, .int .i64 0, .int .i64 0, .int .i64 0, .int .i64 0, .int .i64 0, .int .i64 0, .int .i64 0, .int .i64 0, .int .i64 0, .int .i64 0, .int .i64 0] 56) = w8 at *
  clear R6 HB6 hb7
  go_wp2_with (first | (apply wpl_loadS (ty := 50); rfl; rfl; rfl; kernel_rfl; (first | assumption | exact Row.new _ _ _ | (apply Row.alloc; (first | assumption | exact Row.new _ _ _ | (apply Row.alloc; (first | assumption | exact Row.new _ _ _))))); kernel_rfl; simp only [Act.put, List.setIfInBounds_toArray, List.set_cons_zero, List.set_cons_succ]) | (go_at_call 36; (with_reducible refine (c_okO60 _).mono ?_); rintro e w9 ⟨rfl, hb9⟩) | (go_at_call 38; refine (c_awake20 _).mono ?_; rintro e w10 ⟨rfl, hb10⟩))
  go_ret
  exact ⟨rfl, below_two HB8 (below_two hb9 hb10)⟩

theorem part_e61 : PartIs 10 half 20 true := by
  refine ⟨?_⟩
  unfold PartIs0
  have h : (partOk 10 half = true ∧ enB (Int.toNat 10) half big = true) := by decide +kernel
  rw [if_pos h]
  decide +kernel
theorem c_okI61 (w : World) : Calls Try.prog 36 #[.agg #[.int .i64 4, .int .i64 8, .int .i64 2, .int .i64 4, .int .i64 16, .int .i64 8, .int .i64 64, .int .i64 20, .int .i64 4, .float .f64 4602678819172646912]] w fun e w' => e = .returned (.bool true) ∧ Below w.heap.size w w' :=
  (c_ok ⟨4, 8, 2, 4, 16, 8, 64, 20, 4, half⟩ w (by unfold W64; decide)).mono fun e w' ⟨he, hb⟩ => by
    have hn : (nodesF ⟨4, 8, 2, 4, 16, 8, 64, 20, 4, half⟩).1 = 10 := by decide +kernel
    rw [(bd_of (a := ⟨4, 8, 2, 4, 16, 8, 64, 20, 4, half⟩) (k := 20) (y := 32) (by decide +kernel) (by rw [hn]; exact part_e61) (by decide +kernel) (by decide)).1] at he
    exact ⟨he, hb⟩
theorem c_okO61 (w : World) : Calls Try.prog 36 #[.agg #[.int .i64 4, .int .i64 8, .int .i64 2, .int .i64 4, .int .i64 16, .int .i64 8, .int .i64 65, .int .i64 20, .int .i64 4, .float .f64 4602678819172646912]] w fun e w' => e = .returned (.bool false) ∧ Below w.heap.size w w' :=
  (c_ok ⟨4, 8, 2, 4, 16, 8, 65, 20, 4, half⟩ w (by unfold W64; decide)).mono fun e w' ⟨he, hb⟩ => by
    rw [(bd_nums (a := ⟨4, 8, 2, 4, 16, 8, 65, 20, 4, half⟩) (by decide +kernel)).1] at he
    exact ⟨he, hb⟩
theorem c_bdO61 (w : World) : Calls Try.prog 37 #[.agg #[.int .i64 4, .int .i64 8, .int .i64 2, .int .i64 4, .int .i64 16, .int .i64 8, .int .i64 65, .int .i64 20, .int .i64 4, .float .f64 4602678819172646912]] w fun e w' =>
    e = .returned (.tuple #[.agg #[.int .i64 0, .int .i64 0, .int .i64 0, .int .i64 0, .int .i64 0, .int .i64 0, .int .i64 0, .int .i64 0, .int .i64 0, .int .i64 0, .int .i64 0, .int .i64 0, .int .i64 0], .bool false]) ∧ Below w.heap.size w w' :=
  (c_bounds ⟨4, 8, 2, 4, 16, 8, 65, 20, 4, half⟩ w (by unfold W64; decide)).mono fun e w' ⟨he, hb⟩ => by
    obtain ⟨h1, h2⟩ := bd_nums (a := ⟨4, 8, 2, 4, 16, 8, 65, 20, 4, half⟩) (by decide +kernel)
    rw [h1, h2] at he
    exact ⟨he, hb⟩
set_option maxHeartbeats 4000000 in
theorem w_err61 (n : Int) (w : World) (nn : Nat) (hn : bits BinOp.and IntKind.i64 n 255 = (nn : Int)) (h1 : nn ≤ 255) (hp : (nn : Int) % 9 = 6) :
    Calls Try.prog 10 #[.int .i64 n, .bool true] w fun e w' => e = .returned (.bool true) ∧ Below w.heap.size w w' := by
  have hn0 : (0 : Int) ≤ (nn : Int) := by omega
  go_enter Try.func10, Try.ntmps10
  go_upto_region 3 with (apply wpl_storeN; rfl; rfl; rfl; (first | rfl | simp); rfl; kernel_rfl; rfl; (simp [Value.oneCell']); simp only [Act.put])
  have RA := Row.new (w.alloc (.cells #[.int .i64 4, .int .i64 8, .int .i64 2, .int .i64 4, .int .i64 16, .int .i64 8, .int .i64 3, .int .i64 20, .int .i64 4, .float .f64 4602678819172646912] 50)) (all20C w.heap.size) 52
  have RC := (Row.new w #[.int .i64 4, .int .i64 8, .int .i64 2, .int .i64 4, .int .i64 16, .int .i64 8, .int .i64 3, .int .i64 20, .int .i64 4, .float .f64 4602678819172646912] 50).alloc (.cells (all20C w.heap.size) 52)
  have HB : Below w.heap.size w ((w.alloc (.cells #[.int .i64 4, .int .i64 8, .int .i64 2, .int .i64 4, .int .i64 16, .int .i64 8, .int .i64 3, .int .i64 20, .int .i64 4, .float .f64 4602678819172646912] 50)).alloc (.cells (all20C w.heap.size) 52)) := below_alloc (below_alloc (Below.refl _ _) _) _
  have hs : ((w.alloc (.cells #[.int .i64 4, .int .i64 8, .int .i64 2, .int .i64 4, .int .i64 16, .int .i64 8, .int .i64 3, .int .i64 20, .int .i64 4, .float .f64 4602678819172646912] 50)).alloc (.cells (all20C w.heap.size) 52)).heap.size = w.heap.size + 2 := by simp
  have hs1 : (w.alloc (.cells #[.int .i64 4, .int .i64 8, .int .i64 2, .int .i64 4, .int .i64 16, .int .i64 8, .int .i64 3, .int .i64 20, .int .i64 4, .float .f64 4602678819172646912] 50)).heap.size = w.heap.size + 1 := by simp
  rw [hs1] at RA
  unfold all20C at *
  generalize (w.alloc (.cells #[.int .i64 4, .int .i64 8, .int .i64 2, .int .i64 4, .int .i64 16, .int .i64 8, .int .i64 3, .int .i64 20, .int .i64 4, .float .f64 4602678819172646912] 50)).alloc (.cells #[.pointer (some ⟨w.heap.size, 0, none⟩), .int .i64 1, .int .i64 32, .pointer (some ⟨w.heap.size, 1, none⟩), .int .i64 8, .int .i64 64, .pointer (some ⟨w.heap.size, 2, none⟩), .int .i64 1, .int .i64 4, .pointer (some ⟨w.heap.size, 3, none⟩), .int .i64 3, .int .i64 8, .pointer (some ⟨w.heap.size, 4, none⟩), .int .i64 8, .int .i64 64, .pointer (some ⟨w.heap.size, 5, none⟩), .int .i64 3, .int .i64 32, .pointer (some ⟨w.heap.size, 6, none⟩), .int .i64 1, .int .i64 64, .pointer (some ⟨w.heap.size, 7, none⟩), .int .i64 1, .int .i64 500, .pointer (some ⟨w.heap.size, 8, none⟩), .int .i64 1, .int .i64 8] 52) = w2 at *
  have e0 := RA.cell 18 rfl
  have e1 := RA.cell 19 rfl
  have e2 := RA.cell 20 rfl
  clear hs1
  go_upto_region 4 with (fail)
  have RX := Row.new w2 #[.pointer (some ⟨w.heap.size, 6, none⟩), .int .i64 1, .int .i64 64] 52
  have RC3 := RC.alloc (.cells #[.pointer (some ⟨w.heap.size, 6, none⟩), .int .i64 1, .int .i64 64] 52)
  have HB3 : Below w.heap.size w (w2.alloc (.cells #[.pointer (some ⟨w.heap.size, 6, none⟩), .int .i64 1, .int .i64 64] 52)) := below_alloc HB _
  rw [hs] at RX
  generalize w2.alloc (.cells #[.pointer (some ⟨w.heap.size, 6, none⟩), .int .i64 1, .int .i64 64] 52) = w3 at *
  clear RA RC HB hs e0 e1 e2
  have f0 := RX.cell 0 rfl
  have f1 := RX.cell 1 rfl
  have f2 := RX.cell 2 rfl
  have g0 := RC3.cell 6 rfl
  have gz := RC3.free
  (refine wp_region_lin [(0, true), (1, true), (2, true), (3, true), (4, true), (5, true), (6, true)] rfl rfl (by kernel_rfl) (by kernel_rfl) (fun _ _ _ _ _ h => h) ?_; (iterate 7 (first | (apply lin_take; (simp only [List.getElem?_toArray, List.getElem?_cons_succ, List.getElem?_cons_zero]; rfl); (rfl); (intro w' hb'; (try have k_f0 := cell_keep hb' f0); (try have k_f1 := cell_keep hb' f1); (try have k_f2 := cell_keep hb' f2); (first | (go_simp; done) | (go_simp; with_reducible rfl) | (go_simp; go_bits; with_reducible rfl) | (go_simp; go_bits; done))); try simp only [Act.put, List.setIfInBounds_toArray, List.set_cons_zero, List.set_cons_succ]) | (apply lin_skip; (simp only [List.getElem?_toArray, List.getElem?_cons_succ, List.getElem?_cons_zero]; rfl); (rfl); try simp only [Act.put, List.setIfInBounds_toArray, List.set_cons_zero, List.set_cons_succ]) | (apply lin_pass; (simp only [List.getElem?_toArray, List.getElem?_cons_succ, List.getElem?_cons_zero]; rfl); (rfl); try simp only [Act.put, List.setIfInBounds_toArray, List.set_cons_zero, List.set_cons_succ]) | (apply lin_op; (simp only [List.getElem?_toArray, List.getElem?_cons_succ, List.getElem?_cons_zero]; rfl); (rfl); intro K hK; go_simp; (first | skip); refine hK _ _ ?_ ?_; (first | exact ⟨rfl, rfl, rfl, Nat.le_refl _, fun _ _ => rfl⟩ | assumption | exact below_alloc (Below.refl _ _) _ | exact below_drewN (by assumption) _); clear hK; try simp only [Act.put, List.setIfInBounds_toArray, List.set_cons_zero, List.set_cons_succ]))); refine lin_end ?_)
  go_upto_region 6 with (fail)
  (refine wp_region_lin [(0, true), (1, true), (2, true), (3, true), (4, true), (5, true), (6, true)] rfl rfl (by kernel_rfl) (by kernel_rfl) (fun _ _ _ _ _ h => h) ?_; (iterate 7 (first | (apply lin_take; (simp only [List.getElem?_toArray, List.getElem?_cons_succ, List.getElem?_cons_zero]; rfl); (rfl); (intro w' hb'; (try have k_f0 := cell_keep hb' f0); (try have k_f1 := cell_keep hb' f1); (try have k_f2 := cell_keep hb' f2); (first | (go_simp; done) | (go_simp; with_reducible rfl) | (go_simp; go_bits; with_reducible rfl) | (go_simp; go_bits; done))); try simp only [Act.put, List.setIfInBounds_toArray, List.set_cons_zero, List.set_cons_succ]) | (apply lin_skip; (simp only [List.getElem?_toArray, List.getElem?_cons_succ, List.getElem?_cons_zero]; rfl); (rfl); try simp only [Act.put, List.setIfInBounds_toArray, List.set_cons_zero, List.set_cons_succ]) | (apply lin_pass; (simp only [List.getElem?_toArray, List.getElem?_cons_succ, List.getElem?_cons_zero]; rfl); (rfl); try simp only [Act.put, List.setIfInBounds_toArray, List.set_cons_zero, List.set_cons_succ]) | (apply lin_op; (simp only [List.getElem?_toArray, List.getElem?_cons_succ, List.getElem?_cons_zero]; rfl); (rfl); intro K hK; go_simp; (first | skip); refine hK _ _ ?_ ?_; (first | exact ⟨rfl, rfl, rfl, Nat.le_refl _, fun _ _ => rfl⟩ | assumption | exact below_alloc (Below.refl _ _) _ | exact below_drewN (by assumption) _); clear hK; try simp only [Act.put, List.setIfInBounds_toArray, List.set_cons_zero, List.set_cons_succ]))); refine lin_end ?_)
  go_upto_region 8 with (fail)
  have R4 : Row (w3.setCell ⟨w.heap.size, 6, none⟩ (.int .i64 64)).drew.drew w.heap.size #[.int .i64 4, .int .i64 8, .int .i64 2, .int .i64 4, .int .i64 16, .int .i64 8, .int .i64 64, .int .i64 20, .int .i64 4, .float .f64 4602678819172646912] 50 := RC3.set 6 (.int .i64 64)
  have X4 : Row (w3.setCell ⟨w.heap.size, 6, none⟩ (.int .i64 64)).drew.drew (w.heap.size + 2) #[.pointer (some ⟨w.heap.size, 6, none⟩), .int .i64 1, .int .i64 64] 52 := RX.set_other 6 (.int .i64 64) (by omega)
  have HB4 : Below w.heap.size w (w3.setCell ⟨w.heap.size, 6, none⟩ (.int .i64 64)).drew.drew := below_drew (below_drew (below_setB HB3 (Nat.le_refl _) _))
  generalize (w3.setCell ⟨w.heap.size, 6, none⟩ (.int .i64 64)).drew.drew = w4 at *
  clear RX RC3 HB3 f0 f1 f2 g0 gz
  go_upto_region 9 with (first | (apply wpl_loadS (ty := 50); rfl; rfl; rfl; kernel_rfl; (first | assumption | exact Row.new _ _ _ | (apply Row.alloc; (first | assumption | exact Row.new _ _ _ | (apply Row.alloc; (first | assumption | exact Row.new _ _ _))))); kernel_rfl; simp only [Act.put, List.setIfInBounds_toArray, List.set_cons_zero, List.set_cons_succ]) | (go_at_call 36; (with_reducible refine (c_okI61 _).mono ?_); rintro e w5 ⟨rfl, hb5⟩))
  have R5 := R4.below hb5 R4.lt
  have X5 := X4.below hb5 X4.lt
  have HB5 := below_two HB4 hb5
  clear R4 X4 HB4 hb5
  have f0 := X5.cell 0 rfl
  have g0 := R5.cell 6 rfl
  have gz := R5.free
  go_upto_region 10 with (fail)
  have R6 : Row (w5.setCell ⟨w.heap.size, 6, none⟩ (.int .i64 (65))) w.heap.size #[.int .i64 4, .int .i64 8, .int .i64 2, .int .i64 4, .int .i64 16, .int .i64 8, .int .i64 65, .int .i64 20, .int .i64 4, .float .f64 4602678819172646912] 50 := R5.set 6 (.int .i64 (65))
  have HB6 : Below w.heap.size w (w5.setCell ⟨w.heap.size, 6, none⟩ (.int .i64 (65))) := below_setB HB5 (Nat.le_refl _) _
  generalize w5.setCell ⟨w.heap.size, 6, none⟩ (.int .i64 (65)) = w6 at *
  clear R5 X5 HB5 f0 g0 gz
  go_upto_region 11 with (first | (apply wpl_loadS (ty := 50); rfl; rfl; rfl; kernel_rfl; (first | assumption | exact Row.new _ _ _ | (apply Row.alloc; (first | assumption | exact Row.new _ _ _ | (apply Row.alloc; (first | assumption | exact Row.new _ _ _))))); kernel_rfl; simp only [Act.put, List.setIfInBounds_toArray, List.set_cons_zero, List.set_cons_succ]) | (go_at_call 37; (with_reducible refine (c_bdO61 _).mono ?_); rintro e w7 ⟨rfl, hb7⟩))
  have R8 := (R6.below hb7 R6.lt).alloc (.cells #[.int .i64 0, .int .i64 0, .int .i64 0, .int .i64 0, .int .i64 0, .int .i64 0, .int .i64 0, .int .i64 0, .int .i64 0, .int .i64 0, .int .i64 0, .int .i64 0, .int .i64 0] 56)
  have HB8 := below_alloc (below_two HB6 hb7) (.cells #[.int .i64 0, .int .i64 0, .int .i64 0, .int .i64 0, .int .i64 0, .int .i64 0, .int .i64 0, .int .i64 0, .int .i64 0, .int .i64 0, .int .i64 0, .int .i64 0, .int .i64 0] 56)
  generalize w7.alloc (.cells #[.int .i64 0, .int .i64 0, .int .i64 0, .int .i64 0, .int .i64 0, .int .i64 0, .int .i64 0, .int .i64 0, .int .i64 0, .int .i64 0, .int .i64 0, .int .i64 0, .int .i64 0] 56) = w8 at *
  clear R6 HB6 hb7
  go_wp2_with (first | (apply wpl_loadS (ty := 50); rfl; rfl; rfl; kernel_rfl; (first | assumption | exact Row.new _ _ _ | (apply Row.alloc; (first | assumption | exact Row.new _ _ _ | (apply Row.alloc; (first | assumption | exact Row.new _ _ _))))); kernel_rfl; simp only [Act.put, List.setIfInBounds_toArray, List.set_cons_zero, List.set_cons_succ]) | (go_at_call 36; (with_reducible refine (c_okO61 _).mono ?_); rintro e w9 ⟨rfl, hb9⟩) | (go_at_call 38; refine (c_awake20 _).mono ?_; rintro e w10 ⟨rfl, hb10⟩))
  go_ret
  exact ⟨rfl, below_two HB8 (below_two hb9 hb10)⟩

theorem part_e70 : PartIs 1 half 2 true := by
  refine ⟨?_⟩
  unfold PartIs0
  have h : (partOk 1 half = true ∧ enB (Int.toNat 1) half big = true) := by decide +kernel
  rw [if_pos h]
  decide +kernel
theorem c_okI70 (w : World) : Calls Try.prog 36 #[.agg #[.int .i64 4, .int .i64 8, .int .i64 2, .int .i64 4, .int .i64 16, .int .i64 8, .int .i64 3, .int .i64 1, .int .i64 4, .float .f64 4602678819172646912]] w fun e w' => e = .returned (.bool true) ∧ Below w.heap.size w w' :=
  (c_ok ⟨4, 8, 2, 4, 16, 8, 3, 1, 4, half⟩ w (by unfold W64; decide)).mono fun e w' ⟨he, hb⟩ => by
    have hn : (nodesF ⟨4, 8, 2, 4, 16, 8, 3, 1, 4, half⟩).1 = 1 := by decide +kernel
    rw [(bd_of (a := ⟨4, 8, 2, 4, 16, 8, 3, 1, 4, half⟩) (k := 2) (y := 2) (by decide +kernel) (by rw [hn]; exact part_e70) (by decide +kernel) (by decide)).1] at he
    exact ⟨he, hb⟩
theorem c_okO70 (w : World) : Calls Try.prog 36 #[.agg #[.int .i64 4, .int .i64 8, .int .i64 2, .int .i64 4, .int .i64 16, .int .i64 8, .int .i64 3, .int .i64 0, .int .i64 4, .float .f64 4602678819172646912]] w fun e w' => e = .returned (.bool false) ∧ Below w.heap.size w w' :=
  (c_ok ⟨4, 8, 2, 4, 16, 8, 3, 0, 4, half⟩ w (by unfold W64; decide)).mono fun e w' ⟨he, hb⟩ => by
    rw [(bd_nums (a := ⟨4, 8, 2, 4, 16, 8, 3, 0, 4, half⟩) (by decide +kernel)).1] at he
    exact ⟨he, hb⟩
theorem c_bdO70 (w : World) : Calls Try.prog 37 #[.agg #[.int .i64 4, .int .i64 8, .int .i64 2, .int .i64 4, .int .i64 16, .int .i64 8, .int .i64 3, .int .i64 0, .int .i64 4, .float .f64 4602678819172646912]] w fun e w' =>
    e = .returned (.tuple #[.agg #[.int .i64 0, .int .i64 0, .int .i64 0, .int .i64 0, .int .i64 0, .int .i64 0, .int .i64 0, .int .i64 0, .int .i64 0, .int .i64 0, .int .i64 0, .int .i64 0, .int .i64 0], .bool false]) ∧ Below w.heap.size w w' :=
  (c_bounds ⟨4, 8, 2, 4, 16, 8, 3, 0, 4, half⟩ w (by unfold W64; decide)).mono fun e w' ⟨he, hb⟩ => by
    obtain ⟨h1, h2⟩ := bd_nums (a := ⟨4, 8, 2, 4, 16, 8, 3, 0, 4, half⟩) (by decide +kernel)
    rw [h1, h2] at he
    exact ⟨he, hb⟩
set_option maxHeartbeats 4000000 in
theorem w_err70 (n : Int) (w : World) (nn : Nat) (hn : bits BinOp.and IntKind.i64 n 255 = (nn : Int)) (h1 : nn ≤ 255) (hp : (nn : Int) % 9 = 7) :
    Calls Try.prog 10 #[.int .i64 n, .bool false] w fun e w' => e = .returned (.bool true) ∧ Below w.heap.size w w' := by
  have hn0 : (0 : Int) ≤ (nn : Int) := by omega
  go_enter Try.func10, Try.ntmps10
  go_upto_region 3 with (apply wpl_storeN; rfl; rfl; rfl; (first | rfl | simp); rfl; kernel_rfl; rfl; (simp [Value.oneCell']); simp only [Act.put])
  have RA := Row.new (w.alloc (.cells #[.int .i64 4, .int .i64 8, .int .i64 2, .int .i64 4, .int .i64 16, .int .i64 8, .int .i64 3, .int .i64 20, .int .i64 4, .float .f64 4602678819172646912] 50)) (all20C w.heap.size) 52
  have RC := (Row.new w #[.int .i64 4, .int .i64 8, .int .i64 2, .int .i64 4, .int .i64 16, .int .i64 8, .int .i64 3, .int .i64 20, .int .i64 4, .float .f64 4602678819172646912] 50).alloc (.cells (all20C w.heap.size) 52)
  have HB : Below w.heap.size w ((w.alloc (.cells #[.int .i64 4, .int .i64 8, .int .i64 2, .int .i64 4, .int .i64 16, .int .i64 8, .int .i64 3, .int .i64 20, .int .i64 4, .float .f64 4602678819172646912] 50)).alloc (.cells (all20C w.heap.size) 52)) := below_alloc (below_alloc (Below.refl _ _) _) _
  have hs : ((w.alloc (.cells #[.int .i64 4, .int .i64 8, .int .i64 2, .int .i64 4, .int .i64 16, .int .i64 8, .int .i64 3, .int .i64 20, .int .i64 4, .float .f64 4602678819172646912] 50)).alloc (.cells (all20C w.heap.size) 52)).heap.size = w.heap.size + 2 := by simp
  have hs1 : (w.alloc (.cells #[.int .i64 4, .int .i64 8, .int .i64 2, .int .i64 4, .int .i64 16, .int .i64 8, .int .i64 3, .int .i64 20, .int .i64 4, .float .f64 4602678819172646912] 50)).heap.size = w.heap.size + 1 := by simp
  rw [hs1] at RA
  unfold all20C at *
  generalize (w.alloc (.cells #[.int .i64 4, .int .i64 8, .int .i64 2, .int .i64 4, .int .i64 16, .int .i64 8, .int .i64 3, .int .i64 20, .int .i64 4, .float .f64 4602678819172646912] 50)).alloc (.cells #[.pointer (some ⟨w.heap.size, 0, none⟩), .int .i64 1, .int .i64 32, .pointer (some ⟨w.heap.size, 1, none⟩), .int .i64 8, .int .i64 64, .pointer (some ⟨w.heap.size, 2, none⟩), .int .i64 1, .int .i64 4, .pointer (some ⟨w.heap.size, 3, none⟩), .int .i64 3, .int .i64 8, .pointer (some ⟨w.heap.size, 4, none⟩), .int .i64 8, .int .i64 64, .pointer (some ⟨w.heap.size, 5, none⟩), .int .i64 3, .int .i64 32, .pointer (some ⟨w.heap.size, 6, none⟩), .int .i64 1, .int .i64 64, .pointer (some ⟨w.heap.size, 7, none⟩), .int .i64 1, .int .i64 500, .pointer (some ⟨w.heap.size, 8, none⟩), .int .i64 1, .int .i64 8] 52) = w2 at *
  have e0 := RA.cell 21 rfl
  have e1 := RA.cell 22 rfl
  have e2 := RA.cell 23 rfl
  clear hs1
  go_upto_region 4 with (fail)
  have RX := Row.new w2 #[.pointer (some ⟨w.heap.size, 7, none⟩), .int .i64 1, .int .i64 500] 52
  have RC3 := RC.alloc (.cells #[.pointer (some ⟨w.heap.size, 7, none⟩), .int .i64 1, .int .i64 500] 52)
  have HB3 : Below w.heap.size w (w2.alloc (.cells #[.pointer (some ⟨w.heap.size, 7, none⟩), .int .i64 1, .int .i64 500] 52)) := below_alloc HB _
  rw [hs] at RX
  generalize w2.alloc (.cells #[.pointer (some ⟨w.heap.size, 7, none⟩), .int .i64 1, .int .i64 500] 52) = w3 at *
  clear RA RC HB hs e0 e1 e2
  have f0 := RX.cell 0 rfl
  have f1 := RX.cell 1 rfl
  have f2 := RX.cell 2 rfl
  have g0 := RC3.cell 7 rfl
  have gz := RC3.free
  (refine wp_region_lin [(0, true), (1, true), (2, true), (3, true), (4, true), (5, true), (6, true)] rfl rfl (by kernel_rfl) (by kernel_rfl) (fun _ _ _ _ _ h => h) ?_; (iterate 7 (first | (apply lin_take; (simp only [List.getElem?_toArray, List.getElem?_cons_succ, List.getElem?_cons_zero]; rfl); (rfl); (intro w' hb'; (try have k_f0 := cell_keep hb' f0); (try have k_f1 := cell_keep hb' f1); (try have k_f2 := cell_keep hb' f2); (first | (go_simp; done) | (go_simp; with_reducible rfl) | (go_simp; go_bits; with_reducible rfl) | (go_simp; go_bits; done))); try simp only [Act.put, List.setIfInBounds_toArray, List.set_cons_zero, List.set_cons_succ]) | (apply lin_skip; (simp only [List.getElem?_toArray, List.getElem?_cons_succ, List.getElem?_cons_zero]; rfl); (rfl); try simp only [Act.put, List.setIfInBounds_toArray, List.set_cons_zero, List.set_cons_succ]) | (apply lin_pass; (simp only [List.getElem?_toArray, List.getElem?_cons_succ, List.getElem?_cons_zero]; rfl); (rfl); try simp only [Act.put, List.setIfInBounds_toArray, List.set_cons_zero, List.set_cons_succ]) | (apply lin_op; (simp only [List.getElem?_toArray, List.getElem?_cons_succ, List.getElem?_cons_zero]; rfl); (rfl); intro K hK; go_simp; (first | skip); refine hK _ _ ?_ ?_; (first | exact ⟨rfl, rfl, rfl, Nat.le_refl _, fun _ _ => rfl⟩ | assumption | exact below_alloc (Below.refl _ _) _ | exact below_drewN (by assumption) _); clear hK; try simp only [Act.put, List.setIfInBounds_toArray, List.set_cons_zero, List.set_cons_succ]))); refine lin_end ?_)
  go_upto_region 8 with (fail)
  have R4 : Row (w3.setCell ⟨w.heap.size, 7, none⟩ (.int .i64 1)).drew w.heap.size #[.int .i64 4, .int .i64 8, .int .i64 2, .int .i64 4, .int .i64 16, .int .i64 8, .int .i64 3, .int .i64 1, .int .i64 4, .float .f64 4602678819172646912] 50 := RC3.set 7 (.int .i64 1)
  have X4 : Row (w3.setCell ⟨w.heap.size, 7, none⟩ (.int .i64 1)).drew (w.heap.size + 2) #[.pointer (some ⟨w.heap.size, 7, none⟩), .int .i64 1, .int .i64 500] 52 := RX.set_other 7 (.int .i64 1) (by omega)
  have HB4 : Below w.heap.size w (w3.setCell ⟨w.heap.size, 7, none⟩ (.int .i64 1)).drew := below_drew (below_setB HB3 (Nat.le_refl _) _)
  generalize (w3.setCell ⟨w.heap.size, 7, none⟩ (.int .i64 1)).drew = w4 at *
  clear RX RC3 HB3 f0 f1 f2 g0 gz
  go_upto_region 9 with (first | (apply wpl_loadS (ty := 50); rfl; rfl; rfl; kernel_rfl; (first | assumption | exact Row.new _ _ _ | (apply Row.alloc; (first | assumption | exact Row.new _ _ _ | (apply Row.alloc; (first | assumption | exact Row.new _ _ _))))); kernel_rfl; simp only [Act.put, List.setIfInBounds_toArray, List.set_cons_zero, List.set_cons_succ]) | (go_at_call 36; (with_reducible refine (c_okI70 _).mono ?_); rintro e w5 ⟨rfl, hb5⟩))
  have R5 := R4.below hb5 R4.lt
  have X5 := X4.below hb5 X4.lt
  have HB5 := below_two HB4 hb5
  clear R4 X4 HB4 hb5
  have f0 := X5.cell 0 rfl
  have g0 := R5.cell 7 rfl
  have gz := R5.free
  go_upto_region 10 with (fail)
  have R6 : Row (w5.setCell ⟨w.heap.size, 7, none⟩ (.int .i64 (0))) w.heap.size #[.int .i64 4, .int .i64 8, .int .i64 2, .int .i64 4, .int .i64 16, .int .i64 8, .int .i64 3, .int .i64 0, .int .i64 4, .float .f64 4602678819172646912] 50 := R5.set 7 (.int .i64 (0))
  have HB6 : Below w.heap.size w (w5.setCell ⟨w.heap.size, 7, none⟩ (.int .i64 (0))) := below_setB HB5 (Nat.le_refl _) _
  generalize w5.setCell ⟨w.heap.size, 7, none⟩ (.int .i64 (0)) = w6 at *
  clear R5 X5 HB5 f0 g0 gz
  go_upto_region 11 with (first | (apply wpl_loadS (ty := 50); rfl; rfl; rfl; kernel_rfl; (first | assumption | exact Row.new _ _ _ | (apply Row.alloc; (first | assumption | exact Row.new _ _ _ | (apply Row.alloc; (first | assumption | exact Row.new _ _ _))))); kernel_rfl; simp only [Act.put, List.setIfInBounds_toArray, List.set_cons_zero, List.set_cons_succ]) | (go_at_call 37; (with_reducible refine (c_bdO70 _).mono ?_); rintro e w7 ⟨rfl, hb7⟩))
  have R8 := (R6.below hb7 R6.lt).alloc (.cells #[.int .i64 0, .int .i64 0, .int .i64 0, .int .i64 0, .int .i64 0, .int .i64 0, .int .i64 0, .int .i64 0, .int .i64 0, .int .i64 0, .int .i64 0, .int .i64 0, .int .i64 0] 56)
  have HB8 := below_alloc (below_two HB6 hb7) (.cells #[.int .i64 0, .int .i64 0, .int .i64 0, .int .i64 0, .int .i64 0, .int .i64 0, .int .i64 0, .int .i64 0, .int .i64 0, .int .i64 0, .int .i64 0, .int .i64 0, .int .i64 0] 56)
  generalize w7.alloc (.cells #[.int .i64 0, .int .i64 0, .int .i64 0, .int .i64 0, .int .i64 0, .int .i64 0, .int .i64 0, .int .i64 0, .int .i64 0, .int .i64 0, .int .i64 0, .int .i64 0, .int .i64 0] 56) = w8 at *
  clear R6 HB6 hb7
  go_wp2_with (first | (apply wpl_loadS (ty := 50); rfl; rfl; rfl; kernel_rfl; (first | assumption | exact Row.new _ _ _ | (apply Row.alloc; (first | assumption | exact Row.new _ _ _ | (apply Row.alloc; (first | assumption | exact Row.new _ _ _))))); kernel_rfl; simp only [Act.put, List.setIfInBounds_toArray, List.set_cons_zero, List.set_cons_succ]) | (go_at_call 36; (with_reducible refine (c_okO70 _).mono ?_); rintro e w9 ⟨rfl, hb9⟩) | (go_at_call 38; refine (c_awake20 _).mono ?_; rintro e w10 ⟨rfl, hb10⟩))
  go_ret
  exact ⟨rfl, below_two HB8 (below_two hb9 hb10)⟩

theorem part_e71 : PartIs 246 half 492 true := by
  refine ⟨?_⟩
  unfold PartIs0
  have h : (partOk 246 half = true ∧ enB (Int.toNat 246) half big = true) := by decide +kernel
  rw [if_pos h]
  decide +kernel
theorem c_okI71 (w : World) : Calls Try.prog 36 #[.agg #[.int .i64 4, .int .i64 8, .int .i64 2, .int .i64 4, .int .i64 16, .int .i64 8, .int .i64 3, .int .i64 500, .int .i64 4, .float .f64 4602678819172646912]] w fun e w' => e = .returned (.bool true) ∧ Below w.heap.size w w' :=
  (c_ok ⟨4, 8, 2, 4, 16, 8, 3, 500, 4, half⟩ w (by unfold W64; decide)).mono fun e w' ⟨he, hb⟩ => by
    have hn : (nodesF ⟨4, 8, 2, 4, 16, 8, 3, 500, 4, half⟩).1 = 246 := by decide +kernel
    rw [(bd_of (a := ⟨4, 8, 2, 4, 16, 8, 3, 500, 4, half⟩) (k := 492) (y := 512) (by decide +kernel) (by rw [hn]; exact part_e71) (by decide +kernel) (by decide)).1] at he
    exact ⟨he, hb⟩
theorem c_okO71 (w : World) : Calls Try.prog 36 #[.agg #[.int .i64 4, .int .i64 8, .int .i64 2, .int .i64 4, .int .i64 16, .int .i64 8, .int .i64 3, .int .i64 501, .int .i64 4, .float .f64 4602678819172646912]] w fun e w' => e = .returned (.bool false) ∧ Below w.heap.size w w' :=
  (c_ok ⟨4, 8, 2, 4, 16, 8, 3, 501, 4, half⟩ w (by unfold W64; decide)).mono fun e w' ⟨he, hb⟩ => by
    rw [(bd_nums (a := ⟨4, 8, 2, 4, 16, 8, 3, 501, 4, half⟩) (by decide +kernel)).1] at he
    exact ⟨he, hb⟩
theorem c_bdO71 (w : World) : Calls Try.prog 37 #[.agg #[.int .i64 4, .int .i64 8, .int .i64 2, .int .i64 4, .int .i64 16, .int .i64 8, .int .i64 3, .int .i64 501, .int .i64 4, .float .f64 4602678819172646912]] w fun e w' =>
    e = .returned (.tuple #[.agg #[.int .i64 0, .int .i64 0, .int .i64 0, .int .i64 0, .int .i64 0, .int .i64 0, .int .i64 0, .int .i64 0, .int .i64 0, .int .i64 0, .int .i64 0, .int .i64 0, .int .i64 0], .bool false]) ∧ Below w.heap.size w w' :=
  (c_bounds ⟨4, 8, 2, 4, 16, 8, 3, 501, 4, half⟩ w (by unfold W64; decide)).mono fun e w' ⟨he, hb⟩ => by
    obtain ⟨h1, h2⟩ := bd_nums (a := ⟨4, 8, 2, 4, 16, 8, 3, 501, 4, half⟩) (by decide +kernel)
    rw [h1, h2] at he
    exact ⟨he, hb⟩
set_option maxHeartbeats 4000000 in
theorem w_err71 (n : Int) (w : World) (nn : Nat) (hn : bits BinOp.and IntKind.i64 n 255 = (nn : Int)) (h1 : nn ≤ 255) (hp : (nn : Int) % 9 = 7) :
    Calls Try.prog 10 #[.int .i64 n, .bool true] w fun e w' => e = .returned (.bool true) ∧ Below w.heap.size w w' := by
  have hn0 : (0 : Int) ≤ (nn : Int) := by omega
  go_enter Try.func10, Try.ntmps10
  go_upto_region 3 with (apply wpl_storeN; rfl; rfl; rfl; (first | rfl | simp); rfl; kernel_rfl; rfl; (simp [Value.oneCell']); simp only [Act.put])
  have RA := Row.new (w.alloc (.cells #[.int .i64 4, .int .i64 8, .int .i64 2, .int .i64 4, .int .i64 16, .int .i64 8, .int .i64 3, .int .i64 20, .int .i64 4, .float .f64 4602678819172646912] 50)) (all20C w.heap.size) 52
  have RC := (Row.new w #[.int .i64 4, .int .i64 8, .int .i64 2, .int .i64 4, .int .i64 16, .int .i64 8, .int .i64 3, .int .i64 20, .int .i64 4, .float .f64 4602678819172646912] 50).alloc (.cells (all20C w.heap.size) 52)
  have HB : Below w.heap.size w ((w.alloc (.cells #[.int .i64 4, .int .i64 8, .int .i64 2, .int .i64 4, .int .i64 16, .int .i64 8, .int .i64 3, .int .i64 20, .int .i64 4, .float .f64 4602678819172646912] 50)).alloc (.cells (all20C w.heap.size) 52)) := below_alloc (below_alloc (Below.refl _ _) _) _
  have hs : ((w.alloc (.cells #[.int .i64 4, .int .i64 8, .int .i64 2, .int .i64 4, .int .i64 16, .int .i64 8, .int .i64 3, .int .i64 20, .int .i64 4, .float .f64 4602678819172646912] 50)).alloc (.cells (all20C w.heap.size) 52)).heap.size = w.heap.size + 2 := by simp
  have hs1 : (w.alloc (.cells #[.int .i64 4, .int .i64 8, .int .i64 2, .int .i64 4, .int .i64 16, .int .i64 8, .int .i64 3, .int .i64 20, .int .i64 4, .float .f64 4602678819172646912] 50)).heap.size = w.heap.size + 1 := by simp
  rw [hs1] at RA
  unfold all20C at *
  generalize (w.alloc (.cells #[.int .i64 4, .int .i64 8, .int .i64 2, .int .i64 4, .int .i64 16, .int .i64 8, .int .i64 3, .int .i64 20, .int .i64 4, .float .f64 4602678819172646912] 50)).alloc (.cells #[.pointer (some ⟨w.heap.size, 0, none⟩), .int .i64 1, .int .i64 32, .pointer (some ⟨w.heap.size, 1, none⟩), .int .i64 8, .int .i64 64, .pointer (some ⟨w.heap.size, 2, none⟩), .int .i64 1, .int .i64 4, .pointer (some ⟨w.heap.size, 3, none⟩), .int .i64 3, .int .i64 8, .pointer (some ⟨w.heap.size, 4, none⟩), .int .i64 8, .int .i64 64, .pointer (some ⟨w.heap.size, 5, none⟩), .int .i64 3, .int .i64 32, .pointer (some ⟨w.heap.size, 6, none⟩), .int .i64 1, .int .i64 64, .pointer (some ⟨w.heap.size, 7, none⟩), .int .i64 1, .int .i64 500, .pointer (some ⟨w.heap.size, 8, none⟩), .int .i64 1, .int .i64 8] 52) = w2 at *
  have e0 := RA.cell 21 rfl
  have e1 := RA.cell 22 rfl
  have e2 := RA.cell 23 rfl
  clear hs1
  go_upto_region 4 with (fail)
  have RX := Row.new w2 #[.pointer (some ⟨w.heap.size, 7, none⟩), .int .i64 1, .int .i64 500] 52
  have RC3 := RC.alloc (.cells #[.pointer (some ⟨w.heap.size, 7, none⟩), .int .i64 1, .int .i64 500] 52)
  have HB3 : Below w.heap.size w (w2.alloc (.cells #[.pointer (some ⟨w.heap.size, 7, none⟩), .int .i64 1, .int .i64 500] 52)) := below_alloc HB _
  rw [hs] at RX
  generalize w2.alloc (.cells #[.pointer (some ⟨w.heap.size, 7, none⟩), .int .i64 1, .int .i64 500] 52) = w3 at *
  clear RA RC HB hs e0 e1 e2
  have f0 := RX.cell 0 rfl
  have f1 := RX.cell 1 rfl
  have f2 := RX.cell 2 rfl
  have g0 := RC3.cell 7 rfl
  have gz := RC3.free
  (refine wp_region_lin [(0, true), (1, true), (2, true), (3, true), (4, true), (5, true), (6, true)] rfl rfl (by kernel_rfl) (by kernel_rfl) (fun _ _ _ _ _ h => h) ?_; (iterate 7 (first | (apply lin_take; (simp only [List.getElem?_toArray, List.getElem?_cons_succ, List.getElem?_cons_zero]; rfl); (rfl); (intro w' hb'; (try have k_f0 := cell_keep hb' f0); (try have k_f1 := cell_keep hb' f1); (try have k_f2 := cell_keep hb' f2); (first | (go_simp; done) | (go_simp; with_reducible rfl) | (go_simp; go_bits; with_reducible rfl) | (go_simp; go_bits; done))); try simp only [Act.put, List.setIfInBounds_toArray, List.set_cons_zero, List.set_cons_succ]) | (apply lin_skip; (simp only [List.getElem?_toArray, List.getElem?_cons_succ, List.getElem?_cons_zero]; rfl); (rfl); try simp only [Act.put, List.setIfInBounds_toArray, List.set_cons_zero, List.set_cons_succ]) | (apply lin_pass; (simp only [List.getElem?_toArray, List.getElem?_cons_succ, List.getElem?_cons_zero]; rfl); (rfl); try simp only [Act.put, List.setIfInBounds_toArray, List.set_cons_zero, List.set_cons_succ]) | (apply lin_op; (simp only [List.getElem?_toArray, List.getElem?_cons_succ, List.getElem?_cons_zero]; rfl); (rfl); intro K hK; go_simp; (first | skip); refine hK _ _ ?_ ?_; (first | exact ⟨rfl, rfl, rfl, Nat.le_refl _, fun _ _ => rfl⟩ | assumption | exact below_alloc (Below.refl _ _) _ | exact below_drewN (by assumption) _); clear hK; try simp only [Act.put, List.setIfInBounds_toArray, List.set_cons_zero, List.set_cons_succ]))); refine lin_end ?_)
  go_upto_region 6 with (fail)
  (refine wp_region_lin [(0, true), (1, true), (2, true), (3, true), (4, true), (5, true), (6, true)] rfl rfl (by kernel_rfl) (by kernel_rfl) (fun _ _ _ _ _ h => h) ?_; (iterate 7 (first | (apply lin_take; (simp only [List.getElem?_toArray, List.getElem?_cons_succ, List.getElem?_cons_zero]; rfl); (rfl); (intro w' hb'; (try have k_f0 := cell_keep hb' f0); (try have k_f1 := cell_keep hb' f1); (try have k_f2 := cell_keep hb' f2); (first | (go_simp; done) | (go_simp; with_reducible rfl) | (go_simp; go_bits; with_reducible rfl) | (go_simp; go_bits; done))); try simp only [Act.put, List.setIfInBounds_toArray, List.set_cons_zero, List.set_cons_succ]) | (apply lin_skip; (simp only [List.getElem?_toArray, List.getElem?_cons_succ, List.getElem?_cons_zero]; rfl); (rfl); try simp only [Act.put, List.setIfInBounds_toArray, List.set_cons_zero, List.set_cons_succ]) | (apply lin_pass; (simp only [List.getElem?_toArray, List.getElem?_cons_succ, List.getElem?_cons_zero]; rfl); (rfl); try simp only [Act.put, List.setIfInBounds_toArray, List.set_cons_zero, List.set_cons_succ]) | (apply lin_op; (simp only [List.getElem?_toArray, List.getElem?_cons_succ, List.getElem?_cons_zero]; rfl); (rfl); intro K hK; go_simp; (first | skip); refine hK _ _ ?_ ?_; (first | exact ⟨rfl, rfl, rfl, Nat.le_refl _, fun _ _ => rfl⟩ | assumption | exact below_alloc (Below.refl _ _) _ | exact below_drewN (by assumption) _); clear hK; try simp only [Act.put, List.setIfInBounds_toArray, List.set_cons_zero, List.set_cons_succ]))); refine lin_end ?_)
  go_upto_region 8 with (fail)
  have R4 : Row (w3.setCell ⟨w.heap.size, 7, none⟩ (.int .i64 500)).drew.drew w.heap.size #[.int .i64 4, .int .i64 8, .int .i64 2, .int .i64 4, .int .i64 16, .int .i64 8, .int .i64 3, .int .i64 500, .int .i64 4, .float .f64 4602678819172646912] 50 := RC3.set 7 (.int .i64 500)
  have X4 : Row (w3.setCell ⟨w.heap.size, 7, none⟩ (.int .i64 500)).drew.drew (w.heap.size + 2) #[.pointer (some ⟨w.heap.size, 7, none⟩), .int .i64 1, .int .i64 500] 52 := RX.set_other 7 (.int .i64 500) (by omega)
  have HB4 : Below w.heap.size w (w3.setCell ⟨w.heap.size, 7, none⟩ (.int .i64 500)).drew.drew := below_drew (below_drew (below_setB HB3 (Nat.le_refl _) _))
  generalize (w3.setCell ⟨w.heap.size, 7, none⟩ (.int .i64 500)).drew.drew = w4 at *
  clear RX RC3 HB3 f0 f1 f2 g0 gz
  go_upto_region 9 with (first | (apply wpl_loadS (ty := 50); rfl; rfl; rfl; kernel_rfl; (first | assumption | exact Row.new _ _ _ | (apply Row.alloc; (first | assumption | exact Row.new _ _ _ | (apply Row.alloc; (first | assumption | exact Row.new _ _ _))))); kernel_rfl; simp only [Act.put, List.setIfInBounds_toArray, List.set_cons_zero, List.set_cons_succ]) | (go_at_call 36; (with_reducible refine (c_okI71 _).mono ?_); rintro e w5 ⟨rfl, hb5⟩))
  have R5 := R4.below hb5 R4.lt
  have X5 := X4.below hb5 X4.lt
  have HB5 := below_two HB4 hb5
  clear R4 X4 HB4 hb5
  have f0 := X5.cell 0 rfl
  have g0 := R5.cell 7 rfl
  have gz := R5.free
  go_upto_region 10 with (fail)
  have R6 : Row (w5.setCell ⟨w.heap.size, 7, none⟩ (.int .i64 (501))) w.heap.size #[.int .i64 4, .int .i64 8, .int .i64 2, .int .i64 4, .int .i64 16, .int .i64 8, .int .i64 3, .int .i64 501, .int .i64 4, .float .f64 4602678819172646912] 50 := R5.set 7 (.int .i64 (501))
  have HB6 : Below w.heap.size w (w5.setCell ⟨w.heap.size, 7, none⟩ (.int .i64 (501))) := below_setB HB5 (Nat.le_refl _) _
  generalize w5.setCell ⟨w.heap.size, 7, none⟩ (.int .i64 (501)) = w6 at *
  clear R5 X5 HB5 f0 g0 gz
  go_upto_region 11 with (first | (apply wpl_loadS (ty := 50); rfl; rfl; rfl; kernel_rfl; (first | assumption | exact Row.new _ _ _ | (apply Row.alloc; (first | assumption | exact Row.new _ _ _ | (apply Row.alloc; (first | assumption | exact Row.new _ _ _))))); kernel_rfl; simp only [Act.put, List.setIfInBounds_toArray, List.set_cons_zero, List.set_cons_succ]) | (go_at_call 37; (with_reducible refine (c_bdO71 _).mono ?_); rintro e w7 ⟨rfl, hb7⟩))
  have R8 := (R6.below hb7 R6.lt).alloc (.cells #[.int .i64 0, .int .i64 0, .int .i64 0, .int .i64 0, .int .i64 0, .int .i64 0, .int .i64 0, .int .i64 0, .int .i64 0, .int .i64 0, .int .i64 0, .int .i64 0, .int .i64 0] 56)
  have HB8 := below_alloc (below_two HB6 hb7) (.cells #[.int .i64 0, .int .i64 0, .int .i64 0, .int .i64 0, .int .i64 0, .int .i64 0, .int .i64 0, .int .i64 0, .int .i64 0, .int .i64 0, .int .i64 0, .int .i64 0, .int .i64 0] 56)
  generalize w7.alloc (.cells #[.int .i64 0, .int .i64 0, .int .i64 0, .int .i64 0, .int .i64 0, .int .i64 0, .int .i64 0, .int .i64 0, .int .i64 0, .int .i64 0, .int .i64 0, .int .i64 0, .int .i64 0] 56) = w8 at *
  clear R6 HB6 hb7
  go_wp2_with (first | (apply wpl_loadS (ty := 50); rfl; rfl; rfl; kernel_rfl; (first | assumption | exact Row.new _ _ _ | (apply Row.alloc; (first | assumption | exact Row.new _ _ _ | (apply Row.alloc; (first | assumption | exact Row.new _ _ _))))); kernel_rfl; simp only [Act.put, List.setIfInBounds_toArray, List.set_cons_zero, List.set_cons_succ]) | (go_at_call 36; (with_reducible refine (c_okO71 _).mono ?_); rintro e w9 ⟨rfl, hb9⟩) | (go_at_call 38; refine (c_awake20 _).mono ?_; rintro e w10 ⟨rfl, hb10⟩))
  go_ret
  exact ⟨rfl, below_two HB8 (below_two hb9 hb10)⟩

theorem part_e80 : PartIs 10 half 20 true := by
  refine ⟨?_⟩
  unfold PartIs0
  have h : (partOk 10 half = true ∧ enB (Int.toNat 10) half big = true) := by decide +kernel
  rw [if_pos h]
  decide +kernel
theorem c_okI80 (w : World) : Calls Try.prog 36 #[.agg #[.int .i64 4, .int .i64 8, .int .i64 2, .int .i64 4, .int .i64 16, .int .i64 8, .int .i64 3, .int .i64 20, .int .i64 1, .float .f64 4602678819172646912]] w fun e w' => e = .returned (.bool true) ∧ Below w.heap.size w w' :=
  (c_ok ⟨4, 8, 2, 4, 16, 8, 3, 20, 1, half⟩ w (by unfold W64; decide)).mono fun e w' ⟨he, hb⟩ => by
    have hn : (nodesF ⟨4, 8, 2, 4, 16, 8, 3, 20, 1, half⟩).1 = 10 := by decide +kernel
    rw [(bd_of (a := ⟨4, 8, 2, 4, 16, 8, 3, 20, 1, half⟩) (k := 20) (y := 32) (by decide +kernel) (by rw [hn]; exact part_e80) (by decide +kernel) (by decide)).1] at he
    exact ⟨he, hb⟩
theorem c_okO80 (w : World) : Calls Try.prog 36 #[.agg #[.int .i64 4, .int .i64 8, .int .i64 2, .int .i64 4, .int .i64 16, .int .i64 8, .int .i64 3, .int .i64 20, .int .i64 0, .float .f64 4602678819172646912]] w fun e w' => e = .returned (.bool false) ∧ Below w.heap.size w w' :=
  (c_ok ⟨4, 8, 2, 4, 16, 8, 3, 20, 0, half⟩ w (by unfold W64; decide)).mono fun e w' ⟨he, hb⟩ => by
    rw [(bd_nums (a := ⟨4, 8, 2, 4, 16, 8, 3, 20, 0, half⟩) (by decide +kernel)).1] at he
    exact ⟨he, hb⟩
theorem c_bdO80 (w : World) : Calls Try.prog 37 #[.agg #[.int .i64 4, .int .i64 8, .int .i64 2, .int .i64 4, .int .i64 16, .int .i64 8, .int .i64 3, .int .i64 20, .int .i64 0, .float .f64 4602678819172646912]] w fun e w' =>
    e = .returned (.tuple #[.agg #[.int .i64 0, .int .i64 0, .int .i64 0, .int .i64 0, .int .i64 0, .int .i64 0, .int .i64 0, .int .i64 0, .int .i64 0, .int .i64 0, .int .i64 0, .int .i64 0, .int .i64 0], .bool false]) ∧ Below w.heap.size w w' :=
  (c_bounds ⟨4, 8, 2, 4, 16, 8, 3, 20, 0, half⟩ w (by unfold W64; decide)).mono fun e w' ⟨he, hb⟩ => by
    obtain ⟨h1, h2⟩ := bd_nums (a := ⟨4, 8, 2, 4, 16, 8, 3, 20, 0, half⟩) (by decide +kernel)
    rw [h1, h2] at he
    exact ⟨he, hb⟩
set_option maxHeartbeats 4000000 in
theorem w_err80 (n : Int) (w : World) (nn : Nat) (hn : bits BinOp.and IntKind.i64 n 255 = (nn : Int)) (h1 : nn ≤ 255) (hp : (nn : Int) % 9 = 8) :
    Calls Try.prog 10 #[.int .i64 n, .bool false] w fun e w' => e = .returned (.bool true) ∧ Below w.heap.size w w' := by
  have hn0 : (0 : Int) ≤ (nn : Int) := by omega
  go_enter Try.func10, Try.ntmps10
  go_upto_region 3 with (apply wpl_storeN; rfl; rfl; rfl; (first | rfl | simp); rfl; kernel_rfl; rfl; (simp [Value.oneCell']); simp only [Act.put])
  have RA := Row.new (w.alloc (.cells #[.int .i64 4, .int .i64 8, .int .i64 2, .int .i64 4, .int .i64 16, .int .i64 8, .int .i64 3, .int .i64 20, .int .i64 4, .float .f64 4602678819172646912] 50)) (all20C w.heap.size) 52
  have RC := (Row.new w #[.int .i64 4, .int .i64 8, .int .i64 2, .int .i64 4, .int .i64 16, .int .i64 8, .int .i64 3, .int .i64 20, .int .i64 4, .float .f64 4602678819172646912] 50).alloc (.cells (all20C w.heap.size) 52)
  have HB : Below w.heap.size w ((w.alloc (.cells #[.int .i64 4, .int .i64 8, .int .i64 2, .int .i64 4, .int .i64 16, .int .i64 8, .int .i64 3, .int .i64 20, .int .i64 4, .float .f64 4602678819172646912] 50)).alloc (.cells (all20C w.heap.size) 52)) := below_alloc (below_alloc (Below.refl _ _) _) _
  have hs : ((w.alloc (.cells #[.int .i64 4, .int .i64 8, .int .i64 2, .int .i64 4, .int .i64 16, .int .i64 8, .int .i64 3, .int .i64 20, .int .i64 4, .float .f64 4602678819172646912] 50)).alloc (.cells (all20C w.heap.size) 52)).heap.size = w.heap.size + 2 := by simp
  have hs1 : (w.alloc (.cells #[.int .i64 4, .int .i64 8, .int .i64 2, .int .i64 4, .int .i64 16, .int .i64 8, .int .i64 3, .int .i64 20, .int .i64 4, .float .f64 4602678819172646912] 50)).heap.size = w.heap.size + 1 := by simp
  rw [hs1] at RA
  unfold all20C at *
  generalize (w.alloc (.cells #[.int .i64 4, .int .i64 8, .int .i64 2, .int .i64 4, .int .i64 16, .int .i64 8, .int .i64 3, .int .i64 20, .int .i64 4, .float .f64 4602678819172646912] 50)).alloc (.cells #[.pointer (some ⟨w.heap.size, 0, none⟩), .int .i64 1, .int .i64 32, .pointer (some ⟨w.heap.size, 1, none⟩), .int .i64 8, .int .i64 64, .pointer (some ⟨w.heap.size, 2, none⟩), .int .i64 1, .int .i64 4, .pointer (some ⟨w.heap.size, 3, none⟩), .int .i64 3, .int .i64 8, .pointer (some ⟨w.heap.size, 4, none⟩), .int .i64 8, .int .i64 64, .pointer (some ⟨w.heap.size, 5, none⟩), .int .i64 3, .int .i64 32, .pointer (some ⟨w.heap.size, 6, none⟩), .int .i64 1, .int .i64 64, .pointer (some ⟨w.heap.size, 7, none⟩), .int .i64 1, .int .i64 500, .pointer (some ⟨w.heap.size, 8, none⟩), .int .i64 1, .int .i64 8] 52) = w2 at *
  have e0 := RA.cell 24 rfl
  have e1 := RA.cell 25 rfl
  have e2 := RA.cell 26 rfl
  clear hs1
  go_upto_region 4 with (fail)
  have RX := Row.new w2 #[.pointer (some ⟨w.heap.size, 8, none⟩), .int .i64 1, .int .i64 8] 52
  have RC3 := RC.alloc (.cells #[.pointer (some ⟨w.heap.size, 8, none⟩), .int .i64 1, .int .i64 8] 52)
  have HB3 : Below w.heap.size w (w2.alloc (.cells #[.pointer (some ⟨w.heap.size, 8, none⟩), .int .i64 1, .int .i64 8] 52)) := below_alloc HB _
  rw [hs] at RX
  generalize w2.alloc (.cells #[.pointer (some ⟨w.heap.size, 8, none⟩), .int .i64 1, .int .i64 8] 52) = w3 at *
  clear RA RC HB hs e0 e1 e2
  have f0 := RX.cell 0 rfl
  have f1 := RX.cell 1 rfl
  have f2 := RX.cell 2 rfl
  have g0 := RC3.cell 8 rfl
  have gz := RC3.free
  (refine wp_region_lin [(0, true), (1, true), (2, true), (3, true), (4, true), (5, true), (6, true)] rfl rfl (by kernel_rfl) (by kernel_rfl) (fun _ _ _ _ _ h => h) ?_; (iterate 7 (first | (apply lin_take; (simp only [List.getElem?_toArray, List.getElem?_cons_succ, List.getElem?_cons_zero]; rfl); (rfl); (intro w' hb'; (try have k_f0 := cell_keep hb' f0); (try have k_f1 := cell_keep hb' f1); (try have k_f2 := cell_keep hb' f2); (first | (go_simp; done) | (go_simp; with_reducible rfl) | (go_simp; go_bits; with_reducible rfl) | (go_simp; go_bits; done))); try simp only [Act.put, List.setIfInBounds_toArray, List.set_cons_zero, List.set_cons_succ]) | (apply lin_skip; (simp only [List.getElem?_toArray, List.getElem?_cons_succ, List.getElem?_cons_zero]; rfl); (rfl); try simp only [Act.put, List.setIfInBounds_toArray, List.set_cons_zero, List.set_cons_succ]) | (apply lin_pass; (simp only [List.getElem?_toArray, List.getElem?_cons_succ, List.getElem?_cons_zero]; rfl); (rfl); try simp only [Act.put, List.setIfInBounds_toArray, List.set_cons_zero, List.set_cons_succ]) | (apply lin_op; (simp only [List.getElem?_toArray, List.getElem?_cons_succ, List.getElem?_cons_zero]; rfl); (rfl); intro K hK; go_simp; (first | skip); refine hK _ _ ?_ ?_; (first | exact ⟨rfl, rfl, rfl, Nat.le_refl _, fun _ _ => rfl⟩ | assumption | exact below_alloc (Below.refl _ _) _ | exact below_drewN (by assumption) _); clear hK; try simp only [Act.put, List.setIfInBounds_toArray, List.set_cons_zero, List.set_cons_succ]))); refine lin_end ?_)
  go_upto_region 8 with (fail)
  have R4 : Row (w3.setCell ⟨w.heap.size, 8, none⟩ (.int .i64 1)).drew w.heap.size #[.int .i64 4, .int .i64 8, .int .i64 2, .int .i64 4, .int .i64 16, .int .i64 8, .int .i64 3, .int .i64 20, .int .i64 1, .float .f64 4602678819172646912] 50 := RC3.set 8 (.int .i64 1)
  have X4 : Row (w3.setCell ⟨w.heap.size, 8, none⟩ (.int .i64 1)).drew (w.heap.size + 2) #[.pointer (some ⟨w.heap.size, 8, none⟩), .int .i64 1, .int .i64 8] 52 := RX.set_other 8 (.int .i64 1) (by omega)
  have HB4 : Below w.heap.size w (w3.setCell ⟨w.heap.size, 8, none⟩ (.int .i64 1)).drew := below_drew (below_setB HB3 (Nat.le_refl _) _)
  generalize (w3.setCell ⟨w.heap.size, 8, none⟩ (.int .i64 1)).drew = w4 at *
  clear RX RC3 HB3 f0 f1 f2 g0 gz
  go_upto_region 9 with (first | (apply wpl_loadS (ty := 50); rfl; rfl; rfl; kernel_rfl; (first | assumption | exact Row.new _ _ _ | (apply Row.alloc; (first | assumption | exact Row.new _ _ _ | (apply Row.alloc; (first | assumption | exact Row.new _ _ _))))); kernel_rfl; simp only [Act.put, List.setIfInBounds_toArray, List.set_cons_zero, List.set_cons_succ]) | (go_at_call 36; (with_reducible refine (c_okI80 _).mono ?_); rintro e w5 ⟨rfl, hb5⟩))
  have R5 := R4.below hb5 R4.lt
  have X5 := X4.below hb5 X4.lt
  have HB5 := below_two HB4 hb5
  clear R4 X4 HB4 hb5
  have f0 := X5.cell 0 rfl
  have g0 := R5.cell 8 rfl
  have gz := R5.free
  go_upto_region 10 with (fail)
  have R6 : Row (w5.setCell ⟨w.heap.size, 8, none⟩ (.int .i64 (0))) w.heap.size #[.int .i64 4, .int .i64 8, .int .i64 2, .int .i64 4, .int .i64 16, .int .i64 8, .int .i64 3, .int .i64 20, .int .i64 0, .float .f64 4602678819172646912] 50 := R5.set 8 (.int .i64 (0))
  have HB6 : Below w.heap.size w (w5.setCell ⟨w.heap.size, 8, none⟩ (.int .i64 (0))) := below_setB HB5 (Nat.le_refl _) _
  generalize w5.setCell ⟨w.heap.size, 8, none⟩ (.int .i64 (0)) = w6 at *
  clear R5 X5 HB5 f0 g0 gz
  go_upto_region 11 with (first | (apply wpl_loadS (ty := 50); rfl; rfl; rfl; kernel_rfl; (first | assumption | exact Row.new _ _ _ | (apply Row.alloc; (first | assumption | exact Row.new _ _ _ | (apply Row.alloc; (first | assumption | exact Row.new _ _ _))))); kernel_rfl; simp only [Act.put, List.setIfInBounds_toArray, List.set_cons_zero, List.set_cons_succ]) | (go_at_call 37; (with_reducible refine (c_bdO80 _).mono ?_); rintro e w7 ⟨rfl, hb7⟩))
  have R8 := (R6.below hb7 R6.lt).alloc (.cells #[.int .i64 0, .int .i64 0, .int .i64 0, .int .i64 0, .int .i64 0, .int .i64 0, .int .i64 0, .int .i64 0, .int .i64 0, .int .i64 0, .int .i64 0, .int .i64 0, .int .i64 0] 56)
  have HB8 := below_alloc (below_two HB6 hb7) (.cells #[.int .i64 0, .int .i64 0, .int .i64 0, .int .i64 0, .int .i64 0, .int .i64 0, .int .i64 0, .int .i64 0, .int .i64 0, .int .i64 0, .int .i64 0, .int .i64 0, .int .i64 0] 56)
  generalize w7.alloc (.cells #[.int .i64 0, .int .i64 0, .int .i64 0, .int .i64 0, .int .i64 0, .int .i64 0, .int .i64 0, .int .i64 0, .int .i64 0, .int .i64 0, .int .i64 0, .int .i64 0, .int .i64 0] 56) = w8 at *
  clear R6 HB6 hb7
  go_wp2_with (first | (apply wpl_loadS (ty := 50); rfl; rfl; rfl; kernel_rfl; (first | assumption | exact Row.new _ _ _ | (apply Row.alloc; (first | assumption | exact Row.new _ _ _ | (apply Row.alloc; (first | assumption | exact Row.new _ _ _))))); kernel_rfl; simp only [Act.put, List.setIfInBounds_toArray, List.set_cons_zero, List.set_cons_succ]) | (go_at_call 36; (with_reducible refine (c_okO80 _).mono ?_); rintro e w9 ⟨rfl, hb9⟩) | (go_at_call 38; refine (c_awake20 _).mono ?_; rintro e w10 ⟨rfl, hb10⟩))
  go_ret
  exact ⟨rfl, below_two HB8 (below_two hb9 hb10)⟩

theorem part_e81 : PartIs 10 half 20 true := by
  refine ⟨?_⟩
  unfold PartIs0
  have h : (partOk 10 half = true ∧ enB (Int.toNat 10) half big = true) := by decide +kernel
  rw [if_pos h]
  decide +kernel
theorem c_okI81 (w : World) : Calls Try.prog 36 #[.agg #[.int .i64 4, .int .i64 8, .int .i64 2, .int .i64 4, .int .i64 16, .int .i64 8, .int .i64 3, .int .i64 20, .int .i64 8, .float .f64 4602678819172646912]] w fun e w' => e = .returned (.bool true) ∧ Below w.heap.size w w' :=
  (c_ok ⟨4, 8, 2, 4, 16, 8, 3, 20, 8, half⟩ w (by unfold W64; decide)).mono fun e w' ⟨he, hb⟩ => by
    have hn : (nodesF ⟨4, 8, 2, 4, 16, 8, 3, 20, 8, half⟩).1 = 10 := by decide +kernel
    rw [(bd_of (a := ⟨4, 8, 2, 4, 16, 8, 3, 20, 8, half⟩) (k := 20) (y := 32) (by decide +kernel) (by rw [hn]; exact part_e81) (by decide +kernel) (by decide)).1] at he
    exact ⟨he, hb⟩
theorem c_okO81 (w : World) : Calls Try.prog 36 #[.agg #[.int .i64 4, .int .i64 8, .int .i64 2, .int .i64 4, .int .i64 16, .int .i64 8, .int .i64 3, .int .i64 20, .int .i64 9, .float .f64 4602678819172646912]] w fun e w' => e = .returned (.bool false) ∧ Below w.heap.size w w' :=
  (c_ok ⟨4, 8, 2, 4, 16, 8, 3, 20, 9, half⟩ w (by unfold W64; decide)).mono fun e w' ⟨he, hb⟩ => by
    rw [(bd_nums (a := ⟨4, 8, 2, 4, 16, 8, 3, 20, 9, half⟩) (by decide +kernel)).1] at he
    exact ⟨he, hb⟩
theorem c_bdO81 (w : World) : Calls Try.prog 37 #[.agg #[.int .i64 4, .int .i64 8, .int .i64 2, .int .i64 4, .int .i64 16, .int .i64 8, .int .i64 3, .int .i64 20, .int .i64 9, .float .f64 4602678819172646912]] w fun e w' =>
    e = .returned (.tuple #[.agg #[.int .i64 0, .int .i64 0, .int .i64 0, .int .i64 0, .int .i64 0, .int .i64 0, .int .i64 0, .int .i64 0, .int .i64 0, .int .i64 0, .int .i64 0, .int .i64 0, .int .i64 0], .bool false]) ∧ Below w.heap.size w w' :=
  (c_bounds ⟨4, 8, 2, 4, 16, 8, 3, 20, 9, half⟩ w (by unfold W64; decide)).mono fun e w' ⟨he, hb⟩ => by
    obtain ⟨h1, h2⟩ := bd_nums (a := ⟨4, 8, 2, 4, 16, 8, 3, 20, 9, half⟩) (by decide +kernel)
    rw [h1, h2] at he
    exact ⟨he, hb⟩
set_option maxHeartbeats 4000000 in
theorem w_err81 (n : Int) (w : World) (nn : Nat) (hn : bits BinOp.and IntKind.i64 n 255 = (nn : Int)) (h1 : nn ≤ 255) (hp : (nn : Int) % 9 = 8) :
    Calls Try.prog 10 #[.int .i64 n, .bool true] w fun e w' => e = .returned (.bool true) ∧ Below w.heap.size w w' := by
  have hn0 : (0 : Int) ≤ (nn : Int) := by omega
  go_enter Try.func10, Try.ntmps10
  go_upto_region 3 with (apply wpl_storeN; rfl; rfl; rfl; (first | rfl | simp); rfl; kernel_rfl; rfl; (simp [Value.oneCell']); simp only [Act.put])
  have RA := Row.new (w.alloc (.cells #[.int .i64 4, .int .i64 8, .int .i64 2, .int .i64 4, .int .i64 16, .int .i64 8, .int .i64 3, .int .i64 20, .int .i64 4, .float .f64 4602678819172646912] 50)) (all20C w.heap.size) 52
  have RC := (Row.new w #[.int .i64 4, .int .i64 8, .int .i64 2, .int .i64 4, .int .i64 16, .int .i64 8, .int .i64 3, .int .i64 20, .int .i64 4, .float .f64 4602678819172646912] 50).alloc (.cells (all20C w.heap.size) 52)
  have HB : Below w.heap.size w ((w.alloc (.cells #[.int .i64 4, .int .i64 8, .int .i64 2, .int .i64 4, .int .i64 16, .int .i64 8, .int .i64 3, .int .i64 20, .int .i64 4, .float .f64 4602678819172646912] 50)).alloc (.cells (all20C w.heap.size) 52)) := below_alloc (below_alloc (Below.refl _ _) _) _
  have hs : ((w.alloc (.cells #[.int .i64 4, .int .i64 8, .int .i64 2, .int .i64 4, .int .i64 16, .int .i64 8, .int .i64 3, .int .i64 20, .int .i64 4, .float .f64 4602678819172646912] 50)).alloc (.cells (all20C w.heap.size) 52)).heap.size = w.heap.size + 2 := by simp
  have hs1 : (w.alloc (.cells #[.int .i64 4, .int .i64 8, .int .i64 2, .int .i64 4, .int .i64 16, .int .i64 8, .int .i64 3, .int .i64 20, .int .i64 4, .float .f64 4602678819172646912] 50)).heap.size = w.heap.size + 1 := by simp
  rw [hs1] at RA
  unfold all20C at *
  generalize (w.alloc (.cells #[.int .i64 4, .int .i64 8, .int .i64 2, .int .i64 4, .int .i64 16, .int .i64 8, .int .i64 3, .int .i64 20, .int .i64 4, .float .f64 4602678819172646912] 50)).alloc (.cells #[.pointer (some ⟨w.heap.size, 0, none⟩), .int .i64 1, .int .i64 32, .pointer (some ⟨w.heap.size, 1, none⟩), .int .i64 8, .int .i64 64, .pointer (some ⟨w.heap.size, 2, none⟩), .int .i64 1, .int .i64 4, .pointer (some ⟨w.heap.size, 3, none⟩), .int .i64 3, .int .i64 8, .pointer (some ⟨w.heap.size, 4, none⟩), .int .i64 8, .int .i64 64, .pointer (some ⟨w.heap.size, 5, none⟩), .int .i64 3, .int .i64 32, .pointer (some ⟨w.heap.size, 6, none⟩), .int .i64 1, .int .i64 64, .pointer (some ⟨w.heap.size, 7, none⟩), .int .i64 1, .int .i64 500, .pointer (some ⟨w.heap.size, 8, none⟩), .int .i64 1, .int .i64 8] 52) = w2 at *
  have e0 := RA.cell 24 rfl
  have e1 := RA.cell 25 rfl
  have e2 := RA.cell 26 rfl
  clear hs1
  go_upto_region 4 with (fail)
  have RX := Row.new w2 #[.pointer (some ⟨w.heap.size, 8, none⟩), .int .i64 1, .int .i64 8] 52
  have RC3 := RC.alloc (.cells #[.pointer (some ⟨w.heap.size, 8, none⟩), .int .i64 1, .int .i64 8] 52)
  have HB3 : Below w.heap.size w (w2.alloc (.cells #[.pointer (some ⟨w.heap.size, 8, none⟩), .int .i64 1, .int .i64 8] 52)) := below_alloc HB _
  rw [hs] at RX
  generalize w2.alloc (.cells #[.pointer (some ⟨w.heap.size, 8, none⟩), .int .i64 1, .int .i64 8] 52) = w3 at *
  clear RA RC HB hs e0 e1 e2
  have f0 := RX.cell 0 rfl
  have f1 := RX.cell 1 rfl
  have f2 := RX.cell 2 rfl
  have g0 := RC3.cell 8 rfl
  have gz := RC3.free
  (refine wp_region_lin [(0, true), (1, true), (2, true), (3, true), (4, true), (5, true), (6, true)] rfl rfl (by kernel_rfl) (by kernel_rfl) (fun _ _ _ _ _ h => h) ?_; (iterate 7 (first | (apply lin_take; (simp only [List.getElem?_toArray, List.getElem?_cons_succ, List.getElem?_cons_zero]; rfl); (rfl); (intro w' hb'; (try have k_f0 := cell_keep hb' f0); (try have k_f1 := cell_keep hb' f1); (try have k_f2 := cell_keep hb' f2); (first | (go_simp; done) | (go_simp; with_reducible rfl) | (go_simp; go_bits; with_reducible rfl) | (go_simp; go_bits; done))); try simp only [Act.put, List.setIfInBounds_toArray, List.set_cons_zero, List.set_cons_succ]) | (apply lin_skip; (simp only [List.getElem?_toArray, List.getElem?_cons_succ, List.getElem?_cons_zero]; rfl); (rfl); try simp only [Act.put, List.setIfInBounds_toArray, List.set_cons_zero, List.set_cons_succ]) | (apply lin_pass; (simp only [List.getElem?_toArray, List.getElem?_cons_succ, List.getElem?_cons_zero]; rfl); (rfl); try simp only [Act.put, List.setIfInBounds_toArray, List.set_cons_zero, List.set_cons_succ]) | (apply lin_op; (simp only [List.getElem?_toArray, List.getElem?_cons_succ, List.getElem?_cons_zero]; rfl); (rfl); intro K hK; go_simp; (first | skip); refine hK _ _ ?_ ?_; (first | exact ⟨rfl, rfl, rfl, Nat.le_refl _, fun _ _ => rfl⟩ | assumption | exact below_alloc (Below.refl _ _) _ | exact below_drewN (by assumption) _); clear hK; try simp only [Act.put, List.setIfInBounds_toArray, List.set_cons_zero, List.set_cons_succ]))); refine lin_end ?_)
  go_upto_region 6 with (fail)
  (refine wp_region_lin [(0, true), (1, true), (2, true), (3, true), (4, true), (5, true), (6, true)] rfl rfl (by kernel_rfl) (by kernel_rfl) (fun _ _ _ _ _ h => h) ?_; (iterate 7 (first | (apply lin_take; (simp only [List.getElem?_toArray, List.getElem?_cons_succ, List.getElem?_cons_zero]; rfl); (rfl); (intro w' hb'; (try have k_f0 := cell_keep hb' f0); (try have k_f1 := cell_keep hb' f1); (try have k_f2 := cell_keep hb' f2); (first | (go_simp; done) | (go_simp; with_reducible rfl) | (go_simp; go_bits; with_reducible rfl) | (go_simp; go_bits; done))); try simp only [Act.put, List.setIfInBounds_toArray, List.set_cons_zero, List.set_cons_succ]) | (apply lin_skip; (simp only [List.getElem?_toArray, List.getElem?_cons_succ, List.getElem?_cons_zero]; rfl); (rfl); try simp only [Act.put, List.setIfInBounds_toArray, List.set_cons_zero, List.set_cons_succ]) | (apply lin_pass; (simp only [List.getElem?_toArray, List.getElem?_cons_succ, List.getElem?_cons_zero]; rfl); (rfl); try simp only [Act.put, List.setIfInBounds_toArray, List.set_cons_zero, List.set_cons_succ]) | (apply lin_op; (simp only [List.getElem?_toArray, List.getElem?_cons_succ, List.getElem?_cons_zero]; rfl); (rfl); intro K hK; go_simp; (first | skip); refine hK _ _ ?_ ?_; (first | exact ⟨rfl, rfl, rfl, Nat.le_refl _, fun _ _ => rfl⟩ | assumption | exact below_alloc (Below.refl _ _) _ | exact below_drewN (by assumption) _); clear hK; try simp only [Act.put, List.setIfInBounds_toArray, List.set_cons_zero, List.set_cons_succ]))); refine lin_end ?_)
  go_upto_region 8 with (fail)
  have R4 : Row (w3.setCell ⟨w.heap.size, 8, none⟩ (.int .i64 8)).drew.drew w.heap.size #[.int .i64 4, .int .i64 8, .int .i64 2, .int .i64 4, .int .i64 16, .int .i64 8, .int .i64 3, .int .i64 20, .int .i64 8, .float .f64 4602678819172646912] 50 := RC3.set 8 (.int .i64 8)
  have X4 : Row (w3.setCell ⟨w.heap.size, 8, none⟩ (.int .i64 8)).drew.drew (w.heap.size + 2) #[.pointer (some ⟨w.heap.size, 8, none⟩), .int .i64 1, .int .i64 8] 52 := RX.set_other 8 (.int .i64 8) (by omega)
  have HB4 : Below w.heap.size w (w3.setCell ⟨w.heap.size, 8, none⟩ (.int .i64 8)).drew.drew := below_drew (below_drew (below_setB HB3 (Nat.le_refl _) _))
  generalize (w3.setCell ⟨w.heap.size, 8, none⟩ (.int .i64 8)).drew.drew = w4 at *
  clear RX RC3 HB3 f0 f1 f2 g0 gz
  go_upto_region 9 with (first | (apply wpl_loadS (ty := 50); rfl; rfl; rfl; kernel_rfl; (first | assumption | exact Row.new _ _ _ | (apply Row.alloc; (first | assumption | exact Row.new _ _ _ | (apply Row.alloc; (first | assumption | exact Row.new _ _ _))))); kernel_rfl; simp only [Act.put, List.setIfInBounds_toArray, List.set_cons_zero, List.set_cons_succ]) | (go_at_call 36; (with_reducible refine (c_okI81 _).mono ?_); rintro e w5 ⟨rfl, hb5⟩))
  have R5 := R4.below hb5 R4.lt
  have X5 := X4.below hb5 X4.lt
  have HB5 := below_two HB4 hb5
  clear R4 X4 HB4 hb5
  have f0 := X5.cell 0 rfl
  have g0 := R5.cell 8 rfl
  have gz := R5.free
  go_upto_region 10 with (fail)
  have R6 : Row (w5.setCell ⟨w.heap.size, 8, none⟩ (.int .i64 (9))) w.heap.size #[.int .i64 4, .int .i64 8, .int .i64 2, .int .i64 4, .int .i64 16, .int .i64 8, .int .i64 3, .int .i64 20, .int .i64 9, .float .f64 4602678819172646912] 50 := R5.set 8 (.int .i64 (9))
  have HB6 : Below w.heap.size w (w5.setCell ⟨w.heap.size, 8, none⟩ (.int .i64 (9))) := below_setB HB5 (Nat.le_refl _) _
  generalize w5.setCell ⟨w.heap.size, 8, none⟩ (.int .i64 (9)) = w6 at *
  clear R5 X5 HB5 f0 g0 gz
  go_upto_region 11 with (first | (apply wpl_loadS (ty := 50); rfl; rfl; rfl; kernel_rfl; (first | assumption | exact Row.new _ _ _ | (apply Row.alloc; (first | assumption | exact Row.new _ _ _ | (apply Row.alloc; (first | assumption | exact Row.new _ _ _))))); kernel_rfl; simp only [Act.put, List.setIfInBounds_toArray, List.set_cons_zero, List.set_cons_succ]) | (go_at_call 37; (with_reducible refine (c_bdO81 _).mono ?_); rintro e w7 ⟨rfl, hb7⟩))
  have R8 := (R6.below hb7 R6.lt).alloc (.cells #[.int .i64 0, .int .i64 0, .int .i64 0, .int .i64 0, .int .i64 0, .int .i64 0, .int .i64 0, .int .i64 0, .int .i64 0, .int .i64 0, .int .i64 0, .int .i64 0, .int .i64 0] 56)
  have HB8 := below_alloc (below_two HB6 hb7) (.cells #[.int .i64 0, .int .i64 0, .int .i64 0, .int .i64 0, .int .i64 0, .int .i64 0, .int .i64 0, .int .i64 0, .int .i64 0, .int .i64 0, .int .i64 0, .int .i64 0, .int .i64 0] 56)
  generalize w7.alloc (.cells #[.int .i64 0, .int .i64 0, .int .i64 0, .int .i64 0, .int .i64 0, .int .i64 0, .int .i64 0, .int .i64 0, .int .i64 0, .int .i64 0, .int .i64 0, .int .i64 0, .int .i64 0] 56) = w8 at *
  clear R6 HB6 hb7
  go_wp2_with (first | (apply wpl_loadS (ty := 50); rfl; rfl; rfl; kernel_rfl; (first | assumption | exact Row.new _ _ _ | (apply Row.alloc; (first | assumption | exact Row.new _ _ _ | (apply Row.alloc; (first | assumption | exact Row.new _ _ _))))); kernel_rfl; simp only [Act.put, List.setIfInBounds_toArray, List.set_cons_zero, List.set_cons_succ]) | (go_at_call 36; (with_reducible refine (c_okO81 _).mono ?_); rintro e w9 ⟨rfl, hb9⟩) | (go_at_call 38; refine (c_awake20 _).mono ?_; rintro e w10 ⟨rfl, hb10⟩))
  go_ret
  exact ⟨rfl, below_two HB8 (below_two hb9 hb10)⟩
end Go.Proofs.Ytldeohbfhigagaa
