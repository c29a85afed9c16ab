/- The walk of ConfErrors: a theorem for each row of the table. -/
import Derived.Test.YtldeohbfhigagaaAwk20
import Derived.Test.YtldeohbfhigagaaMask
set_option linter.unusedVariables false
set_option linter.unusedSimpArgs false
namespace Go.Proofs.Ytldeohbfhigagaa
open Go.RowKit Flo

def all20A (b : Nat) : Array Value := #[.pointer (some ⟨b, 0, none⟩), .int .i64 1, .int .i64 32, .pointer (some ⟨b, 1, none⟩), .int .i64 8, .int .i64 64, .pointer (some ⟨b, 2, none⟩), .int .i64 1, .int .i64 4, .pointer (some ⟨b, 3, none⟩), .int .i64 3, .int .i64 8, .pointer (some ⟨b, 4, none⟩), .int .i64 8, .int .i64 64, .pointer (some ⟨b, 5, none⟩), .int .i64 3, .int .i64 32, .pointer (some ⟨b, 6, none⟩), .int .i64 1, .int .i64 64, .pointer (some ⟨b, 7, none⟩), .int .i64 1, .int .i64 500, .pointer (some ⟨b, 8, none⟩), .int .i64 1, .int .i64 8] 

theorem part_e00 : PartIs 10 half 20 true := by
  refine ⟨?_⟩
  unfold PartIs0
  have h : (partOk 10 half = true ∧ enB (Int.toNat 10) half big = true) := by decide +kernel
  rw [if_pos h]
  decide +kernel
theorem c_okI00 (w : World) : Calls Try.prog 36 #[.agg #[.int .i64 1, .int .i64 8, .int .i64 2, .int .i64 4, .int .i64 16, .int .i64 8, .int .i64 3, .int .i64 20, .int .i64 4, .float .f64 4602678819172646912]] w fun e w' => e = .returned (.bool true) ∧ Below w.heap.size w w' :=
  (c_ok ⟨1, 8, 2, 4, 16, 8, 3, 20, 4, half⟩ w (by unfold W64; decide)).mono fun e w' ⟨he, hb⟩ => by
    have hn : (nodesF ⟨1, 8, 2, 4, 16, 8, 3, 20, 4, half⟩).1 = 10 := by decide +kernel
    rw [(bd_of (a := ⟨1, 8, 2, 4, 16, 8, 3, 20, 4, half⟩) (k := 20) (y := 32) (by decide +kernel) (by rw [hn]; exact part_e00) (by decide +kernel) (by decide)).1] at he
    exact ⟨he, hb⟩
theorem c_okO00 (w : World) : Calls Try.prog 36 #[.agg #[.int .i64 0, .int .i64 8, .int .i64 2, .int .i64 4, .int .i64 16, .int .i64 8, .int .i64 3, .int .i64 20, .int .i64 4, .float .f64 4602678819172646912]] w fun e w' => e = .returned (.bool false) ∧ Below w.heap.size w w' :=
  (c_ok ⟨0, 8, 2, 4, 16, 8, 3, 20, 4, half⟩ w (by unfold W64; decide)).mono fun e w' ⟨he, hb⟩ => by
    rw [(bd_nums (a := ⟨0, 8, 2, 4, 16, 8, 3, 20, 4, half⟩) (by decide +kernel)).1] at he
    exact ⟨he, hb⟩
theorem c_bdO00 (w : World) : Calls Try.prog 37 #[.agg #[.int .i64 0, .int .i64 8, .int .i64 2, .int .i64 4, .int .i64 16, .int .i64 8, .int .i64 3, .int .i64 20, .int .i64 4, .float .f64 4602678819172646912]] w fun e w' =>
    e = .returned (.tuple #[.agg #[.int .i64 0, .int .i64 0, .int .i64 0, .int .i64 0, .int .i64 0, .int .i64 0, .int .i64 0, .int .i64 0, .int .i64 0, .int .i64 0, .int .i64 0, .int .i64 0, .int .i64 0], .bool false]) ∧ Below w.heap.size w w' :=
  (c_bounds ⟨0, 8, 2, 4, 16, 8, 3, 20, 4, half⟩ w (by unfold W64; decide)).mono fun e w' ⟨he, hb⟩ => by
    obtain ⟨h1, h2⟩ := bd_nums (a := ⟨0, 8, 2, 4, 16, 8, 3, 20, 4, half⟩) (by decide +kernel)
    rw [h1, h2] at he
    exact ⟨he, hb⟩
set_option maxHeartbeats 4000000 in
theorem w_err00 (n : Int) (w : World) (nn : Nat) (hn : bits BinOp.and IntKind.i64 n 255 = (nn : Int)) (h1 : nn ≤ 255) (hp : (nn : Int) % 9 = 0) :
    Calls Try.prog 10 #[.int .i64 n, .bool false] w fun e w' => e = .returned (.bool true) ∧ Below w.heap.size w w' := by
  have hn0 : (0 : Int) ≤ (nn : Int) := by omega
  go_enter Try.func10, Try.ntmps10
  go_upto_region 3 with (apply wpl_storeN; rfl; rfl; rfl; (first | rfl | simp); rfl; kernel_rfl; rfl; (simp [Value.oneCell']); simp only [Act.put])
  have RA := Row.new (w.alloc (.cells #[.int .i64 4, .int .i64 8, .int .i64 2, .int .i64 4, .int .i64 16, .int .i64 8, .int .i64 3, .int .i64 20, .int .i64 4, .float .f64 4602678819172646912] 50)) (all20A w.heap.size) 52
  have RC := (Row.new w #[.int .i64 4, .int .i64 8, .int .i64 2, .int .i64 4, .int .i64 16, .int .i64 8, .int .i64 3, .int .i64 20, .int .i64 4, .float .f64 4602678819172646912] 50).alloc (.cells (all20A w.heap.size) 52)
  have HB : Below w.heap.size w ((w.alloc (.cells #[.int .i64 4, .int .i64 8, .int .i64 2, .int .i64 4, .int .i64 16, .int .i64 8, .int .i64 3, .int .i64 20, .int .i64 4, .float .f64 4602678819172646912] 50)).alloc (.cells (all20A w.heap.size) 52)) := below_alloc (below_alloc (Below.refl _ _) _) _
  have hs : ((w.alloc (.cells #[.int .i64 4, .int .i64 8, .int .i64 2, .int .i64 4, .int .i64 16, .int .i64 8, .int .i64 3, .int .i64 20, .int .i64 4, .float .f64 4602678819172646912] 50)).alloc (.cells (all20A w.heap.size) 52)).heap.size = w.heap.size + 2 := by simp
  have hs1 : (w.alloc (.cells #[.int .i64 4, .int .i64 8, .int .i64 2, .int .i64 4, .int .i64 16, .int .i64 8, .int .i64 3, .int .i64 20, .int .i64 4, .float .f64 4602678819172646912] 50)).heap.size = w.heap.size + 1 := by simp
  rw [hs1] at RA
  unfold all20A at *
  generalize (w.alloc (.cells #[.int .i64 4, .int .i64 8, .int .i64 2, .int .i64 4, .int .i64 16, .int .i64 8, .int .i64 3, .int .i64 20, .int .i64 4, .float .f64 4602678819172646912] 50)).alloc (.cells #[.pointer (some ⟨w.heap.size, 0, none⟩), .int .i64 1, .int .i64 32, .pointer (some ⟨w.heap.size, 1, none⟩), .int .i64 8, .int .i64 64, .pointer (some ⟨w.heap.size, 2, none⟩), .int .i64 1, .int .i64 4, .pointer (some ⟨w.heap.size, 3, none⟩), .int .i64 3, .int .i64 8, .pointer (some ⟨w.heap.size, 4, none⟩), .int .i64 8, .int .i64 64, .pointer (some ⟨w.heap.size, 5, none⟩), .int .i64 3, .int .i64 32, .pointer (some ⟨w.heap.size, 6, none⟩), .int .i64 1, .int .i64 64, .pointer (some ⟨w.heap.size, 7, none⟩), .int .i64 1, .int .i64 500, .pointer (some ⟨w.heap.size, 8, none⟩), .int .i64 1, .int .i64 8] 52) = w2 at *
  have e0 := RA.cell 0 rfl
  have e1 := RA.cell 1 rfl
  have e2 := RA.cell 2 rfl
  clear hs1
  go_upto_region 4 with (fail)
  have RX := Row.new w2 #[.pointer (some ⟨w.heap.size, 0, none⟩), .int .i64 1, .int .i64 32] 52
  have RC3 := RC.alloc (.cells #[.pointer (some ⟨w.heap.size, 0, none⟩), .int .i64 1, .int .i64 32] 52)
  have HB3 : Below w.heap.size w (w2.alloc (.cells #[.pointer (some ⟨w.heap.size, 0, none⟩), .int .i64 1, .int .i64 32] 52)) := below_alloc HB _
  rw [hs] at RX
  generalize w2.alloc (.cells #[.pointer (some ⟨w.heap.size, 0, none⟩), .int .i64 1, .int .i64 32] 52) = w3 at *
  clear RA RC HB hs e0 e1 e2
  have f0 := RX.cell 0 rfl
  have f1 := RX.cell 1 rfl
  have f2 := RX.cell 2 rfl
  have g0 := RC3.cell 0 rfl
  have gz := RC3.free
  (refine wp_region_lin [(0, true), (1, true), (2, true), (3, true), (4, true), (5, true), (6, true)] rfl rfl (by kernel_rfl) (by kernel_rfl) (fun _ _ _ _ _ h => h) ?_; (iterate 7 (first | (apply lin_take; (simp only [List.getElem?_toArray, List.getElem?_cons_succ, List.getElem?_cons_zero]; rfl); (rfl); (intro w' hb'; (try have k_f0 := cell_keep hb' f0); (try have k_f1 := cell_keep hb' f1); (try have k_f2 := cell_keep hb' f2); (first | (go_simp; done) | (go_simp; with_reducible rfl) | (go_simp; go_bits; with_reducible rfl) | (go_simp; go_bits; done))); try simp only [Act.put, List.setIfInBounds_toArray, List.set_cons_zero, List.set_cons_succ]) | (apply lin_skip; (simp only [List.getElem?_toArray, List.getElem?_cons_succ, List.getElem?_cons_zero]; rfl); (rfl); try simp only [Act.put, List.setIfInBounds_toArray, List.set_cons_zero, List.set_cons_succ]) | (apply lin_pass; (simp only [List.getElem?_toArray, List.getElem?_cons_succ, List.getElem?_cons_zero]; rfl); (rfl); try simp only [Act.put, List.setIfInBounds_toArray, List.set_cons_zero, List.set_cons_succ]) | (apply lin_op; (simp only [List.getElem?_toArray, List.getElem?_cons_succ, List.getElem?_cons_zero]; rfl); (rfl); intro K hK; go_simp; (first | skip); refine hK _ _ ?_ ?_; (first | exact ⟨rfl, rfl, rfl, Nat.le_refl _, fun _ _ => rfl⟩ | assumption | exact below_alloc (Below.refl _ _) _ | exact below_drewN (by assumption) _); clear hK; try simp only [Act.put, List.setIfInBounds_toArray, List.set_cons_zero, List.set_cons_succ]))); refine lin_end ?_)
  go_upto_region 8 with (fail)
  have R4 : Row (w3.setCell ⟨w.heap.size, 0, none⟩ (.int .i64 1)).drew w.heap.size #[.int .i64 1, .int .i64 8, .int .i64 2, .int .i64 4, .int .i64 16, .int .i64 8, .int .i64 3, .int .i64 20, .int .i64 4, .float .f64 4602678819172646912] 50 := RC3.set 0 (.int .i64 1)
  have X4 : Row (w3.setCell ⟨w.heap.size, 0, none⟩ (.int .i64 1)).drew (w.heap.size + 2) #[.pointer (some ⟨w.heap.size, 0, none⟩), .int .i64 1, .int .i64 32] 52 := RX.set_other 0 (.int .i64 1) (by omega)
  have HB4 : Below w.heap.size w (w3.setCell ⟨w.heap.size, 0, none⟩ (.int .i64 1)).drew := below_drew (below_setB HB3 (Nat.le_refl _) _)
  generalize (w3.setCell ⟨w.heap.size, 0, none⟩ (.int .i64 1)).drew = w4 at *
  clear RX RC3 HB3 f0 f1 f2 g0 gz
  go_upto_region 9 with (first | (apply wpl_loadS (ty := 50); rfl; rfl; rfl; kernel_rfl; (first | assumption | exact Row.new _ _ _ | (apply Row.alloc; (first | assumption | exact Row.new _ _ _ | (apply Row.alloc; (first | assumption | exact Row.new _ _ _))))); kernel_rfl; simp only [Act.put, List.setIfInBounds_toArray, List.set_cons_zero, List.set_cons_succ]) | (go_at_call 36; (with_reducible refine (c_okI00 _).mono ?_); rintro e w5 ⟨rfl, hb5⟩))
  have R5 := R4.below hb5 R4.lt
  have X5 := X4.below hb5 X4.lt
  have HB5 := below_two HB4 hb5
  clear R4 X4 HB4 hb5
  have f0 := X5.cell 0 rfl
  have g0 := R5.cell 0 rfl
  have gz := R5.free
  go_upto_region 10 with (fail)
  have R6 : Row (w5.setCell ⟨w.heap.size, 0, none⟩ (.int .i64 (0))) w.heap.size #[.int .i64 0, .int .i64 8, .int .i64 2, .int .i64 4, .int .i64 16, .int .i64 8, .int .i64 3, .int .i64 20, .int .i64 4, .float .f64 4602678819172646912] 50 := R5.set 0 (.int .i64 (0))
  have HB6 : Below w.heap.size w (w5.setCell ⟨w.heap.size, 0, none⟩ (.int .i64 (0))) := below_setB HB5 (Nat.le_refl _) _
  generalize w5.setCell ⟨w.heap.size, 0, none⟩ (.int .i64 (0)) = w6 at *
  clear R5 X5 HB5 f0 g0 gz
  go_upto_region 11 with (first | (apply wpl_loadS (ty := 50); rfl; rfl; rfl; kernel_rfl; (first | assumption | exact Row.new _ _ _ | (apply Row.alloc; (first | assumption | exact Row.new _ _ _ | (apply Row.alloc; (first | assumption | exact Row.new _ _ _))))); kernel_rfl; simp only [Act.put, List.setIfInBounds_toArray, List.set_cons_zero, List.set_cons_succ]) | (go_at_call 37; (with_reducible refine (c_bdO00 _).mono ?_); rintro e w7 ⟨rfl, hb7⟩))
  have R8 := (R6.below hb7 R6.lt).alloc (.cells #[.int .i64 0, .int .i64 0, .int .i64 0, .int .i64 0, .int .i64 0, .int .i64 0, .int .i64 0, .int .i64 0, .int .i64 0, .int .i64 0, .int .i64 0, .int .i64 0, .int .i64 0] 56)
  have HB8 := below_alloc (below_two HB6 hb7) (.cells #[.int .i64 0, .int .i64 0, .int .i64 0, .int .i64 0, .int .i64 0, .int .i64 0, .int .i64 0, .int .i64 0, .int .i64 0, .int .i64 0, .int .i64 0, .int .i64 0, .int .i64 0] 56)
  generalize w7.alloc (.cells #[.int .i64 0, .int .i64 0, .int .i64 0, .int .i64 0, .int .i64 0, .int .i64 0, .int .i64 0, .int .i64 0, .int .i64 0, .int .i64 0, .int .i64 0, .int .i64 0, .int .i64 0] 56) = w8 at *
  clear R6 HB6 hb7
  go_wp2_with (first | (apply wpl_loadS (ty := 50); rfl; rfl; rfl; kernel_rfl; (first | assumption | exact Row.new _ _ _ | (apply Row.alloc; (first | assumption | exact Row.new _ _ _ | (apply Row.alloc; (first | assumption | exact Row.new _ _ _))))); kernel_rfl; simp only [Act.put, List.setIfInBounds_toArray, List.set_cons_zero, List.set_cons_succ]) | (go_at_call 36; (with_reducible refine (c_okO00 _).mono ?_); rintro e w9 ⟨rfl, hb9⟩) | (go_at_call 38; refine (c_awake20 _).mono ?_; rintro e w10 ⟨rfl, hb10⟩))
  go_ret
  exact ⟨rfl, below_two HB8 (below_two hb9 hb10)⟩

theorem part_e01 : PartIs 10 half 20 true := by
  refine ⟨?_⟩
  unfold PartIs0
  have h : (partOk 10 half = true ∧ enB (Int.toNat 10) half big = true) := by decide +kernel
  rw [if_pos h]
  decide +kernel
theorem c_okI01 (w : World) : Calls Try.prog 36 #[.agg #[.int .i64 32, .int .i64 8, .int .i64 2, .int .i64 4, .int .i64 16, .int .i64 8, .int .i64 3, .int .i64 20, .int .i64 4, .float .f64 4602678819172646912]] w fun e w' => e = .returned (.bool true) ∧ Below w.heap.size w w' :=
  (c_ok ⟨32, 8, 2, 4, 16, 8, 3, 20, 4, half⟩ w (by unfold W64; decide)).mono fun e w' ⟨he, hb⟩ => by
    have hn : (nodesF ⟨32, 8, 2, 4, 16, 8, 3, 20, 4, half⟩).1 = 10 := by decide +kernel
    rw [(bd_of (a := ⟨32, 8, 2, 4, 16, 8, 3, 20, 4, half⟩) (k := 20) (y := 32) (by decide +kernel) (by rw [hn]; exact part_e01) (by decide +kernel) (by decide)).1] at he
    exact ⟨he, hb⟩
theorem c_okO01 (w : World) : Calls Try.prog 36 #[.agg #[.int .i64 33, .int .i64 8, .int .i64 2, .int .i64 4, .int .i64 16, .int .i64 8, .int .i64 3, .int .i64 20, .int .i64 4, .float .f64 4602678819172646912]] w fun e w' => e = .returned (.bool false) ∧ Below w.heap.size w w' :=
  (c_ok ⟨33, 8, 2, 4, 16, 8, 3, 20, 4, half⟩ w (by unfold W64; decide)).mono fun e w' ⟨he, hb⟩ => by
    rw [(bd_nums (a := ⟨33, 8, 2, 4, 16, 8, 3, 20, 4, half⟩) (by decide +kernel)).1] at he
    exact ⟨he, hb⟩
theorem c_bdO01 (w : World) : Calls Try.prog 37 #[.agg #[.int .i64 33, .int .i64 8, .int .i64 2, .int .i64 4, .int .i64 16, .int .i64 8, .int .i64 3, .int .i64 20, .int .i64 4, .float .f64 4602678819172646912]] w fun e w' =>
    e = .returned (.tuple #[.agg #[.int .i64 0, .int .i64 0, .int .i64 0, .int .i64 0, .int .i64 0, .int .i64 0, .int .i64 0, .int .i64 0, .int .i64 0, .int .i64 0, .int .i64 0, .int .i64 0, .int .i64 0], .bool false]) ∧ Below w.heap.size w w' :=
  (c_bounds ⟨33, 8, 2, 4, 16, 8, 3, 20, 4, half⟩ w (by unfold W64; decide)).mono fun e w' ⟨he, hb⟩ => by
    obtain ⟨h1, h2⟩ := bd_nums (a := ⟨33, 8, 2, 4, 16, 8, 3, 20, 4, half⟩) (by decide +kernel)
    rw [h1, h2] at he
    exact ⟨he, hb⟩
set_option maxHeartbeats 4000000 in
theorem w_err01 (n : Int) (w : World) (nn : Nat) (hn : bits BinOp.and IntKind.i64 n 255 = (nn : Int)) (h1 : nn ≤ 255) (hp : (nn : Int) % 9 = 0) :
    Calls Try.prog 10 #[.int .i64 n, .bool true] w fun e w' => e = .returned (.bool true) ∧ Below w.heap.size w w' := by
  have hn0 : (0 : Int) ≤ (nn : Int) := by omega
  go_enter Try.func10, Try.ntmps10
  go_upto_region 3 with (apply wpl_storeN; rfl; rfl; rfl; (first | rfl | simp); rfl; kernel_rfl; rfl; (simp [Value.oneCell']); simp only [Act.put])
  have RA := Row.new (w.alloc (.cells #[.int .i64 4, .int .i64 8, .int .i64 2, .int .i64 4, .int .i64 16, .int .i64 8, .int .i64 3, .int .i64 20, .int .i64 4, .float .f64 4602678819172646912] 50)) (all20A w.heap.size) 52
  have RC := (Row.new w #[.int .i64 4, .int .i64 8, .int .i64 2, .int .i64 4, .int .i64 16, .int .i64 8, .int .i64 3, .int .i64 20, .int .i64 4, .float .f64 4602678819172646912] 50).alloc (.cells (all20A w.heap.size) 52)
  have HB : Below w.heap.size w ((w.alloc (.cells #[.int .i64 4, .int .i64 8, .int .i64 2, .int .i64 4, .int .i64 16, .int .i64 8, .int .i64 3, .int .i64 20, .int .i64 4, .float .f64 4602678819172646912] 50)).alloc (.cells (all20A w.heap.size) 52)) := below_alloc (below_alloc (Below.refl _ _) _) _
  have hs : ((w.alloc (.cells #[.int .i64 4, .int .i64 8, .int .i64 2, .int .i64 4, .int .i64 16, .int .i64 8, .int .i64 3, .int .i64 20, .int .i64 4, .float .f64 4602678819172646912] 50)).alloc (.cells (all20A w.heap.size) 52)).heap.size = w.heap.size + 2 := by simp
  have hs1 : (w.alloc (.cells #[.int .i64 4, .int .i64 8, .int .i64 2, .int .i64 4, .int .i64 16, .int .i64 8, .int .i64 3, .int .i64 20, .int .i64 4, .float .f64 4602678819172646912] 50)).heap.size = w.heap.size + 1 := by simp
  rw [hs1] at RA
  unfold all20A at *
  generalize (w.alloc (.cells #[.int .i64 4, .int .i64 8, .int .i64 2, .int .i64 4, .int .i64 16, .int .i64 8, .int .i64 3, .int .i64 20, .int .i64 4, .float .f64 4602678819172646912] 50)).alloc (.cells #[.pointer (some ⟨w.heap.size, 0, none⟩), .int .i64 1, .int .i64 32, .pointer (some ⟨w.heap.size, 1, none⟩), .int .i64 8, .int .i64 64, .pointer (some ⟨w.heap.size, 2, none⟩), .int .i64 1, .int .i64 4, .pointer (some ⟨w.heap.size, 3, none⟩), .int .i64 3, .int .i64 8, .pointer (some ⟨w.heap.size, 4, none⟩), .int .i64 8, .int .i64 64, .pointer (some ⟨w.heap.size, 5, none⟩), .int .i64 3, .int .i64 32, .pointer (some ⟨w.heap.size, 6, none⟩), .int .i64 1, .int .i64 64, .pointer (some ⟨w.heap.size, 7, none⟩), .int .i64 1, .int .i64 500, .pointer (some ⟨w.heap.size, 8, none⟩), .int .i64 1, .int .i64 8] 52) = w2 at *
  have e0 := RA.cell 0 rfl
  have e1 := RA.cell 1 rfl
  have e2 := RA.cell 2 rfl
  clear hs1
  go_upto_region 4 with (fail)
  have RX := Row.new w2 #[.pointer (some ⟨w.heap.size, 0, none⟩), .int .i64 1, .int .i64 32] 52
  have RC3 := RC.alloc (.cells #[.pointer (some ⟨w.heap.size, 0, none⟩), .int .i64 1, .int .i64 32] 52)
  have HB3 : Below w.heap.size w (w2.alloc (.cells #[.pointer (some ⟨w.heap.size, 0, none⟩), .int .i64 1, .int .i64 32] 52)) := below_alloc HB _
  rw [hs] at RX
  generalize w2.alloc (.cells #[.pointer (some ⟨w.heap.size, 0, none⟩), .int .i64 1, .int .i64 32] 52) = w3 at *
  clear RA RC HB hs e0 e1 e2
  have f0 := RX.cell 0 rfl
  have f1 := RX.cell 1 rfl
  have f2 := RX.cell 2 rfl
  have g0 := RC3.cell 0 rfl
  have gz := RC3.free
  (refine wp_region_lin [(0, true), (1, true), (2, true), (3, true), (4, true), (5, true), (6, true)] rfl rfl (by kernel_rfl) (by kernel_rfl) (fun _ _ _ _ _ h => h) ?_; (iterate 7 (first | (apply lin_take; (simp only [List.getElem?_toArray, List.getElem?_cons_succ, List.getElem?_cons_zero]; rfl); (rfl); (intro w' hb'; (try have k_f0 := cell_keep hb' f0); (try have k_f1 := cell_keep hb' f1); (try have k_f2 := cell_keep hb' f2); (first | (go_simp; done) | (go_simp; with_reducible rfl) | (go_simp; go_bits; with_reducible rfl) | (go_simp; go_bits; done))); try simp only [Act.put, List.setIfInBounds_toArray, List.set_cons_zero, List.set_cons_succ]) | (apply lin_skip; (simp only [List.getElem?_toArray, List.getElem?_cons_succ, List.getElem?_cons_zero]; rfl); (rfl); try simp only [Act.put, List.setIfInBounds_toArray, List.set_cons_zero, List.set_cons_succ]) | (apply lin_pass; (simp only [List.getElem?_toArray, List.getElem?_cons_succ, List.getElem?_cons_zero]; rfl); (rfl); try simp only [Act.put, List.setIfInBounds_toArray, List.set_cons_zero, List.set_cons_succ]) | (apply lin_op; (simp only [List.getElem?_toArray, List.getElem?_cons_succ, List.getElem?_cons_zero]; rfl); (rfl); intro K hK; go_simp; (first | skip); refine hK _ _ ?_ ?_; (first | exact ⟨rfl, rfl, rfl, Nat.le_refl _, fun _ _ => rfl⟩ | assumption | exact below_alloc (Below.refl _ _) _ | exact below_drewN (by assumption) _); clear hK; try simp only [Act.put, List.setIfInBounds_toArray, List.set_cons_zero, List.set_cons_succ]))); refine lin_end ?_)
  go_upto_region 6 with (fail)
  (refine wp_region_lin [(0, true), (1, true), (2, true), (3, true), (4, true), (5, true), (6, true)] rfl rfl (by kernel_rfl) (by kernel_rfl) (fun _ _ _ _ _ h => h) ?_; (iterate 7 (first | (apply lin_take; (simp only [List.getElem?_toArray, List.getElem?_cons_succ, List.getElem?_cons_zero]; rfl); (rfl); (intro w' hb'; (try have k_f0 := cell_keep hb' f0); (try have k_f1 := cell_keep hb' f1); (try have k_f2 := cell_keep hb' f2); (first | (go_simp; done) | (go_simp; with_reducible rfl) | (go_simp; go_bits; with_reducible rfl) | (go_simp; go_bits; done))); try simp only [Act.put, List.setIfInBounds_toArray, List.set_cons_zero, List.set_cons_succ]) | (apply lin_skip; (simp only [List.getElem?_toArray, List.getElem?_cons_succ, List.getElem?_cons_zero]; rfl); (rfl); try simp only [Act.put, List.setIfInBounds_toArray, List.set_cons_zero, List.set_cons_succ]) | (apply lin_pass; (simp only [List.getElem?_toArray, List.getElem?_cons_succ, List.getElem?_cons_zero]; rfl); (rfl); try simp only [Act.put, List.setIfInBounds_toArray, List.set_cons_zero, List.set_cons_succ]) | (apply lin_op; (simp only [List.getElem?_toArray, List.getElem?_cons_succ, List.getElem?_cons_zero]; rfl); (rfl); intro K hK; go_simp; (first | skip); refine hK _ _ ?_ ?_; (first | exact ⟨rfl, rfl, rfl, Nat.le_refl _, fun _ _ => rfl⟩ | assumption | exact below_alloc (Below.refl _ _) _ | exact below_drewN (by assumption) _); clear hK; try simp only [Act.put, List.setIfInBounds_toArray, List.set_cons_zero, List.set_cons_succ]))); refine lin_end ?_)
  go_upto_region 8 with (fail)
  have R4 : Row (w3.setCell ⟨w.heap.size, 0, none⟩ (.int .i64 32)).drew.drew w.heap.size #[.int .i64 32, .int .i64 8, .int .i64 2, .int .i64 4, .int .i64 16, .int .i64 8, .int .i64 3, .int .i64 20, .int .i64 4, .float .f64 4602678819172646912] 50 := RC3.set 0 (.int .i64 32)
  have X4 : Row (w3.setCell ⟨w.heap.size, 0, none⟩ (.int .i64 32)).drew.drew (w.heap.size + 2) #[.pointer (some ⟨w.heap.size, 0, none⟩), .int .i64 1, .int .i64 32] 52 := RX.set_other 0 (.int .i64 32) (by omega)
  have HB4 : Below w.heap.size w (w3.setCell ⟨w.heap.size, 0, none⟩ (.int .i64 32)).drew.drew := below_drew (below_drew (below_setB HB3 (Nat.le_refl _) _))
  generalize (w3.setCell ⟨w.heap.size, 0, none⟩ (.int .i64 32)).drew.drew = w4 at *
  clear RX RC3 HB3 f0 f1 f2 g0 gz
  go_upto_region 9 with (first | (apply wpl_loadS (ty := 50); rfl; rfl; rfl; kernel_rfl; (first | assumption | exact Row.new _ _ _ | (apply Row.alloc; (first | assumption | exact Row.new _ _ _ | (apply Row.alloc; (first | assumption | exact Row.new _ _ _))))); kernel_rfl; simp only [Act.put, List.setIfInBounds_toArray, List.set_cons_zero, List.set_cons_succ]) | (go_at_call 36; (with_reducible refine (c_okI01 _).mono ?_); rintro e w5 ⟨rfl, hb5⟩))
  have R5 := R4.below hb5 R4.lt
  have X5 := X4.below hb5 X4.lt
  have HB5 := below_two HB4 hb5
  clear R4 X4 HB4 hb5
  have f0 := X5.cell 0 rfl
  have g0 := R5.cell 0 rfl
  have gz := R5.free
  go_upto_region 10 with (fail)
  have R6 : Row (w5.setCell ⟨w.heap.size, 0, none⟩ (.int .i64 (33))) w.heap.size #[.int .i64 33, .int .i64 8, .int .i64 2, .int .i64 4, .int .i64 16, .int .i64 8, .int .i64 3, .int .i64 20, .int .i64 4, .float .f64 4602678819172646912] 50 := R5.set 0 (.int .i64 (33))
  have HB6 : Below w.heap.size w (w5.setCell ⟨w.heap.size, 0, none⟩ (.int .i64 (33))) := below_setB HB5 (Nat.le_refl _) _
  generalize w5.setCell ⟨w.heap.size, 0, none⟩ (.int .i64 (33)) = w6 at *
  clear R5 X5 HB5 f0 g0 gz
  go_upto_region 11 with (first | (apply wpl_loadS (ty := 50); rfl; rfl; rfl; kernel_rfl; (first | assumption | exact Row.new _ _ _ | (apply Row.alloc; (first | assumption | exact Row.new _ _ _ | (apply Row.alloc; (first | assumption | exact Row.new _ _ _))))); kernel_rfl; simp only [Act.put, List.setIfInBounds_toArray, List.set_cons_zero, List.set_cons_succ]) | (go_at_call 37; (with_reducible refine (c_bdO01 _).mono ?_); rintro e w7 ⟨rfl, hb7⟩))
  have R8 := (R6.below hb7 R6.lt).alloc (.cells #[.int .i64 0, .int .i64 0, .int .i64 0, .int .i64 0, .int .i64 0, .int .i64 0, .int .i64 0, .int .i64 0, .int .i64 0, .int .i64 0, .int .i64 0, .int .i64 0, .int .i64 0] 56)
  have HB8 := below_alloc (below_two HB6 hb7) (.cells #[.int .i64 0, .int .i64 0, .int .i64 0, .int .i64 0, .int .i64 0, .int .i64 0, .int .i64 0, .int .i64 0, .int .i64 0, .int .i64 0, .int .i64 0, .int .i64 0, .int .i64 0] 56)
  generalize w7.alloc (.cells #[.int .i64 0, .int .i64 0, .int .i64 0, .int .i64 0, .int .i64 0, .int .i64 0, .int .i64 0, .int .i64 0, .int .i64 0, .int .i64 0, .int .i64 0, .int .i64 0, .int .i64 0] 56) = w8 at *
  clear R6 HB6 hb7
  go_wp2_with (first | (apply wpl_loadS (ty := 50); rfl; rfl; rfl; kernel_rfl; (first | assumption | exact Row.new _ _ _ | (apply Row.alloc; (first | assumption | exact Row.new _ _ _ | (apply Row.alloc; (first | assumption | exact Row.new _ _ _))))); kernel_rfl; simp only [Act.put, List.setIfInBounds_toArray, List.set_cons_zero, List.set_cons_succ]) | (go_at_call 36; (with_reducible refine (c_okO01 _).mono ?_); rintro e w9 ⟨rfl, hb9⟩) | (go_at_call 38; refine (c_awake20 _).mono ?_; rintro e w10 ⟨rfl, hb10⟩))
  go_ret
  exact ⟨rfl, below_two HB8 (below_two hb9 hb10)⟩

theorem part_e10 : PartIs 10 half 20 true := by
  refine ⟨?_⟩
  unfold PartIs0
  have h : (partOk 10 half = true ∧ enB (Int.toNat 10) half big = true) := by decide +kernel
  rw [if_pos h]
  decide +kernel
theorem c_okI10 (w : World) : Calls Try.prog 36 #[.agg #[.int .i64 4, .int .i64 8, .int .i64 2, .int .i64 4, .int .i64 16, .int .i64 8, .int .i64 3, .int .i64 20, .int .i64 4, .float .f64 4602678819172646912]] w fun e w' => e = .returned (.bool true) ∧ Below w.heap.size w w' :=
  (c_ok ⟨4, 8, 2, 4, 16, 8, 3, 20, 4, half⟩ w (by unfold W64; decide)).mono fun e w' ⟨he, hb⟩ => by
    have hn : (nodesF ⟨4, 8, 2, 4, 16, 8, 3, 20, 4, half⟩).1 = 10 := by decide +kernel
    rw [(bd_of (a := ⟨4, 8, 2, 4, 16, 8, 3, 20, 4, half⟩) (k := 20) (y := 32) (by decide +kernel) (by rw [hn]; exact part_e10) (by decide +kernel) (by decide)).1] at he
    exact ⟨he, hb⟩
theorem c_okO10 (w : World) : Calls Try.prog 36 #[.agg #[.int .i64 4, .int .i64 7, .int .i64 2, .int .i64 4, .int .i64 16, .int .i64 8, .int .i64 3, .int .i64 20, .int .i64 4, .float .f64 4602678819172646912]] w fun e w' => e = .returned (.bool false) ∧ Below w.heap.size w w' :=
  (c_ok ⟨4, 7, 2, 4, 16, 8, 3, 20, 4, half⟩ w (by unfold W64; decide)).mono fun e w' ⟨he, hb⟩ => by
    rw [(bd_nums (a := ⟨4, 7, 2, 4, 16, 8, 3, 20, 4, half⟩) (by decide +kernel)).1] at he
    exact ⟨he, hb⟩
theorem c_bdO10 (w : World) : Calls Try.prog 37 #[.agg #[.int .i64 4, .int .i64 7, .int .i64 2, .int .i64 4, .int .i64 16, .int .i64 8, .int .i64 3, .int .i64 20, .int .i64 4, .float .f64 4602678819172646912]] w fun e w' =>
    e = .returned (.tuple #[.agg #[.int .i64 0, .int .i64 0, .int .i64 0, .int .i64 0, .int .i64 0, .int .i64 0, .int .i64 0, .int .i64 0, .int .i64 0, .int .i64 0, .int .i64 0, .int .i64 0, .int .i64 0], .bool false]) ∧ Below w.heap.size w w' :=
  (c_bounds ⟨4, 7, 2, 4, 16, 8, 3, 20, 4, half⟩ w (by unfold W64; decide)).mono fun e w' ⟨he, hb⟩ => by
    obtain ⟨h1, h2⟩ := bd_nums (a := ⟨4, 7, 2, 4, 16, 8, 3, 20, 4, half⟩) (by decide +kernel)
    rw [h1, h2] at he
    exact ⟨he, hb⟩
set_option maxHeartbeats 4000000 in
theorem w_err10 (n : Int) (w : World) (nn : Nat) (hn : bits BinOp.and IntKind.i64 n 255 = (nn : Int)) (h1 : nn ≤ 255) (hp : (nn : Int) % 9 = 1) :
    Calls Try.prog 10 #[.int .i64 n, .bool false] w fun e w' => e = .returned (.bool true) ∧ Below w.heap.size w w' := by
  have hn0 : (0 : Int) ≤ (nn : Int) := by omega
  go_enter Try.func10, Try.ntmps10
  go_upto_region 3 with (apply wpl_storeN; rfl; rfl; rfl; (first | rfl | simp); rfl; kernel_rfl; rfl; (simp [Value.oneCell']); simp only [Act.put])
  have RA := Row.new (w.alloc (.cells #[.int .i64 4, .int .i64 8, .int .i64 2, .int .i64 4, .int .i64 16, .int .i64 8, .int .i64 3, .int .i64 20, .int .i64 4, .float .f64 4602678819172646912] 50)) (all20A w.heap.size) 52
  have RC := (Row.new w #[.int .i64 4, .int .i64 8, .int .i64 2, .int .i64 4, .int .i64 16, .int .i64 8, .int .i64 3, .int .i64 20, .int .i64 4, .float .f64 4602678819172646912] 50).alloc (.cells (all20A w.heap.size) 52)
  have HB : Below w.heap.size w ((w.alloc (.cells #[.int .i64 4, .int .i64 8, .int .i64 2, .int .i64 4, .int .i64 16, .int .i64 8, .int .i64 3, .int .i64 20, .int .i64 4, .float .f64 4602678819172646912] 50)).alloc (.cells (all20A w.heap.size) 52)) := below_alloc (below_alloc (Below.refl _ _) _) _
  have hs : ((w.alloc (.cells #[.int .i64 4, .int .i64 8, .int .i64 2, .int .i64 4, .int .i64 16, .int .i64 8, .int .i64 3, .int .i64 20, .int .i64 4, .float .f64 4602678819172646912] 50)).alloc (.cells (all20A w.heap.size) 52)).heap.size = w.heap.size + 2 := by simp
  have hs1 : (w.alloc (.cells #[.int .i64 4, .int .i64 8, .int .i64 2, .int .i64 4, .int .i64 16, .int .i64 8, .int .i64 3, .int .i64 20, .int .i64 4, .float .f64 4602678819172646912] 50)).heap.size = w.heap.size + 1 := by simp
  rw [hs1] at RA
  unfold all20A at *
  generalize (w.alloc (.cells #[.int .i64 4, .int .i64 8, .int .i64 2, .int .i64 4, .int .i64 16, .int .i64 8, .int .i64 3, .int .i64 20, .int .i64 4, .float .f64 4602678819172646912] 50)).alloc (.cells #[.pointer (some ⟨w.heap.size, 0, none⟩), .int .i64 1, .int .i64 32, .pointer (some ⟨w.heap.size, 1, none⟩), .int .i64 8, .int .i64 64, .pointer (some ⟨w.heap.size, 2, none⟩), .int .i64 1, .int .i64 4, .pointer (some ⟨w.heap.size, 3, none⟩), .int .i64 3, .int .i64 8, .pointer (some ⟨w.heap.size, 4, none⟩), .int .i64 8, .int .i64 64, .pointer (some ⟨w.heap.size, 5, none⟩), .int .i64 3, .int .i64 32, .pointer (some ⟨w.heap.size, 6, none⟩), .int .i64 1, .int .i64 64, .pointer (some ⟨w.heap.size, 7, none⟩), .int .i64 1, .int .i64 500, .pointer (some ⟨w.heap.size, 8, none⟩), .int .i64 1, .int .i64 8] 52) = w2 at *
  have e0 := RA.cell 3 rfl
  have e1 := RA.cell 4 rfl
  have e2 := RA.cell 5 rfl
  clear hs1
  go_upto_region 4 with (fail)
  have RX := Row.new w2 #[.pointer (some ⟨w.heap.size, 1, none⟩), .int .i64 8, .int .i64 64] 52
  have RC3 := RC.alloc (.cells #[.pointer (some ⟨w.heap.size, 1, none⟩), .int .i64 8, .int .i64 64] 52)
  have HB3 : Below w.heap.size w (w2.alloc (.cells #[.pointer (some ⟨w.heap.size, 1, none⟩), .int .i64 8, .int .i64 64] 52)) := below_alloc HB _
  rw [hs] at RX
  generalize w2.alloc (.cells #[.pointer (some ⟨w.heap.size, 1, none⟩), .int .i64 8, .int .i64 64] 52) = w3 at *
  clear RA RC HB hs e0 e1 e2
  have f0 := RX.cell 0 rfl
  have f1 := RX.cell 1 rfl
  have f2 := RX.cell 2 rfl
  have g0 := RC3.cell 1 rfl
  have gz := RC3.free
  (refine wp_region_lin [(0, true), (1, true), (2, true), (3, true), (4, true), (5, true), (6, true)] rfl rfl (by kernel_rfl) (by kernel_rfl) (fun _ _ _ _ _ h => h) ?_; (iterate 7 (first | (apply lin_take; (simp only [List.getElem?_toArray, List.getElem?_cons_succ, List.getElem?_cons_zero]; rfl); (rfl); (intro w' hb'; (try have k_f0 := cell_keep hb' f0); (try have k_f1 := cell_keep hb' f1); (try have k_f2 := cell_keep hb' f2); (first | (go_simp; done) | (go_simp; with_reducible rfl) | (go_simp; go_bits; with_reducible rfl) | (go_simp; go_bits; done))); try simp only [Act.put, List.setIfInBounds_toArray, List.set_cons_zero, List.set_cons_succ]) | (apply lin_skip; (simp only [List.getElem?_toArray, List.getElem?_cons_succ, List.getElem?_cons_zero]; rfl); (rfl); try simp only [Act.put, List.setIfInBounds_toArray, List.set_cons_zero, List.set_cons_succ]) | (apply lin_pass; (simp only [List.getElem?_toArray, List.getElem?_cons_succ, List.getElem?_cons_zero]; rfl); (rfl); try simp only [Act.put, List.setIfInBounds_toArray, List.set_cons_zero, List.set_cons_succ]) | (apply lin_op; (simp only [List.getElem?_toArray, List.getElem?_cons_succ, List.getElem?_cons_zero]; rfl); (rfl); intro K hK; go_simp; (first | skip); refine hK _ _ ?_ ?_; (first | exact ⟨rfl, rfl, rfl, Nat.le_refl _, fun _ _ => rfl⟩ | assumption | exact below_alloc (Below.refl _ _) _ | exact below_drewN (by assumption) _); clear hK; try simp only [Act.put, List.setIfInBounds_toArray, List.set_cons_zero, List.set_cons_succ]))); refine lin_end ?_)
  go_upto_region 8 with (fail)
  have R4 : Row (w3.setCell ⟨w.heap.size, 1, none⟩ (.int .i64 8)).drew w.heap.size #[.int .i64 4, .int .i64 8, .int .i64 2, .int .i64 4, .int .i64 16, .int .i64 8, .int .i64 3, .int .i64 20, .int .i64 4, .float .f64 4602678819172646912] 50 := RC3.set 1 (.int .i64 8)
  have X4 : Row (w3.setCell ⟨w.heap.size, 1, none⟩ (.int .i64 8)).drew (w.heap.size + 2) #[.pointer (some ⟨w.heap.size, 1, none⟩), .int .i64 8, .int .i64 64] 52 := RX.set_other 1 (.int .i64 8) (by omega)
  have HB4 : Below w.heap.size w (w3.setCell ⟨w.heap.size, 1, none⟩ (.int .i64 8)).drew := below_drew (below_setB HB3 (Nat.le_refl _) _)
  generalize (w3.setCell ⟨w.heap.size, 1, none⟩ (.int .i64 8)).drew = w4 at *
  clear RX RC3 HB3 f0 f1 f2 g0 gz
  go_upto_region 9 with (first | (apply wpl_loadS (ty := 50); rfl; rfl; rfl; kernel_rfl; (first | assumption | exact Row.new _ _ _ | (apply Row.alloc; (first | assumption | exact Row.new _ _ _ | (apply Row.alloc; (first | assumption | exact Row.new _ _ _))))); kernel_rfl; simp only [Act.put, List.setIfInBounds_toArray, List.set_cons_zero, List.set_cons_succ]) | (go_at_call 36; (with_reducible refine (c_okI10 _).mono ?_); rintro e w5 ⟨rfl, hb5⟩))
  have R5 := R4.below hb5 R4.lt
  have X5 := X4.below hb5 X4.lt
  have HB5 := below_two HB4 hb5
  clear R4 X4 HB4 hb5
  have f0 := X5.cell 0 rfl
  have g0 := R5.cell 1 rfl
  have gz := R5.free
  go_upto_region 10 with (fail)
  have R6 : Row (w5.setCell ⟨w.heap.size, 1, none⟩ (.int .i64 (7))) w.heap.size #[.int .i64 4, .int .i64 7, .int .i64 2, .int .i64 4, .int .i64 16, .int .i64 8, .int .i64 3, .int .i64 20, .int .i64 4, .float .f64 4602678819172646912] 50 := R5.set 1 (.int .i64 (7))
  have HB6 : Below w.heap.size w (w5.setCell ⟨w.heap.size, 1, none⟩ (.int .i64 (7))) := below_setB HB5 (Nat.le_refl _) _
  generalize w5.setCell ⟨w.heap.size, 1, none⟩ (.int .i64 (7)) = w6 at *
  clear R5 X5 HB5 f0 g0 gz
  go_upto_region 11 with (first | (apply wpl_loadS (ty := 50); rfl; rfl; rfl; kernel_rfl; (first | assumption | exact Row.new _ _ _ | (apply Row.alloc; (first | assumption | exact Row.new _ _ _ | (apply Row.alloc; (first | assumption | exact Row.new _ _ _))))); kernel_rfl; simp only [Act.put, List.setIfInBounds_toArray, List.set_cons_zero, List.set_cons_succ]) | (go_at_call 37; (with_reducible refine (c_bdO10 _).mono ?_); rintro e w7 ⟨rfl, hb7⟩))
  have R8 := (R6.below hb7 R6.lt).alloc (.cells #[.int .i64 0, .int .i64 0, .int .i64 0, .int .i64 0, .int .i64 0, .int .i64 0, .int .i64 0, .int .i64 0, .int .i64 0, .int .i64 0, .int .i64 0, .int .i64 0, .int .i64 0] 56)
  have HB8 := below_alloc (below_two HB6 hb7) (.cells #[.int .i64 0, .int .i64 0, .int .i64 0, .int .i64 0, .int .i64 0, .int .i64 0, .int .i64 0, .int .i64 0, .int .i64 0, .int .i64 0, .int .i64 0, .int .i64 0, .int .i64 0] 56)
  generalize w7.alloc (.cells #[.int .i64 0, .int .i64 0, .int .i64 0, .int .i64 0, .int .i64 0, .int .i64 0, .int .i64 0, .int .i64 0, .int .i64 0, .int .i64 0, .int .i64 0, .int .i64 0, .int .i64 0] 56) = w8 at *
  clear R6 HB6 hb7
  go_wp2_with (first | (apply wpl_loadS (ty := 50); rfl; rfl; rfl; kernel_rfl; (first | assumption | exact Row.new _ _ _ | (apply Row.alloc; (first | assumption | exact Row.new _ _ _ | (apply Row.alloc; (first | assumption | exact Row.new _ _ _))))); kernel_rfl; simp only [Act.put, List.setIfInBounds_toArray, List.set_cons_zero, List.set_cons_succ]) | (go_at_call 36; (with_reducible refine (c_okO10 _).mono ?_); rintro e w9 ⟨rfl, hb9⟩) | (go_at_call 38; refine (c_awake20 _).mono ?_; rintro e w10 ⟨rfl, hb10⟩))
  go_ret
  exact ⟨rfl, below_two HB8 (below_two hb9 hb10)⟩

theorem part_e11 : PartIs 10 half 20 true := by
  refine ⟨?_⟩
  unfold PartIs0
  have h : (partOk 10 half = true ∧ enB (Int.toNat 10) half big = true) := by decide +kernel
  rw [if_pos h]
  decide +kernel
theorem c_okI11 (w : World) : Calls Try.prog 36 #[.agg #[.int .i64 4, .int .i64 64, .int .i64 2, .int .i64 4, .int .i64 16, .int .i64 8, .int .i64 3, .int .i64 20, .int .i64 4, .float .f64 4602678819172646912]] w fun e w' => e = .returned (.bool true) ∧ Below w.heap.size w w' :=
  (c_ok ⟨4, 64, 2, 4, 16, 8, 3, 20, 4, half⟩ w (by unfold W64; decide)).mono fun e w' ⟨he, hb⟩ => by
    have hn : (nodesF ⟨4, 64, 2, 4, 16, 8, 3, 20, 4, half⟩).1 = 10 := by decide +kernel
    rw [(bd_of (a := ⟨4, 64, 2, 4, 16, 8, 3, 20, 4, half⟩) (k := 20) (y := 32) (by decide +kernel) (by rw [hn]; exact part_e11) (by decide +kernel) (by decide)).1] at he
    exact ⟨he, hb⟩
theorem c_okO11 (w : World) : Calls Try.prog 36 #[.agg #[.int .i64 4, .int .i64 65, .int .i64 2, .int .i64 4, .int .i64 16, .int .i64 8, .int .i64 3, .int .i64 20, .int .i64 4, .float .f64 4602678819172646912]] w fun e w' => e = .returned (.bool false) ∧ Below w.heap.size w w' :=
  (c_ok ⟨4, 65, 2, 4, 16, 8, 3, 20, 4, half⟩ w (by unfold W64; decide)).mono fun e w' ⟨he, hb⟩ => by
    rw [(bd_nums (a := ⟨4, 65, 2, 4, 16, 8, 3, 20, 4, half⟩) (by decide +kernel)).1] at he
    exact ⟨he, hb⟩
theorem c_bdO11 (w : World) : Calls Try.prog 37 #[.agg #[.int .i64 4, .int .i64 65, .int .i64 2, .int .i64 4, .int .i64 16, .int .i64 8, .int .i64 3, .int .i64 20, .int .i64 4, .float .f64 4602678819172646912]] w fun e w' =>
    e = .returned (.tuple #[.agg #[.int .i64 0, .int .i64 0, .int .i64 0, .int .i64 0, .int .i64 0, .int .i64 0, .int .i64 0, .int .i64 0, .int .i64 0, .int .i64 0, .int .i64 0, .int .i64 0, .int .i64 0], .bool false]) ∧ Below w.heap.size w w' :=
  (c_bounds ⟨4, 65, 2, 4, 16, 8, 3, 20, 4, half⟩ w (by unfold W64; decide)).mono fun e w' ⟨he, hb⟩ => by
    obtain ⟨h1, h2⟩ := bd_nums (a := ⟨4, 65, 2, 4, 16, 8, 3, 20, 4, half⟩) (by decide +kernel)
    rw [h1, h2] at he
    exact ⟨he, hb⟩
set_option maxHeartbeats 4000000 in
theorem w_err11 (n : Int) (w : World) (nn : Nat) (hn : bits BinOp.and IntKind.i64 n 255 = (nn : Int)) (h1 : nn ≤ 255) (hp : (nn : Int) % 9 = 1) :
    Calls Try.prog 10 #[.int .i64 n, .bool true] w fun e w' => e = .returned (.bool true) ∧ Below w.heap.size w w' := by
  have hn0 : (0 : Int) ≤ (nn : Int) := by omega
  go_enter Try.func10, Try.ntmps10
  go_upto_region 3 with (apply wpl_storeN; rfl; rfl; rfl; (first | rfl | simp); rfl; kernel_rfl; rfl; (simp [Value.oneCell']); simp only [Act.put])
  have RA := Row.new (w.alloc (.cells #[.int .i64 4, .int .i64 8, .int .i64 2, .int .i64 4, .int .i64 16, .int .i64 8, .int .i64 3, .int .i64 20, .int .i64 4, .float .f64 4602678819172646912] 50)) (all20A w.heap.size) 52
  have RC := (Row.new w #[.int .i64 4, .int .i64 8, .int .i64 2, .int .i64 4, .int .i64 16, .int .i64 8, .int .i64 3, .int .i64 20, .int .i64 4, .float .f64 4602678819172646912] 50).alloc (.cells (all20A w.heap.size) 52)
  have HB : Below w.heap.size w ((w.alloc (.cells #[.int .i64 4, .int .i64 8, .int .i64 2, .int .i64 4, .int .i64 16, .int .i64 8, .int .i64 3, .int .i64 20, .int .i64 4, .float .f64 4602678819172646912] 50)).alloc (.cells (all20A w.heap.size) 52)) := below_alloc (below_alloc (Below.refl _ _) _) _
  have hs : ((w.alloc (.cells #[.int .i64 4, .int .i64 8, .int .i64 2, .int .i64 4, .int .i64 16, .int .i64 8, .int .i64 3, .int .i64 20, .int .i64 4, .float .f64 4602678819172646912] 50)).alloc (.cells (all20A w.heap.size) 52)).heap.size = w.heap.size + 2 := by simp
  have hs1 : (w.alloc (.cells #[.int .i64 4, .int .i64 8, .int .i64 2, .int .i64 4, .int .i64 16, .int .i64 8, .int .i64 3, .int .i64 20, .int .i64 4, .float .f64 4602678819172646912] 50)).heap.size = w.heap.size + 1 := by simp
  rw [hs1] at RA
  unfold all20A at *
  generalize (w.alloc (.cells #[.int .i64 4, .int .i64 8, .int .i64 2, .int .i64 4, .int .i64 16, .int .i64 8, .int .i64 3, .int .i64 20, .int .i64 4, .float .f64 4602678819172646912] 50)).alloc (.cells #[.pointer (some ⟨w.heap.size, 0, none⟩), .int .i64 1, .int .i64 32, .pointer (some ⟨w.heap.size, 1, none⟩), .int .i64 8, .int .i64 64, .pointer (some ⟨w.heap.size, 2, none⟩), .int .i64 1, .int .i64 4, .pointer (some ⟨w.heap.size, 3, none⟩), .int .i64 3, .int .i64 8, .pointer (some ⟨w.heap.size, 4, none⟩), .int .i64 8, .int .i64 64, .pointer (some ⟨w.heap.size, 5, none⟩), .int .i64 3, .int .i64 32, .pointer (some ⟨w.heap.size, 6, none⟩), .int .i64 1, .int .i64 64, .pointer (some ⟨w.heap.size, 7, none⟩), .int .i64 1, .int .i64 500, .pointer (some ⟨w.heap.size, 8, none⟩), .int .i64 1, .int .i64 8] 52) = w2 at *
  have e0 := RA.cell 3 rfl
  have e1 := RA.cell 4 rfl
  have e2 := RA.cell 5 rfl
  clear hs1
  go_upto_region 4 with (fail)
  have RX := Row.new w2 #[.pointer (some ⟨w.heap.size, 1, none⟩), .int .i64 8, .int .i64 64] 52
  have RC3 := RC.alloc (.cells #[.pointer (some ⟨w.heap.size, 1, none⟩), .int .i64 8, .int .i64 64] 52)
  have HB3 : Below w.heap.size w (w2.alloc (.cells #[.pointer (some ⟨w.heap.size, 1, none⟩), .int .i64 8, .int .i64 64] 52)) := below_alloc HB _
  rw [hs] at RX
  generalize w2.alloc (.cells #[.pointer (some ⟨w.heap.size, 1, none⟩), .int .i64 8, .int .i64 64] 52) = w3 at *
  clear RA RC HB hs e0 e1 e2
  have f0 := RX.cell 0 rfl
  have f1 := RX.cell 1 rfl
  have f2 := RX.cell 2 rfl
  have g0 := RC3.cell 1 rfl
  have gz := RC3.free
  (refine wp_region_lin [(0, true), (1, true), (2, true), (3, true), (4, true), (5, true), (6, true)] rfl rfl (by kernel_rfl) (by kernel_rfl) (fun _ _ _ _ _ h => h) ?_; (iterate 7 (first | (apply lin_take; (simp only [List.getElem?_toArray, List.getElem?_cons_succ, List.getElem?_cons_zero]; rfl); (rfl); (intro w' hb'; (try have k_f0 := cell_keep hb' f0); (try have k_f1 := cell_keep hb' f1); (try have k_f2 := cell_keep hb' f2); (first | (go_simp; done) | (go_simp; with_reducible rfl) | (go_simp; go_bits; with_reducible rfl) | (go_simp; go_bits; done))); try simp only [Act.put, List.setIfInBounds_toArray, List.set_cons_zero, List.set_cons_succ]) | (apply lin_skip; (simp only [List.getElem?_toArray, List.getElem?_cons_succ, List.getElem?_cons_zero]; rfl); (rfl); try simp only [Act.put, List.setIfInBounds_toArray, List.set_cons_zero, List.set_cons_succ]) | (apply lin_pass; (simp only [List.getElem?_toArray, List.getElem?_cons_succ, List.getElem?_cons_zero]; rfl); (rfl); try simp only [Act.put, List.setIfInBounds_toArray, List.set_cons_zero, List.set_cons_succ]) | (apply lin_op; (simp only [List.getElem?_toArray, List.getElem?_cons_succ, List.getElem?_cons_zero]; rfl); (rfl); intro K hK; go_simp; (first | skip); refine hK _ _ ?_ ?_; (first | exact ⟨rfl, rfl, rfl, Nat.le_refl _, fun _ _ => rfl⟩ | assumption | exact below_alloc (Below.refl _ _) _ | exact below_drewN (by assumption) _); clear hK; try simp only [Act.put, List.setIfInBounds_toArray, List.set_cons_zero, List.set_cons_succ]))); refine lin_end ?_)
  go_upto_region 6 with (fail)
  (refine wp_region_lin [(0, true), (1, true), (2, true), (3, true), (4, true), (5, true), (6, true)] rfl rfl (by kernel_rfl) (by kernel_rfl) (fun _ _ _ _ _ h => h) ?_; (iterate 7 (first | (apply lin_take; (simp only [List.getElem?_toArray, List.getElem?_cons_succ, List.getElem?_cons_zero]; rfl); (rfl); (intro w' hb'; (try have k_f0 := cell_keep hb' f0); (try have k_f1 := cell_keep hb' f1); (try have k_f2 := cell_keep hb' f2); (first | (go_simp; done) | (go_simp; with_reducible rfl) | (go_simp; go_bits; with_reducible rfl) | (go_simp; go_bits; done))); try simp only [Act.put, List.setIfInBounds_toArray, List.set_cons_zero, List.set_cons_succ]) | (apply lin_skip; (simp only [List.getElem?_toArray, List.getElem?_cons_succ, List.getElem?_cons_zero]; rfl); (rfl); try simp only [Act.put, List.setIfInBounds_toArray, List.set_cons_zero, List.set_cons_succ]) | (apply lin_pass; (simp only [List.getElem?_toArray, List.getElem?_cons_succ, List.getElem?_cons_zero]; rfl); (rfl); try simp only [Act.put, List.setIfInBounds_toArray, List.set_cons_zero, List.set_cons_succ]) | (apply lin_op; (simp only [List.getElem?_toArray, List.getElem?_cons_succ, List.getElem?_cons_zero]; rfl); (rfl); intro K hK; go_simp; (first | skip); refine hK _ _ ?_ ?_; (first | exact ⟨rfl, rfl, rfl, Nat.le_refl _, fun _ _ => rfl⟩ | assumption | exact below_alloc (Below.refl _ _) _ | exact below_drewN (by assumption) _); clear hK; try simp only [Act.put, List.setIfInBounds_toArray, List.set_cons_zero, List.set_cons_succ]))); refine lin_end ?_)
  go_upto_region 8 with (fail)
  have R4 : Row (w3.setCell ⟨w.heap.size, 1, none⟩ (.int .i64 64)).drew.drew w.heap.size #[.int .i64 4, .int .i64 64, .int .i64 2, .int .i64 4, .int .i64 16, .int .i64 8, .int .i64 3, .int .i64 20, .int .i64 4, .float .f64 4602678819172646912] 50 := RC3.set 1 (.int .i64 64)
  have X4 : Row (w3.setCell ⟨w.heap.size, 1, none⟩ (.int .i64 64)).drew.drew (w.heap.size + 2) #[.pointer (some ⟨w.heap.size, 1, none⟩), .int .i64 8, .int .i64 64] 52 := RX.set_other 1 (.int .i64 64) (by omega)
  have HB4 : Below w.heap.size w (w3.setCell ⟨w.heap.size, 1, none⟩ (.int .i64 64)).drew.drew := below_drew (below_drew (below_setB HB3 (Nat.le_refl _) _))
  generalize (w3.setCell ⟨w.heap.size, 1, none⟩ (.int .i64 64)).drew.drew = w4 at *
  clear RX RC3 HB3 f0 f1 f2 g0 gz
  go_upto_region 9 with (first | (apply wpl_loadS (ty := 50); rfl; rfl; rfl; kernel_rfl; (first | assumption | exact Row.new _ _ _ | (apply Row.alloc; (first | assumption | exact Row.new _ _ _ | (apply Row.alloc; (first | assumption | exact Row.new _ _ _))))); kernel_rfl; simp only [Act.put, List.setIfInBounds_toArray, List.set_cons_zero, List.set_cons_succ]) | (go_at_call 36; (with_reducible refine (c_okI11 _).mono ?_); rintro e w5 ⟨rfl, hb5⟩))
  have R5 := R4.below hb5 R4.lt
  have X5 := X4.below hb5 X4.lt
  have HB5 := below_two HB4 hb5
  clear R4 X4 HB4 hb5
  have f0 := X5.cell 0 rfl
  have g0 := R5.cell 1 rfl
  have gz := R5.free
  go_upto_region 10 with (fail)
  have R6 : Row (w5.setCell ⟨w.heap.size, 1, none⟩ (.int .i64 (65))) w.heap.size #[.int .i64 4, .int .i64 65, .int .i64 2, .int .i64 4, .int .i64 16, .int .i64 8, .int .i64 3, .int .i64 20, .int .i64 4, .float .f64 4602678819172646912] 50 := R5.set 1 (.int .i64 (65))
  have HB6 : Below w.heap.size w (w5.setCell ⟨w.heap.size, 1, none⟩ (.int .i64 (65))) := below_setB HB5 (Nat.le_refl _) _
  generalize w5.setCell ⟨w.heap.size, 1, none⟩ (.int .i64 (65)) = w6 at *
  clear R5 X5 HB5 f0 g0 gz
  go_upto_region 11 with (first | (apply wpl_loadS (ty := 50); rfl; rfl; rfl; kernel_rfl; (first | assumption | exact Row.new _ _ _ | (apply Row.alloc; (first | assumption | exact Row.new _ _ _ | (apply Row.alloc; (first | assumption | exact Row.new _ _ _))))); kernel_rfl; simp only [Act.put, List.setIfInBounds_toArray, List.set_cons_zero, List.set_cons_succ]) | (go_at_call 37; (with_reducible refine (c_bdO11 _).mono ?_); rintro e w7 ⟨rfl, hb7⟩))
  have R8 := (R6.below hb7 R6.lt).alloc (.cells #[.int .i64 0, .int .i64 0, .int .i64 0, .int .i64 0, .int .i64 0, .int .i64 0, .int .i64 0, .int .i64 0, .int .i64 0, .int .i64 0, .int .i64 0, .int .i64 0, .int .i64 0] 56)
  have HB8 := below_alloc (below_two HB6 hb7) (.cells #[.int .i64 0, .int .i64 0, .int .i64 0, .int .i64 0, .int .i64 0, .int .i64 0, .int .i64 0, .int .i64 0, .int .i64 0, .int .i64 0, .int .i64 0, .int .i64 0, .int .i64 0] 56)
  generalize w7.alloc (.cells #[.int .i64 0, .int .i64 0, .int .i64 0, .int .i64 0, .int .i64 0, .int .i64 0, .int .i64 0, .int .i64 0, .int .i64 0, .int .i64 0, .int .i64 0, .int .i64 0, .int .i64 0] 56) = w8 at *
  clear R6 HB6 hb7
  go_wp2_with (first | (apply wpl_loadS (ty := 50); rfl; rfl; rfl; kernel_rfl; (first | assumption | exact Row.new _ _ _ | (apply Row.alloc; (first | assumption | exact Row.new _ _ _ | (apply Row.alloc; (first | assumption | exact Row.new _ _ _))))); kernel_rfl; simp only [Act.put, List.setIfInBounds_toArray, List.set_cons_zero, List.set_cons_succ]) | (go_at_call 36; (with_reducible refine (c_okO11 _).mono ?_); rintro e w9 ⟨rfl, hb9⟩) | (go_at_call 38; refine (c_awake20 _).mono ?_; rintro e w10 ⟨rfl, hb10⟩))
  go_ret
  exact ⟨rfl, below_two HB8 (below_two hb9 hb10)⟩

theorem part_e20 : PartIs 10 half 20 true := by
  refine ⟨?_⟩
  unfold PartIs0
  have h : (partOk 10 half = true ∧ enB (Int.toNat 10) half big = true) := by decide +kernel
  rw [if_pos h]
  decide +kernel
theorem c_okI20 (w : World) : Calls Try.prog 36 #[.agg #[.int .i64 4, .int .i64 8, .int .i64 1, .int .i64 4, .int .i64 16, .int .i64 8, .int .i64 3, .int .i64 20, .int .i64 4, .float .f64 4602678819172646912]] w fun e w' => e = .returned (.bool true) ∧ Below w.heap.size w w' :=
  (c_ok ⟨4, 8, 1, 4, 16, 8, 3, 20, 4, half⟩ w (by unfold W64; decide)).mono fun e w' ⟨he, hb⟩ => by
    have hn : (nodesF ⟨4, 8, 1, 4, 16, 8, 3, 20, 4, half⟩).1 = 10 := by decide +kernel
    rw [(bd_of (a := ⟨4, 8, 1, 4, 16, 8, 3, 20, 4, half⟩) (k := 20) (y := 32) (by decide +kernel) (by rw [hn]; exact part_e20) (by decide +kernel) (by decide)).1] at he
    exact ⟨he, hb⟩
theorem c_okO20 (w : World) : Calls Try.prog 36 #[.agg #[.int .i64 4, .int .i64 8, .int .i64 0, .int .i64 4, .int .i64 16, .int .i64 8, .int .i64 3, .int .i64 20, .int .i64 4, .float .f64 4602678819172646912]] w fun e w' => e = .returned (.bool false) ∧ Below w.heap.size w w' :=
  (c_ok ⟨4, 8, 0, 4, 16, 8, 3, 20, 4, half⟩ w (by unfold W64; decide)).mono fun e w' ⟨he, hb⟩ => by
    rw [(bd_nums (a := ⟨4, 8, 0, 4, 16, 8, 3, 20, 4, half⟩) (by decide +kernel)).1] at he
    exact ⟨he, hb⟩
theorem c_bdO20 (w : World) : Calls Try.prog 37 #[.agg #[.int .i64 4, .int .i64 8, .int .i64 0, .int .i64 4, .int .i64 16, .int .i64 8, .int .i64 3, .int .i64 20, .int .i64 4, .float .f64 4602678819172646912]] w fun e w' =>
    e = .returned (.tuple #[.agg #[.int .i64 0, .int .i64 0, .int .i64 0, .int .i64 0, .int .i64 0, .int .i64 0, .int .i64 0, .int .i64 0, .int .i64 0, .int .i64 0, .int .i64 0, .int .i64 0, .int .i64 0], .bool false]) ∧ Below w.heap.size w w' :=
  (c_bounds ⟨4, 8, 0, 4, 16, 8, 3, 20, 4, half⟩ w (by unfold W64; decide)).mono fun e w' ⟨he, hb⟩ => by
    obtain ⟨h1, h2⟩ := bd_nums (a := ⟨4, 8, 0, 4, 16, 8, 3, 20, 4, half⟩) (by decide +kernel)
    rw [h1, h2] at he
    exact ⟨he, hb⟩
set_option maxHeartbeats 4000000 in
theorem w_err20 (n : Int) (w : World) (nn : Nat) (hn : bits BinOp.and IntKind.i64 n 255 = (nn : Int)) (h1 : nn ≤ 255) (hp : (nn : Int) % 9 = 2) :
    Calls Try.prog 10 #[.int .i64 n, .bool false] w fun e w' => e = .returned (.bool true) ∧ Below w.heap.size w w' := by
  have hn0 : (0 : Int) ≤ (nn : Int) := by omega
  go_enter Try.func10, Try.ntmps10
  go_upto_region 3 with (apply wpl_storeN; rfl; rfl; rfl; (first | rfl | simp); rfl; kernel_rfl; rfl; (simp [Value.oneCell']); simp only [Act.put])
  have RA := Row.new (w.alloc (.cells #[.int .i64 4, .int .i64 8, .int .i64 2, .int .i64 4, .int .i64 16, .int .i64 8, .int .i64 3, .int .i64 20, .int .i64 4, .float .f64 4602678819172646912] 50)) (all20A w.heap.size) 52
  have RC := (Row.new w #[.int .i64 4, .int .i64 8, .int .i64 2, .int .i64 4, .int .i64 16, .int .i64 8, .int .i64 3, .int .i64 20, .int .i64 4, .float .f64 4602678819172646912] 50).alloc (.cells (all20A w.heap.size) 52)
  have HB : Below w.heap.size w ((w.alloc (.cells #[.int .i64 4, .int .i64 8, .int .i64 2, .int .i64 4, .int .i64 16, .int .i64 8, .int .i64 3, .int .i64 20, .int .i64 4, .float .f64 4602678819172646912] 50)).alloc (.cells (all20A w.heap.size) 52)) := below_alloc (below_alloc (Below.refl _ _) _) _
  have hs : ((w.alloc (.cells #[.int .i64 4, .int .i64 8, .int .i64 2, .int .i64 4, .int .i64 16, .int .i64 8, .int .i64 3, .int .i64 20, .int .i64 4, .float .f64 4602678819172646912] 50)).alloc (.cells (all20A w.heap.size) 52)).heap.size = w.heap.size + 2 := by simp
  have hs1 : (w.alloc (.cells #[.int .i64 4, .int .i64 8, .int .i64 2, .int .i64 4, .int .i64 16, .int .i64 8, .int .i64 3, .int .i64 20, .int .i64 4, .float .f64 4602678819172646912] 50)).heap.size = w.heap.size + 1 := by simp
  rw [hs1] at RA
  unfold all20A at *
  generalize (w.alloc (.cells #[.int .i64 4, .int .i64 8, .int .i64 2, .int .i64 4, .int .i64 16, .int .i64 8, .int .i64 3, .int .i64 20, .int .i64 4, .float .f64 4602678819172646912] 50)).alloc (.cells #[.pointer (some ⟨w.heap.size, 0, none⟩), .int .i64 1, .int .i64 32, .pointer (some ⟨w.heap.size, 1, none⟩), .int .i64 8, .int .i64 64, .pointer (some ⟨w.heap.size, 2, none⟩), .int .i64 1, .int .i64 4, .pointer (some ⟨w.heap.size, 3, none⟩), .int .i64 3, .int .i64 8, .pointer (some ⟨w.heap.size, 4, none⟩), .int .i64 8, .int .i64 64, .pointer (some ⟨w.heap.size, 5, none⟩), .int .i64 3, .int .i64 32, .pointer (some ⟨w.heap.size, 6, none⟩), .int .i64 1, .int .i64 64, .pointer (some ⟨w.heap.size, 7, none⟩), .int .i64 1, .int .i64 500, .pointer (some ⟨w.heap.size, 8, none⟩), .int .i64 1, .int .i64 8] 52) = w2 at *
  have e0 := RA.cell 6 rfl
  have e1 := RA.cell 7 rfl
  have e2 := RA.cell 8 rfl
  clear hs1
  go_upto_region 4 with (fail)
  have RX := Row.new w2 #[.pointer (some ⟨w.heap.size, 2, none⟩), .int .i64 1, .int .i64 4] 52
  have RC3 := RC.alloc (.cells #[.pointer (some ⟨w.heap.size, 2, none⟩), .int .i64 1, .int .i64 4] 52)
  have HB3 : Below w.heap.size w (w2.alloc (.cells #[.pointer (some ⟨w.heap.size, 2, none⟩), .int .i64 1, .int .i64 4] 52)) := below_alloc HB _
  rw [hs] at RX
  generalize w2.alloc (.cells #[.pointer (some ⟨w.heap.size, 2, none⟩), .int .i64 1, .int .i64 4] 52) = w3 at *
  clear RA RC HB hs e0 e1 e2
  have f0 := RX.cell 0 rfl
  have f1 := RX.cell 1 rfl
  have f2 := RX.cell 2 rfl
  have g0 := RC3.cell 2 rfl
  have gz := RC3.free
  (refine wp_region_lin [(0, true), (1, true), (2, true), (3, true), (4, true), (5, true), (6, true)] rfl rfl (by kernel_rfl) (by kernel_rfl) (fun _ _ _ _ _ h => h) ?_; (iterate 7 (first | (apply lin_take; (simp only [List.getElem?_toArray, List.getElem?_cons_succ, List.getElem?_cons_zero]; rfl); (rfl); (intro w' hb'; (try have k_f0 := cell_keep hb' f0); (try have k_f1 := cell_keep hb' f1); (try have k_f2 := cell_keep hb' f2); (first | (go_simp; done) | (go_simp; with_reducible rfl) | (go_simp; go_bits; with_reducible rfl) | (go_simp; go_bits; done))); try simp only [Act.put, List.setIfInBounds_toArray, List.set_cons_zero, List.set_cons_succ]) | (apply lin_skip; (simp only [List.getElem?_toArray, List.getElem?_cons_succ, List.getElem?_cons_zero]; rfl); (rfl); try simp only [Act.put, List.setIfInBounds_toArray, List.set_cons_zero, List.set_cons_succ]) | (apply lin_pass; (simp only [List.getElem?_toArray, List.getElem?_cons_succ, List.getElem?_cons_zero]; rfl); (rfl); try simp only [Act.put, List.setIfInBounds_toArray, List.set_cons_zero, List.set_cons_succ]) | (apply lin_op; (simp only [List.getElem?_toArray, List.getElem?_cons_succ, List.getElem?_cons_zero]; rfl); (rfl); intro K hK; go_simp; (first | skip); refine hK _ _ ?_ ?_; (first | exact ⟨rfl, rfl, rfl, Nat.le_refl _, fun _ _ => rfl⟩ | assumption | exact below_alloc (Below.refl _ _) _ | exact below_drewN (by assumption) _); clear hK; try simp only [Act.put, List.setIfInBounds_toArray, List.set_cons_zero, List.set_cons_succ]))); refine lin_end ?_)
  go_upto_region 8 with (fail)
  have R4 : Row (w3.setCell ⟨w.heap.size, 2, none⟩ (.int .i64 1)).drew w.heap.size #[.int .i64 4, .int .i64 8, .int .i64 1, .int .i64 4, .int .i64 16, .int .i64 8, .int .i64 3, .int .i64 20, .int .i64 4, .float .f64 4602678819172646912] 50 := RC3.set 2 (.int .i64 1)
  have X4 : Row (w3.setCell ⟨w.heap.size, 2, none⟩ (.int .i64 1)).drew (w.heap.size + 2) #[.pointer (some ⟨w.heap.size, 2, none⟩), .int .i64 1, .int .i64 4] 52 := RX.set_other 2 (.int .i64 1) (by omega)
  have HB4 : Below w.heap.size w (w3.setCell ⟨w.heap.size, 2, none⟩ (.int .i64 1)).drew := below_drew (below_setB HB3 (Nat.le_refl _) _)
  generalize (w3.setCell ⟨w.heap.size, 2, none⟩ (.int .i64 1)).drew = w4 at *
  clear RX RC3 HB3 f0 f1 f2 g0 gz
  go_upto_region 9 with (first | (apply wpl_loadS (ty := 50); rfl; rfl; rfl; kernel_rfl; (first | assumption | exact Row.new _ _ _ | (apply Row.alloc; (first | assumption | exact Row.new _ _ _ | (apply Row.alloc; (first | assumption | exact Row.new _ _ _))))); kernel_rfl; simp only [Act.put, List.setIfInBounds_toArray, List.set_cons_zero, List.set_cons_succ]) | (go_at_call 36; (with_reducible refine (c_okI20 _).mono ?_); rintro e w5 ⟨rfl, hb5⟩))
  have R5 := R4.below hb5 R4.lt
  have X5 := X4.below hb5 X4.lt
  have HB5 := below_two HB4 hb5
  clear R4 X4 HB4 hb5
  have f0 := X5.cell 0 rfl
  have g0 := R5.cell 2 rfl
  have gz := R5.free
  go_upto_region 10 with (fail)
  have R6 : Row (w5.setCell ⟨w.heap.size, 2, none⟩ (.int .i64 (0))) w.heap.size #[.int .i64 4, .int .i64 8, .int .i64 0, .int .i64 4, .int .i64 16, .int .i64 8, .int .i64 3, .int .i64 20, .int .i64 4, .float .f64 4602678819172646912] 50 := R5.set 2 (.int .i64 (0))
  have HB6 : Below w.heap.size w (w5.setCell ⟨w.heap.size, 2, none⟩ (.int .i64 (0))) := below_setB HB5 (Nat.le_refl _) _
  generalize w5.setCell ⟨w.heap.size, 2, none⟩ (.int .i64 (0)) = w6 at *
  clear R5 X5 HB5 f0 g0 gz
  go_upto_region 11 with (first | (apply wpl_loadS (ty := 50); rfl; rfl; rfl; kernel_rfl; (first | assumption | exact Row.new _ _ _ | (apply Row.alloc; (first | assumption | exact Row.new _ _ _ | (apply Row.alloc; (first | assumption | exact Row.new _ _ _))))); kernel_rfl; simp only [Act.put, List.setIfInBounds_toArray, List.set_cons_zero, List.set_cons_succ]) | (go_at_call 37; (with_reducible refine (c_bdO20 _).mono ?_); rintro e w7 ⟨rfl, hb7⟩))
  have R8 := (R6.below hb7 R6.lt).alloc (.cells #[.int .i64 0, .int .i64 0, .int .i64 0, .int .i64 0, .int .i64 0, .int .i64 0, .int .i64 0, .int .i64 0, .int .i64 0, .int .i64 0, .int .i64 0, .int .i64 0, .int .i64 0] 56)
  have HB8 := below_alloc (below_two HB6 hb7) (.cells #[.int .i64 0, .int .i64 0, .int .i64 0, .int .i64 0, .int .i64 0, .int .i64 0, .int .i64 0, .int .i64 0, .int .i64 0, .int .i64 0, .int .i64 0, .int .i64 0, .int .i64 0] 56)
  generalize w7.alloc (.cells #[.int .i64 0, .int .i64 0, .int .i64 0, .int .i64 0, .int .i64 0, .int .i64 0, .int .i64 0, .int .i64 0, .int .i64 0, .int .i64 0, .int .i64 0, .int .i64 0, .int .i64 0] 56) = w8 at *
  clear R6 HB6 hb7
  go_wp2_with (first | (apply wpl_loadS (ty := 50); rfl; rfl; rfl; kernel_rfl; (first | assumption | exact Row.new _ _ _ | (apply Row.alloc; (first | assumption | exact Row.new _ _ _ | (apply Row.alloc; (first | assumption | exact Row.new _ _ _))))); kernel_rfl; simp only [Act.put, List.setIfInBounds_toArray, List.set_cons_zero, List.set_cons_succ]) | (go_at_call 36; (with_reducible refine (c_okO20 _).mono ?_); rintro e w9 ⟨rfl, hb9⟩) | (go_at_call 38; refine (c_awake20 _).mono ?_; rintro e w10 ⟨rfl, hb10⟩))
  go_ret
  exact ⟨rfl, below_two HB8 (below_two hb9 hb10)⟩

theorem part_e21 : PartIs 11 half 22 true := by
  refine ⟨?_⟩
  unfold PartIs0
  have h : (partOk 11 half = true ∧ enB (Int.toNat 11) half big = true) := by decide +kernel
  rw [if_pos h]
  decide +kernel
theorem c_okI21 (w : World) : Calls Try.prog 36 #[.agg #[.int .i64 4, .int .i64 8, .int .i64 4, .int .i64 4, .int .i64 16, .int .i64 8, .int .i64 3, .int .i64 20, .int .i64 4, .float .f64 4602678819172646912]] w fun e w' => e = .returned (.bool true) ∧ Below w.heap.size w w' :=
  (c_ok ⟨4, 8, 4, 4, 16, 8, 3, 20, 4, half⟩ w (by unfold W64; decide)).mono fun e w' ⟨he, hb⟩ => by
    have hn : (nodesF ⟨4, 8, 4, 4, 16, 8, 3, 20, 4, half⟩).1 = 11 := by decide +kernel
    rw [(bd_of (a := ⟨4, 8, 4, 4, 16, 8, 3, 20, 4, half⟩) (k := 22) (y := 32) (by decide +kernel) (by rw [hn]; exact part_e21) (by decide +kernel) (by decide)).1] at he
    exact ⟨he, hb⟩
theorem c_okO21 (w : World) : Calls Try.prog 36 #[.agg #[.int .i64 4, .int .i64 8, .int .i64 5, .int .i64 4, .int .i64 16, .int .i64 8, .int .i64 3, .int .i64 20, .int .i64 4, .float .f64 4602678819172646912]] w fun e w' => e = .returned (.bool false) ∧ Below w.heap.size w w' :=
  (c_ok ⟨4, 8, 5, 4, 16, 8, 3, 20, 4, half⟩ w (by unfold W64; decide)).mono fun e w' ⟨he, hb⟩ => by
    rw [(bd_nums (a := ⟨4, 8, 5, 4, 16, 8, 3, 20, 4, half⟩) (by decide +kernel)).1] at he
    exact ⟨he, hb⟩
theorem c_bdO21 (w : World) : Calls Try.prog 37 #[.agg #[.int .i64 4, .int .i64 8, .int .i64 5, .int .i64 4, .int .i64 16, .int .i64 8, .int .i64 3, .int .i64 20, .int .i64 4, .float .f64 4602678819172646912]] w fun e w' =>
    e = .returned (.tuple #[.agg #[.int .i64 0, .int .i64 0, .int .i64 0, .int .i64 0, .int .i64 0, .int .i64 0, .int .i64 0, .int .i64 0, .int .i64 0, .int .i64 0, .int .i64 0, .int .i64 0, .int .i64 0], .bool false]) ∧ Below w.heap.size w w' :=
  (c_bounds ⟨4, 8, 5, 4, 16, 8, 3, 20, 4, half⟩ w (by unfold W64; decide)).mono fun e w' ⟨he, hb⟩ => by
    obtain ⟨h1, h2⟩ := bd_nums (a := ⟨4, 8, 5, 4, 16, 8, 3, 20, 4, half⟩) (by decide +kernel)
    rw [h1, h2] at he
    exact ⟨he, hb⟩
set_option maxHeartbeats 4000000 in
theorem w_err21 (n : Int) (w : World) (nn : Nat) (hn : bits BinOp.and IntKind.i64 n 255 = (nn : Int)) (h1 : nn ≤ 255) (hp : (nn : Int) % 9 = 2) :
    Calls Try.prog 10 #[.int .i64 n, .bool true] w fun e w' => e = .returned (.bool true) ∧ Below w.heap.size w w' := by
  have hn0 : (0 : Int) ≤ (nn : Int) := by omega
  go_enter Try.func10, Try.ntmps10
  go_upto_region 3 with (apply wpl_storeN; rfl; rfl; rfl; (first | rfl | simp); rfl; kernel_rfl; rfl; (simp [Value.oneCell']); simp only [Act.put])
  have RA := Row.new (w.alloc (.cells #[.int .i64 4, .int .i64 8, .int .i64 2, .int .i64 4, .int .i64 16, .int .i64 8, .int .i64 3, .int .i64 20, .int .i64 4, .float .f64 4602678819172646912] 50)) (all20A w.heap.size) 52
  have RC := (Row.new w #[.int .i64 4, .int .i64 8, .int .i64 2, .int .i64 4, .int .i64 16, .int .i64 8, .int .i64 3, .int .i64 20, .int .i64 4, .float .f64 4602678819172646912] 50).alloc (.cells (all20A w.heap.size) 52)
  have HB : Below w.heap.size w ((w.alloc (.cells #[.int .i64 4, .int .i64 8, .int .i64 2, .int .i64 4, .int .i64 16, .int .i64 8, .int .i64 3, .int .i64 20, .int .i64 4, .float .f64 4602678819172646912] 50)).alloc (.cells (all20A w.heap.size) 52)) := below_alloc (below_alloc (Below.refl _ _) _) _
  have hs : ((w.alloc (.cells #[.int .i64 4, .int .i64 8, .int .i64 2, .int .i64 4, .int .i64 16, .int .i64 8, .int .i64 3, .int .i64 20, .int .i64 4, .float .f64 4602678819172646912] 50)).alloc (.cells (all20A w.heap.size) 52)).heap.size = w.heap.size + 2 := by simp
  have hs1 : (w.alloc (.cells #[.int .i64 4, .int .i64 8, .int .i64 2, .int .i64 4, .int .i64 16, .int .i64 8, .int .i64 3, .int .i64 20, .int .i64 4, .float .f64 4602678819172646912] 50)).heap.size = w.heap.size + 1 := by simp
  rw [hs1] at RA
  unfold all20A at *
  generalize (w.alloc (.cells #[.int .i64 4, .int .i64 8, .int .i64 2, .int .i64 4, .int .i64 16, .int .i64 8, .int .i64 3, .int .i64 20, .int .i64 4, .float .f64 4602678819172646912] 50)).alloc (.cells #[.pointer (some ⟨w.heap.size, 0, none⟩), .int .i64 1, .int .i64 32, .pointer (some ⟨w.heap.size, 1, none⟩), .int .i64 8, .int .i64 64, .pointer (some ⟨w.heap.size, 2, none⟩), .int .i64 1, .int .i64 4, .pointer (some ⟨w.heap.size, 3, none⟩), .int .i64 3, .int .i64 8, .pointer (some ⟨w.heap.size, 4, none⟩), .int .i64 8, .int .i64 64, .pointer (some ⟨w.heap.size, 5, none⟩), .int .i64 3, .int .i64 32, .pointer (some ⟨w.heap.size, 6, none⟩), .int .i64 1, .int .i64 64, .pointer (some ⟨w.heap.size, 7, none⟩), .int .i64 1, .int .i64 500, .pointer (some ⟨w.heap.size, 8, none⟩), .int .i64 1, .int .i64 8] 52) = w2 at *
  have e0 := RA.cell 6 rfl
  have e1 := RA.cell 7 rfl
  have e2 := RA.cell 8 rfl
  clear hs1
  go_upto_region 4 with (fail)
  have RX := Row.new w2 #[.pointer (some ⟨w.heap.size, 2, none⟩), .int .i64 1, .int .i64 4] 52
  have RC3 := RC.alloc (.cells #[.pointer (some ⟨w.heap.size, 2, none⟩), .int .i64 1, .int .i64 4] 52)
  have HB3 : Below w.heap.size w (w2.alloc (.cells #[.pointer (some ⟨w.heap.size, 2, none⟩), .int .i64 1, .int .i64 4] 52)) := below_alloc HB _
  rw [hs] at RX
  generalize w2.alloc (.cells #[.pointer (some ⟨w.heap.size, 2, none⟩), .int .i64 1, .int .i64 4] 52) = w3 at *
  clear RA RC HB hs e0 e1 e2
  have f0 := RX.cell 0 rfl
  have f1 := RX.cell 1 rfl
  have f2 := RX.cell 2 rfl
  have g0 := RC3.cell 2 rfl
  have gz := RC3.free
  (refine wp_region_lin [(0, true), (1, true), (2, true), (3, true), (4, true), (5, true), (6, true)] rfl rfl (by kernel_rfl) (by kernel_rfl) (fun _ _ _ _ _ h => h) ?_; (iterate 7 (first | (apply lin_take; (simp only [List.getElem?_toArray, List.getElem?_cons_succ, List.getElem?_cons_zero]; rfl); (rfl); (intro w' hb'; (try have k_f0 := cell_keep hb' f0); (try have k_f1 := cell_keep hb' f1); (try have k_f2 := cell_keep hb' f2); (first | (go_simp; done) | (go_simp; with_reducible rfl) | (go_simp; go_bits; with_reducible rfl) | (go_simp; go_bits; done))); try simp only [Act.put, List.setIfInBounds_toArray, List.set_cons_zero, List.set_cons_succ]) | (apply lin_skip; (simp only [List.getElem?_toArray, List.getElem?_cons_succ, List.getElem?_cons_zero]; rfl); (rfl); try simp only [Act.put, List.setIfInBounds_toArray, List.set_cons_zero, List.set_cons_succ]) | (apply lin_pass; (simp only [List.getElem?_toArray, List.getElem?_cons_succ, List.getElem?_cons_zero]; rfl); (rfl); try simp only [Act.put, List.setIfInBounds_toArray, List.set_cons_zero, List.set_cons_succ]) | (apply lin_op; (simp only [List.getElem?_toArray, List.getElem?_cons_succ, List.getElem?_cons_zero]; rfl); (rfl); intro K hK; go_simp; (first | skip); refine hK _ _ ?_ ?_; (first | exact ⟨rfl, rfl, rfl, Nat.le_refl _, fun _ _ => rfl⟩ | assumption | exact below_alloc (Below.refl _ _) _ | exact below_drewN (by assumption) _); clear hK; try simp only [Act.put, List.setIfInBounds_toArray, List.set_cons_zero, List.set_cons_succ]))); refine lin_end ?_)
  go_upto_region 6 with (fail)
  (refine wp_region_lin [(0, true), (1, true), (2, true), (3, true), (4, true), (5, true), (6, true)] rfl rfl (by kernel_rfl) (by kernel_rfl) (fun _ _ _ _ _ h => h) ?_; (iterate 7 (first | (apply lin_take; (simp only [List.getElem?_toArray, List.getElem?_cons_succ, List.getElem?_cons_zero]; rfl); (rfl); (intro w' hb'; (try have k_f0 := cell_keep hb' f0); (try have k_f1 := cell_keep hb' f1); (try have k_f2 := cell_keep hb' f2); (first | (go_simp; done) | (go_simp; with_reducible rfl) | (go_simp; go_bits; with_reducible rfl) | (go_simp; go_bits; done))); try simp only [Act.put, List.setIfInBounds_toArray, List.set_cons_zero, List.set_cons_succ]) | (apply lin_skip; (simp only [List.getElem?_toArray, List.getElem?_cons_succ, List.getElem?_cons_zero]; rfl); (rfl); try simp only [Act.put, List.setIfInBounds_toArray, List.set_cons_zero, List.set_cons_succ]) | (apply lin_pass; (simp only [List.getElem?_toArray, List.getElem?_cons_succ, List.getElem?_cons_zero]; rfl); (rfl); try simp only [Act.put, List.setIfInBounds_toArray, List.set_cons_zero, List.set_cons_succ]) | (apply lin_op; (simp only [List.getElem?_toArray, List.getElem?_cons_succ, List.getElem?_cons_zero]; rfl); (rfl); intro K hK; go_simp; (first | skip); refine hK _ _ ?_ ?_; (first | exact ⟨rfl, rfl, rfl, Nat.le_refl _, fun _ _ => rfl⟩ | assumption | exact below_alloc (Below.refl _ _) _ | exact below_drewN (by assumption) _); clear hK; try simp only [Act.put, List.setIfInBounds_toArray, List.set_cons_zero, List.set_cons_succ]))); refine lin_end ?_)
  go_upto_region 8 with (fail)
  have R4 : Row (w3.setCell ⟨w.heap.size, 2, none⟩ (.int .i64 4)).drew.drew w.heap.size #[.int .i64 4, .int .i64 8, .int .i64 4, .int .i64 4, .int .i64 16, .int .i64 8, .int .i64 3, .int .i64 20, .int .i64 4, .float .f64 4602678819172646912] 50 := RC3.set 2 (.int .i64 4)
  have X4 : Row (w3.setCell ⟨w.heap.size, 2, none⟩ (.int .i64 4)).drew.drew (w.heap.size + 2) #[.pointer (some ⟨w.heap.size, 2, none⟩), .int .i64 1, .int .i64 4] 52 := RX.set_other 2 (.int .i64 4) (by omega)
  have HB4 : Below w.heap.size w (w3.setCell ⟨w.heap.size, 2, none⟩ (.int .i64 4)).drew.drew := below_drew (below_drew (below_setB HB3 (Nat.le_refl _) _))
  generalize (w3.setCell ⟨w.heap.size, 2, none⟩ (.int .i64 4)).drew.drew = w4 at *
  clear RX RC3 HB3 f0 f1 f2 g0 gz
  go_upto_region 9 with (first | (apply wpl_loadS (ty := 50); rfl; rfl; rfl; kernel_rfl; (first | assumption | exact Row.new _ _ _ | (apply Row.alloc; (first | assumption | exact Row.new _ _ _ | (apply Row.alloc; (first | assumption | exact Row.new _ _ _))))); kernel_rfl; simp only [Act.put, List.setIfInBounds_toArray, List.set_cons_zero, List.set_cons_succ]) | (go_at_call 36; (with_reducible refine (c_okI21 _).mono ?_); rintro e w5 ⟨rfl, hb5⟩))
  have R5 := R4.below hb5 R4.lt
  have X5 := X4.below hb5 X4.lt
  have HB5 := below_two HB4 hb5
  clear R4 X4 HB4 hb5
  have f0 := X5.cell 0 rfl
  have g0 := R5.cell 2 rfl
  have gz := R5.free
  go_upto_region 10 with (fail)
  have R6 : Row (w5.setCell ⟨w.heap.size, 2, none⟩ (.int .i64 (5))) w.heap.size #[.int .i64 4, .int .i64 8, .int .i64 5, .int .i64 4, .int .i64 16, .int .i64 8, .int .i64 3, .int .i64 20, .int .i64 4, .float .f64 4602678819172646912] 50 := R5.set 2 (.int .i64 (5))
  have HB6 : Below w.heap.size w (w5.setCell ⟨w.heap.size, 2, none⟩ (.int .i64 (5))) := below_setB HB5 (Nat.le_refl _) _
  generalize w5.setCell ⟨w.heap.size, 2, none⟩ (.int .i64 (5)) = w6 at *
  clear R5 X5 HB5 f0 g0 gz
  go_upto_region 11 with (first | (apply wpl_loadS (ty := 50); rfl; rfl; rfl; kernel_rfl; (first | assumption | exact Row.new _ _ _ | (apply Row.alloc; (first | assumption | exact Row.new _ _ _ | (apply Row.alloc; (first | assumption | exact Row.new _ _ _))))); kernel_rfl; simp only [Act.put, List.setIfInBounds_toArray, List.set_cons_zero, List.set_cons_succ]) | (go_at_call 37; (with_reducible refine (c_bdO21 _).mono ?_); rintro e w7 ⟨rfl, hb7⟩))
  have R8 := (R6.below hb7 R6.lt).alloc (.cells #[.int .i64 0, .int .i64 0, .int .i64 0, .int .i64 0, .int .i64 0, .int .i64 0, .int .i64 0, .int .i64 0, .int .i64 0, .int .i64 0, .int .i64 0, .int .i64 0, .int .i64 0] 56)
  have HB8 := below_alloc (below_two HB6 hb7) (.cells #[.int .i64 0, .int .i64 0, .int .i64 0, .int .i64 0, .int .i64 0, .int .i64 0, .int .i64 0, .int .i64 0, .int .i64 0, .int .i64 0, .int .i64 0, .int .i64 0, .int .i64 0] 56)
  generalize w7.alloc (.cells #[.int .i64 0, .int .i64 0, .int .i64 0, .int .i64 0, .int .i64 0, .int .i64 0, .int .i64 0, .int .i64 0, .int .i64 0, .int .i64 0, .int .i64 0, .int .i64 0, .int .i64 0] 56) = w8 at *
  clear R6 HB6 hb7
  go_wp2_with (first | (apply wpl_loadS (ty := 50); rfl; rfl; rfl; kernel_rfl; (first | assumption | exact Row.new _ _ _ | (apply Row.alloc; (first | assumption | exact Row.new _ _ _ | (apply Row.alloc; (first | assumption | exact Row.new _ _ _))))); kernel_rfl; simp only [Act.put, List.setIfInBounds_toArray, List.set_cons_zero, List.set_cons_succ]) | (go_at_call 36; (with_reducible refine (c_okO21 _).mono ?_); rintro e w9 ⟨rfl, hb9⟩) | (go_at_call 38; refine (c_awake20 _).mono ?_; rintro e w10 ⟨rfl, hb10⟩))
  go_ret
  exact ⟨rfl, below_two HB8 (below_two hb9 hb10)⟩
end Go.Proofs.Ytldeohbfhigagaa
