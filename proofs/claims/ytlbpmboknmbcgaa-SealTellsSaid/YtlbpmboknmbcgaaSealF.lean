/- The walk of seal.Open. -/
import Derived.Test.YtlbpmboknmbcgaaSealE
import Derived.Test.YtlbpmboknmbcgaaEqB
import Derived.Laws.Cover3
set_option linter.unusedVariables false
set_option linter.unusedSimpArgs false
namespace Go.Proofs.Ytlbpmboknmbcgaa
open Go.RowKit

theorem linN_hotLoad {P : Program} {R0 R1 : World → World → Prop} {ops : Array Oper} {Q : Exit → Act → World → Prop} {i : Nat} {t : ON} {a : Act} {w : World} {o : Oper} {ty : TypeId} {x : Operand} {ad : Addr} {vs : List Value} (hi : ops[i]? = some o) (hw : Region.wanted o (yielded ops a.tmps) = true)
    (ho : o.op = .load ty x) (hx : a.eval x = .pointer (some ad)) (ha : ∀ w', (isAgg ty).run P w' = .ok true w') (hsz : (P.info? ty).map (·.size) = some vs.length) (hc : ∀ w', R1 w w' → ∀ j v, vs[j]? = some v → w'.cell? (ad.add j) = some v)
    (h : LinN P R0 R1 ops Q t (a.put o.dst (.agg vs.toArray)) w) : LinN P R0 R1 ops Q (.hot i t) a w :=
  linN_hot hi hw (fun w' hR => run_loadO ho hx (ha w') hsz (hc w' hR)) h
/-- what Open answers -/
def OpenRes (key b : List UInt8) (B : Nat) (e : Ending) (w' : World) : Prop :=
  (∀ p, openL key b = some p → ∃ v, e = .returned (.tuple #[v, .int .u32 (bootN b : Nat), .int .u64 (seqN b : Nat), .bool true]) ∧ OwnB w' B 5 v p) ∧
  (openL key b = none → e = .returned (.tuple #[.slice none 0 0, .int .u32 0, .int .u64 0, .bool false]))
theorem openL_short {key b : List UInt8} (h : b.length < 22) : openL key b = none := by unfold openL; rw [if_neg (by omega)]
theorem openL_off {key b : List UInt8} (h : 60000 < b.length - 22 ∨ unpadL (openP key b) (b.length - 22) = none) : openL key b = none := by
  unfold openL
  split
  · rename_i hc
    rcases h with h | h
    · omega
    · exact h
  · rfl
theorem openL_unmet {key b : List UInt8} (h : metB key b = false) : openL key b = none := by unfold openL; rw [if_neg (by rw [h]; simp)]
theorem openL_met {key b p : List UInt8} (h1 : 22 ≤ b.length) (h2 : b.length - 22 ≤ 60000) (h3 : metB key b = true) (h4 : unpadL (openP key b) (b.length - 22) = some p) : openL key b = some p := by
  unfold openL
  rw [if_pos ⟨h1, by omega, h3⟩, h4]
theorem openRes_no {key b : List UInt8} {B : Nat} {w' : World} (h : openL key b = none) : OpenRes key b B (.returned (.tuple #[.slice none 0 0, .int .u32 0, .int .u64 0, .bool false])) w' :=
  ⟨fun p hp => (by rw [h] at hp; cases hp), fun _ => rfl⟩
theorem openRes_yes {key b p : List UInt8} {B : Nat} {w' : World} {v : Value} (h : openL key b = some p) (ho : OwnB w' B 5 v p) : OpenRes key b B (.returned (.tuple #[v, .int .u32 (bootN b : Nat), .int .u64 (seqN b : Nat), .bool true])) w' :=
  ⟨fun q hq => (by rw [h] at hq; cases hq; exact ⟨v, rfl, ho⟩), fun hn => (by rw [h] at hn; cases hn)⟩
structure IsOpen (key b h P S : List UInt8) : Prop where
  hd : b.take 12 = h
  p : openP key b = P
  s : openS key b = S
set_option maxHeartbeats 2000000 in
set_option maxRecDepth 100000 in
theorem c_open (key : List UInt8) (hk : key.length = 32) (A : Option Addr) (n c : Nat) (b : List UInt8) (w : World) (hR : RdB w A n b) (hc : n ≤ c) (hn : n ≤ 1000000) :
    Calls Try.prog 40 #[.agg (bv key).toArray, .slice A n c] w fun e w' => OpenRes key b w.heap.size e w' ∧ Below w.heap.size w w' := by
  have HK := Lib.hid hk
  clear hk
  have r0 := Row.new w (bv key).toArray 48
  have hB0 := below_alloc (Below.refl w.heap.size w) (.cells (bv key).toArray 48)
  have hR0 := hR.below hB0 (Nat.le_refl _)
  have hz0 : (w.alloc (.cells (bv key).toArray 48)).heap.size = w.heap.size + 1 := by simp
  have hbl := hR.len
  by_cases h22 : n < 22
  · have h22' : (n : Int) < 22 := by omega
    have hno := openL_short (key := key) (b := b) (by omega)
    have HNO := Lib.hid (openRes_no (B := w.heap.size) (w' := w.alloc (.cells (bv key).toArray 48)) hno)
    clear hno r0 hR0 hz0 hbl
    go_enter Try.func40, Try.ntmps40
    go_wp2
    refine bodyPost_ret (v := .tuple #[.slice none 0 0, .int .u32 0, .int .u64 0, .bool false]) (by simp [results, Try.results40]) rfl ⟨HNO.out, hB0⟩
  · have h22' : ¬ (n : Int) < 22 := by omega
    obtain ⟨ad, rfl, hcell⟩ := hR0.2 (by omega)
    obtain ⟨A1, e1, r1⟩ := cut_to hR0 hc 12 12 rfl (by omega)
    obtain ⟨A2, e2, r2⟩ := cut_from hR0 hc 12 12 rfl (by omega)
    have HBL := Lib.hid hbl
    clear hR hbl
    go_enter Try.func40, Try.ntmps40
    go_upto_region 3 with fail
    generalize w.alloc (.cells (bv key).toArray 48) = w0 at *
    have hh : (b.take 12).length = 12 := by rw [List.length_take, HBL.out]; omega
    have HH := Lib.hid hh
    have hall := bv_all (b.take 12)
    have harr := run_arrayAt (P := Try.prog) w0 30 5 12 A1 12 c Try.underlying30 (Nat.le_refl _)
    obtain ⟨ad1, rfl, hc1⟩ := r1.2 (by decide)
    have HD : IsOpen key b (b.take 12) (openP key b) (openS key b) := ⟨rfl, rfl, rfl⟩
    have hdp : (b.drop 12).length = n - 12 := by rw [List.length_drop, HBL.out]
    have HDP := Lib.hid hdp
    clear hh hdp
    generalize b.take 12 = H at *
    go_upto_region 4 with (first | (apply wpl_loadR (ty := 30) (bv H); rfl; rfl; rfl; kernel_rfl; (rw [bv_length, HH.out]; kernel_rfl); exact hc1; simp only [Act.put, List.setIfInBounds_toArray, List.set_cons_zero, List.set_cons_succ]) | (apply wpl_storeN; rfl; rfl; rfl; (first | rfl | exact hz0); rfl; (simp only [List.size_toArray, bv_length, HH.out]; kernel_rfl); (simp only [List.size_toArray, bv_length, HH.out]; rfl); exact hall; simp only [Act.put]))
    have r8 := Row.new w0 (bv H).toArray 30
    rw [hz0] at r8
    have hb1 := below_alloc (Below.refl w0.heap.size w0) (.cells (bv H).toArray 30)
    have k0 := r0.below hb1 r0.lt
    have hr2 := r2.below hb1 (Nat.le_refl _)
    have hB1 := below_two hB0 hb1
    have hz1 : w.heap.size + 1 < (w0.alloc (.cells (bv H).toArray 30)).heap.size := r8.lt
    clear r0 r1 r2 hB0 hR0 hb1 harr hcell hc1 hz0 e1
    generalize w0.alloc (.cells (bv H).toArray 30) = w1 at *
    generalize w.heap.size + 1 = g8 at *
    have hxl : (xorL key H (b.drop 12)).length = n - 12 := by rw [xorL_length, HDP.out]
    have HXL := Lib.hid hxl
    have HXC := c_xor key H HK.out HH.out A2 (c - 12) (b.drop 12) w1.drew (by rw [HDP.out]; exact hr2) (by rw [HDP.out]; omega)
    rw [HDP.out] at HXC
    have HX2 := Lib.hid HXC
    have hop : (xorL key H (b.drop 12)).take (n - 20) = openP key b := by unfold openP; rw [HD.hd, HBL.out]
    have hos : (xorL key H (b.drop 12)).drop (n - 20) = openS key b := by unfold openS; rw [HD.hd, HBL.out]
    have HOP := Lib.hid hop
    have HOS := Lib.hid hos
    clear hxl HXC hop hos
    generalize xorL key H (b.drop 12) = X at *
    (refine wp_region_linN (Below w1.heap.size) (Below w1.heap.size) (wayB _) (wayB _) (fun _ _ h => h) (.hot 0 (.hot 1 (.free 2 (.free 3 (.op 4 [(0, 4), (1, 4)] [] [] (.free 5 (.free 6 (.free 7 (.free 8 (.free 9 .nil)))))))))) rfl (by kernel_rfl) (by kernel_rfl) (fun _ _ _ _ _ h => h) ?_; (first | (apply linN_hotLoad (ty := 48) (vs := bv key); (simp only [List.getElem?_toArray, List.getElem?_cons_succ, List.getElem?_cons_zero]; rfl); (rfl); (rfl); (rfl); (intro _; kernel_rfl); (rw [bv_length, HK.out]; kernel_rfl); (intro w' hR; exact row_cells ((show Row w1.drew _ _ _ from k0).below hR k0.lt)); try simp only [Act.put, List.setIfInBounds_toArray, List.set_cons_zero, List.set_cons_succ]) | (apply linN_hotLoad (ty := 30) (vs := bv H); (simp only [List.getElem?_toArray, List.getElem?_cons_succ, List.getElem?_cons_zero]; rfl); (rfl); (rfl); (rfl); (intro _; kernel_rfl); (rw [bv_length, HH.out]; kernel_rfl); (intro w' hR; exact row_cells ((show Row w1.drew _ _ _ from r8).below hR r8.lt)); try simp only [Act.put, List.setIfInBounds_toArray, List.set_cons_zero, List.set_cons_succ]) | (apply linN_hot; (simp only [List.getElem?_toArray, List.getElem?_cons_succ, List.getElem?_cons_zero]; rfl); (rfl); (intro w' hb'; (first | (go_simp; done) | (go_simp; with_reducible rfl) | (go_simp; go_bits; with_reducible rfl) | (go_simp; go_bits; done))); try simp only [Act.put, List.setIfInBounds_toArray, List.set_cons_zero, List.set_cons_succ]) | (apply linN_hotSkip; (simp only [List.getElem?_toArray, List.getElem?_cons_succ, List.getElem?_cons_zero]; rfl); (rfl); try simp only [Act.put, List.setIfInBounds_toArray, List.set_cons_zero, List.set_cons_succ])); (first | (apply linN_hotLoad (ty := 48) (vs := bv key); (simp only [List.getElem?_toArray, List.getElem?_cons_succ, List.getElem?_cons_zero]; rfl); (rfl); (rfl); (rfl); (intro _; kernel_rfl); (rw [bv_length, HK.out]; kernel_rfl); (intro w' hR; exact row_cells ((show Row w1.drew _ _ _ from k0).below hR k0.lt)); try simp only [Act.put, List.setIfInBounds_toArray, List.set_cons_zero, List.set_cons_succ]) | (apply linN_hotLoad (ty := 30) (vs := bv H); (simp only [List.getElem?_toArray, List.getElem?_cons_succ, List.getElem?_cons_zero]; rfl); (rfl); (rfl); (rfl); (intro _; kernel_rfl); (rw [bv_length, HH.out]; kernel_rfl); (intro w' hR; exact row_cells ((show Row w1.drew _ _ _ from r8).below hR r8.lt)); try simp only [Act.put, List.setIfInBounds_toArray, List.set_cons_zero, List.set_cons_succ]) | (apply linN_hot; (simp only [List.getElem?_toArray, List.getElem?_cons_succ, List.getElem?_cons_zero]; rfl); (rfl); (intro w' hb'; (first | (go_simp; done) | (go_simp; with_reducible rfl) | (go_simp; go_bits; with_reducible rfl) | (go_simp; go_bits; done))); try simp only [Act.put, List.setIfInBounds_toArray, List.set_cons_zero, List.set_cons_succ]) | (apply linN_hotSkip; (simp only [List.getElem?_toArray, List.getElem?_cons_succ, List.getElem?_cons_zero]; rfl); (rfl); try simp only [Act.put, List.setIfInBounds_toArray, List.set_cons_zero, List.set_cons_succ])); (first | (apply linN_hotLoad (ty := 48) (vs := bv key); (simp only [List.getElem?_toArray, List.getElem?_cons_succ, List.getElem?_cons_zero]; rfl); (rfl); (rfl); (rfl); (intro _; kernel_rfl); (rw [bv_length, HK.out]; kernel_rfl); (intro w' hR; exact row_cells ((show Row w1.drew _ _ _ from k0).below hR k0.lt)); try simp only [Act.put, List.setIfInBounds_toArray, List.set_cons_zero, List.set_cons_succ]) | (apply linN_hotLoad (ty := 30) (vs := bv H); (simp only [List.getElem?_toArray, List.getElem?_cons_succ, List.getElem?_cons_zero]; rfl); (rfl); (rfl); (rfl); (intro _; kernel_rfl); (rw [bv_length, HH.out]; kernel_rfl); (intro w' hR; exact row_cells ((show Row w1.drew _ _ _ from r8).below hR r8.lt)); try simp only [Act.put, List.setIfInBounds_toArray, List.set_cons_zero, List.set_cons_succ]) | (apply linN_free; (simp only [List.getElem?_toArray, List.getElem?_cons_succ, List.getElem?_cons_zero]; rfl); (rfl); (intro w'; (first | (go_simp; done) | (go_simp; with_reducible rfl) | (go_simp; go_bits; with_reducible rfl) | (go_simp; go_bits; done))); try simp only [Act.put, List.setIfInBounds_toArray, List.set_cons_zero, List.set_cons_succ]) | (apply linN_freeSkip; (simp only [List.getElem?_toArray, List.getElem?_cons_succ, List.getElem?_cons_zero]; rfl); (rfl); try simp only [Act.put, List.setIfInBounds_toArray, List.set_cons_zero, List.set_cons_succ])); (first | (apply linN_hotLoad (ty := 48) (vs := bv key); (simp only [List.getElem?_toArray, List.getElem?_cons_succ, List.getElem?_cons_zero]; rfl); (rfl); (rfl); (rfl); (intro _; kernel_rfl); (rw [bv_length, HK.out]; kernel_rfl); (intro w' hR; exact row_cells ((show Row w1.drew _ _ _ from k0).below hR k0.lt)); try simp only [Act.put, List.setIfInBounds_toArray, List.set_cons_zero, List.set_cons_succ]) | (apply linN_hotLoad (ty := 30) (vs := bv H); (simp only [List.getElem?_toArray, List.getElem?_cons_succ, List.getElem?_cons_zero]; rfl); (rfl); (rfl); (rfl); (intro _; kernel_rfl); (rw [bv_length, HH.out]; kernel_rfl); (intro w' hR; exact row_cells ((show Row w1.drew _ _ _ from r8).below hR r8.lt)); try simp only [Act.put, List.setIfInBounds_toArray, List.set_cons_zero, List.set_cons_succ]) | (apply linN_free; (simp only [List.getElem?_toArray, List.getElem?_cons_succ, List.getElem?_cons_zero]; rfl); (rfl); (intro w'; (first | (go_simp; done) | (go_simp; with_reducible rfl) | (go_simp; go_bits; with_reducible rfl) | (go_simp; go_bits; done))); try simp only [Act.put, List.setIfInBounds_toArray, List.set_cons_zero, List.set_cons_succ]) | (apply linN_freeSkip; (simp only [List.getElem?_toArray, List.getElem?_cons_succ, List.getElem?_cons_zero]; rfl); (rfl); try simp only [Act.put, List.setIfInBounds_toArray, List.set_cons_zero, List.set_cons_succ])); (first | (apply linN_pass (wayB _) (wayB _); (simp only [List.getElem?_toArray, List.getElem?_cons_succ, List.getElem?_cons_zero]; rfl); (rfl); try simp only [Act.put, List.setIfInBounds_toArray, List.set_cons_zero, List.set_cons_succ]) | (apply linN_op; (simp only [List.getElem?_toArray, List.getElem?_cons_succ, List.getElem?_cons_zero]; rfl); (rfl); intro K hK; (first | (go_simp; (first | (go_at_call 72; (with_reducible refine HX2.out.mono ?_); rintro e w2 ⟨v2, rfl, ho2, hb2⟩) | skip))); refine hK _ _ ?_ ?_; (exact trivial); clear hK; try simp only [Act.put, List.setIfInBounds_toArray, List.set_cons_zero, List.set_cons_succ])); (first | (apply linN_hotLoad (ty := 48) (vs := bv key); (simp only [List.getElem?_toArray, List.getElem?_cons_succ, List.getElem?_cons_zero]; rfl); (rfl); (rfl); (rfl); (intro _; kernel_rfl); (rw [bv_length, HK.out]; kernel_rfl); (intro w' hR; exact row_cells ((show Row w1.drew _ _ _ from k0).below hR k0.lt)); try simp only [Act.put, List.setIfInBounds_toArray, List.set_cons_zero, List.set_cons_succ]) | (apply linN_hotLoad (ty := 30) (vs := bv H); (simp only [List.getElem?_toArray, List.getElem?_cons_succ, List.getElem?_cons_zero]; rfl); (rfl); (rfl); (rfl); (intro _; kernel_rfl); (rw [bv_length, HH.out]; kernel_rfl); (intro w' hR; exact row_cells ((show Row w1.drew _ _ _ from r8).below hR r8.lt)); try simp only [Act.put, List.setIfInBounds_toArray, List.set_cons_zero, List.set_cons_succ]) | (apply linN_free; (simp only [List.getElem?_toArray, List.getElem?_cons_succ, List.getElem?_cons_zero]; rfl); (rfl); (intro w'; (first | (go_simp; done) | (go_simp; with_reducible rfl) | (go_simp; go_bits; with_reducible rfl) | (go_simp; go_bits; done))); try simp only [Act.put, List.setIfInBounds_toArray, List.set_cons_zero, List.set_cons_succ]) | (apply linN_freeSkip; (simp only [List.getElem?_toArray, List.getElem?_cons_succ, List.getElem?_cons_zero]; rfl); (rfl); try simp only [Act.put, List.setIfInBounds_toArray, List.set_cons_zero, List.set_cons_succ])); (first | (apply linN_hotLoad (ty := 48) (vs := bv key); (simp only [List.getElem?_toArray, List.getElem?_cons_succ, List.getElem?_cons_zero]; rfl); (rfl); (rfl); (rfl); (intro _; kernel_rfl); (rw [bv_length, HK.out]; kernel_rfl); (intro w' hR; exact row_cells ((show Row w1.drew _ _ _ from k0).below hR k0.lt)); try simp only [Act.put, List.setIfInBounds_toArray, List.set_cons_zero, List.set_cons_succ]) | (apply linN_hotLoad (ty := 30) (vs := bv H); (simp only [List.getElem?_toArray, List.getElem?_cons_succ, List.getElem?_cons_zero]; rfl); (rfl); (rfl); (rfl); (intro _; kernel_rfl); (rw [bv_length, HH.out]; kernel_rfl); (intro w' hR; exact row_cells ((show Row w1.drew _ _ _ from r8).below hR r8.lt)); try simp only [Act.put, List.setIfInBounds_toArray, List.set_cons_zero, List.set_cons_succ]) | (apply linN_free; (simp only [List.getElem?_toArray, List.getElem?_cons_succ, List.getElem?_cons_zero]; rfl); (rfl); (intro w'; (first | (go_simp; done) | (go_simp; with_reducible rfl) | (go_simp; go_bits; with_reducible rfl) | (go_simp; go_bits; done))); try simp only [Act.put, List.setIfInBounds_toArray, List.set_cons_zero, List.set_cons_succ]) | (apply linN_freeSkip; (simp only [List.getElem?_toArray, List.getElem?_cons_succ, List.getElem?_cons_zero]; rfl); (rfl); try simp only [Act.put, List.setIfInBounds_toArray, List.set_cons_zero, List.set_cons_succ])); (first | (apply linN_hotLoad (ty := 48) (vs := bv key); (simp only [List.getElem?_toArray, List.getElem?_cons_succ, List.getElem?_cons_zero]; rfl); (rfl); (rfl); (rfl); (intro _; kernel_rfl); (rw [bv_length, HK.out]; kernel_rfl); (intro w' hR; exact row_cells ((show Row w1.drew _ _ _ from k0).below hR k0.lt)); try simp only [Act.put, List.setIfInBounds_toArray, List.set_cons_zero, List.set_cons_succ]) | (apply linN_hotLoad (ty := 30) (vs := bv H); (simp only [List.getElem?_toArray, List.getElem?_cons_succ, List.getElem?_cons_zero]; rfl); (rfl); (rfl); (rfl); (intro _; kernel_rfl); (rw [bv_length, HH.out]; kernel_rfl); (intro w' hR; exact row_cells ((show Row w1.drew _ _ _ from r8).below hR r8.lt)); try simp only [Act.put, List.setIfInBounds_toArray, List.set_cons_zero, List.set_cons_succ]) | (apply linN_free; (simp only [List.getElem?_toArray, List.getElem?_cons_succ, List.getElem?_cons_zero]; rfl); (rfl); (intro w'; (first | (go_simp; done) | (go_simp; with_reducible rfl) | (go_simp; go_bits; with_reducible rfl) | (go_simp; go_bits; done))); try simp only [Act.put, List.setIfInBounds_toArray, List.set_cons_zero, List.set_cons_succ]) | (apply linN_freeSkip; (simp only [List.getElem?_toArray, List.getElem?_cons_succ, List.getElem?_cons_zero]; rfl); (rfl); try simp only [Act.put, List.setIfInBounds_toArray, List.set_cons_zero, List.set_cons_succ])); (first | (apply linN_hotLoad (ty := 48) (vs := bv key); (simp only [List.getElem?_toArray, List.getElem?_cons_succ, List.getElem?_cons_zero]; rfl); (rfl); (rfl); (rfl); (intro _; kernel_rfl); (rw [bv_length, HK.out]; kernel_rfl); (intro w' hR; exact row_cells ((show Row w1.drew _ _ _ from k0).below hR k0.lt)); try simp only [Act.put, List.setIfInBounds_toArray, List.set_cons_zero, List.set_cons_succ]) | (apply linN_hotLoad (ty := 30) (vs := bv H); (simp only [List.getElem?_toArray, List.getElem?_cons_succ, List.getElem?_cons_zero]; rfl); (rfl); (rfl); (rfl); (intro _; kernel_rfl); (rw [bv_length, HH.out]; kernel_rfl); (intro w' hR; exact row_cells ((show Row w1.drew _ _ _ from r8).below hR r8.lt)); try simp only [Act.put, List.setIfInBounds_toArray, List.set_cons_zero, List.set_cons_succ]) | (apply linN_free; (simp only [List.getElem?_toArray, List.getElem?_cons_succ, List.getElem?_cons_zero]; rfl); (rfl); (intro w'; (first | (go_simp; done) | (go_simp; with_reducible rfl) | (go_simp; go_bits; with_reducible rfl) | (go_simp; go_bits; done))); try simp only [Act.put, List.setIfInBounds_toArray, List.set_cons_zero, List.set_cons_succ]) | (apply linN_freeSkip; (simp only [List.getElem?_toArray, List.getElem?_cons_succ, List.getElem?_cons_zero]; rfl); (rfl); try simp only [Act.put, List.setIfInBounds_toArray, List.set_cons_zero, List.set_cons_succ])); (first | (apply linN_hotLoad (ty := 48) (vs := bv key); (simp only [List.getElem?_toArray, List.getElem?_cons_succ, List.getElem?_cons_zero]; rfl); (rfl); (rfl); (rfl); (intro _; kernel_rfl); (rw [bv_length, HK.out]; kernel_rfl); (intro w' hR; exact row_cells ((show Row w1.drew _ _ _ from k0).below hR k0.lt)); try simp only [Act.put, List.setIfInBounds_toArray, List.set_cons_zero, List.set_cons_succ]) | (apply linN_hotLoad (ty := 30) (vs := bv H); (simp only [List.getElem?_toArray, List.getElem?_cons_succ, List.getElem?_cons_zero]; rfl); (rfl); (rfl); (rfl); (intro _; kernel_rfl); (rw [bv_length, HH.out]; kernel_rfl); (intro w' hR; exact row_cells ((show Row w1.drew _ _ _ from r8).below hR r8.lt)); try simp only [Act.put, List.setIfInBounds_toArray, List.set_cons_zero, List.set_cons_succ]) | (apply linN_free; (simp only [List.getElem?_toArray, List.getElem?_cons_succ, List.getElem?_cons_zero]; rfl); (rfl); (intro w'; (first | (go_simp; done) | (go_simp; with_reducible rfl) | (go_simp; go_bits; with_reducible rfl) | (go_simp; go_bits; done))); try simp only [Act.put, List.setIfInBounds_toArray, List.set_cons_zero, List.set_cons_succ]) | (apply linN_freeSkip; (simp only [List.getElem?_toArray, List.getElem?_cons_succ, List.getElem?_cons_zero]; rfl); (rfl); try simp only [Act.put, List.setIfInBounds_toArray, List.set_cons_zero, List.set_cons_succ])); refine linN_end ?_)
    obtain ⟨A3, c3, rfl, lc3, -, hr3⟩ := ho2.form
    rw [HXL.out] at hr3 lc3 ⊢
    have hd1 : w1.drew.heap.size = w1.heap.size := rfl
    have hB2 := below_two (below_drew hB1) hb2
    have k8 := (show Row w1.drew _ _ _ from r8).below hb2 hz1
    have hsz2 := hb2.size
    clear hd1 k0 r8 hr2 hB1 ho2 hb2 HX2 e2
    have hi1 : IntKind.i64.wrap (((n - 12 : Nat) : Int) - 8) = ((n - 12 : Nat) : Int) - 8 := IntWalk.i64_in _ (by omega)
    have hi2 : 0 ≤ ((n - 12 : Nat) : Int) - 8 := by omega
    obtain ⟨A4, e4, r4⟩ := cut_to hr3 lc3 (((n - 12 : Nat) : Int) - 8) (n - 20) (by omega) (by omega)
    obtain ⟨A5, e5, r5⟩ := cut_from hr3 lc3 (((n - 12 : Nat) : Int) - 8) (n - 20) (by omega) (by omega)
    rw [show n - 12 - (n - 20) = 8 by omega] at e5 r5
    rw [HOP.out] at r4
    rw [HOS.out] at r5
    have hpl : (openP key b).length = n - 20 := by rw [← HOP.out, List.length_take, HXL.out]; omega
    have HPL := Lib.hid hpl
    clear hpl hr3
    go_upto_region 5 with fail
    (refine wp_region_linN (Below w2.heap.size) (Below w2.heap.size) (wayB _) (wayB _) (fun _ _ h => h) (.free 0 (.free 1 (.free 2 (.free 3 (.free 4 (.free 5 (.free 6 (.free 7 (.free 8 (.free 9 (.free 10 (.free 11 .nil)))))))))))) rfl (by kernel_rfl) (by kernel_rfl) (fun _ _ _ _ _ h => h) ?_; (first | (apply linN_free; (simp only [List.getElem?_toArray, List.getElem?_cons_succ, List.getElem?_cons_zero]; rfl); (rfl); (intro w'; (first | (go_simp; done) | (go_simp; with_reducible rfl) | (go_simp; go_bits; with_reducible rfl) | (go_simp; go_bits; done))); try simp only [Act.put, List.setIfInBounds_toArray, List.set_cons_zero, List.set_cons_succ]) | (apply linN_freeSkip; (simp only [List.getElem?_toArray, List.getElem?_cons_succ, List.getElem?_cons_zero]; rfl); (rfl); try simp only [Act.put, List.setIfInBounds_toArray, List.set_cons_zero, List.set_cons_succ])); (first | (apply linN_free; (simp only [List.getElem?_toArray, List.getElem?_cons_succ, List.getElem?_cons_zero]; rfl); (rfl); (intro w'; (first | (go_simp; done) | (go_simp; with_reducible rfl) | (go_simp; go_bits; with_reducible rfl) | (go_simp; go_bits; done))); try simp only [Act.put, List.setIfInBounds_toArray, List.set_cons_zero, List.set_cons_succ]) | (apply linN_freeSkip; (simp only [List.getElem?_toArray, List.getElem?_cons_succ, List.getElem?_cons_zero]; rfl); (rfl); try simp only [Act.put, List.setIfInBounds_toArray, List.set_cons_zero, List.set_cons_succ])); (first | (apply linN_free; (simp only [List.getElem?_toArray, List.getElem?_cons_succ, List.getElem?_cons_zero]; rfl); (rfl); (intro w'; (first | (go_simp; done) | (go_simp; with_reducible rfl) | (go_simp; go_bits; with_reducible rfl) | (go_simp; go_bits; done))); try simp only [Act.put, List.setIfInBounds_toArray, List.set_cons_zero, List.set_cons_succ]) | (apply linN_freeSkip; (simp only [List.getElem?_toArray, List.getElem?_cons_succ, List.getElem?_cons_zero]; rfl); (rfl); try simp only [Act.put, List.setIfInBounds_toArray, List.set_cons_zero, List.set_cons_succ])); (first | (apply linN_free; (simp only [List.getElem?_toArray, List.getElem?_cons_succ, List.getElem?_cons_zero]; rfl); (rfl); (intro w'; (first | (go_simp; done) | (go_simp; with_reducible rfl) | (go_simp; go_bits; with_reducible rfl) | (go_simp; go_bits; done))); try simp only [Act.put, List.setIfInBounds_toArray, List.set_cons_zero, List.set_cons_succ]) | (apply linN_freeSkip; (simp only [List.getElem?_toArray, List.getElem?_cons_succ, List.getElem?_cons_zero]; rfl); (rfl); try simp only [Act.put, List.setIfInBounds_toArray, List.set_cons_zero, List.set_cons_succ])); (first | (apply linN_free; (simp only [List.getElem?_toArray, List.getElem?_cons_succ, List.getElem?_cons_zero]; rfl); (rfl); (intro w'; (first | (go_simp; done) | (go_simp; with_reducible rfl) | (go_simp; go_bits; with_reducible rfl) | (go_simp; go_bits; done))); try simp only [Act.put, List.setIfInBounds_toArray, List.set_cons_zero, List.set_cons_succ]) | (apply linN_freeSkip; (simp only [List.getElem?_toArray, List.getElem?_cons_succ, List.getElem?_cons_zero]; rfl); (rfl); try simp only [Act.put, List.setIfInBounds_toArray, List.set_cons_zero, List.set_cons_succ])); (first | (apply linN_free; (simp only [List.getElem?_toArray, List.getElem?_cons_succ, List.getElem?_cons_zero]; rfl); (rfl); (intro w'; (first | (go_simp; done) | (go_simp; with_reducible rfl) | (go_simp; go_bits; with_reducible rfl) | (go_simp; go_bits; done))); try simp only [Act.put, List.setIfInBounds_toArray, List.set_cons_zero, List.set_cons_succ]) | (apply linN_freeSkip; (simp only [List.getElem?_toArray, List.getElem?_cons_succ, List.getElem?_cons_zero]; rfl); (rfl); try simp only [Act.put, List.setIfInBounds_toArray, List.set_cons_zero, List.set_cons_succ])); (first | (apply linN_free; (simp only [List.getElem?_toArray, List.getElem?_cons_succ, List.getElem?_cons_zero]; rfl); (rfl); (intro w'; (first | (go_simp; done) | (go_simp; with_reducible rfl) | (go_simp; go_bits; with_reducible rfl) | (go_simp; go_bits; done))); try simp only [Act.put, List.setIfInBounds_toArray, List.set_cons_zero, List.set_cons_succ]) | (apply linN_freeSkip; (simp only [List.getElem?_toArray, List.getElem?_cons_succ, List.getElem?_cons_zero]; rfl); (rfl); try simp only [Act.put, List.setIfInBounds_toArray, List.set_cons_zero, List.set_cons_succ])); (first | (apply linN_free; (simp only [List.getElem?_toArray, List.getElem?_cons_succ, List.getElem?_cons_zero]; rfl); (rfl); (intro w'; (first | (go_simp; done) | (go_simp; with_reducible rfl) | (go_simp; go_bits; with_reducible rfl) | (go_simp; go_bits; done))); try simp only [Act.put, List.setIfInBounds_toArray, List.set_cons_zero, List.set_cons_succ]) | (apply linN_freeSkip; (simp only [List.getElem?_toArray, List.getElem?_cons_succ, List.getElem?_cons_zero]; rfl); (rfl); try simp only [Act.put, List.setIfInBounds_toArray, List.set_cons_zero, List.set_cons_succ])); (first | (apply linN_free; (simp only [List.getElem?_toArray, List.getElem?_cons_succ, List.getElem?_cons_zero]; rfl); (rfl); (intro w'; (first | (go_simp; done) | (go_simp; with_reducible rfl) | (go_simp; go_bits; with_reducible rfl) | (go_simp; go_bits; done))); try simp only [Act.put, List.setIfInBounds_toArray, List.set_cons_zero, List.set_cons_succ]) | (apply linN_freeSkip; (simp only [List.getElem?_toArray, List.getElem?_cons_succ, List.getElem?_cons_zero]; rfl); (rfl); try simp only [Act.put, List.setIfInBounds_toArray, List.set_cons_zero, List.set_cons_succ])); (first | (apply linN_free; (simp only [List.getElem?_toArray, List.getElem?_cons_succ, List.getElem?_cons_zero]; rfl); (rfl); (intro w'; (first | (go_simp; done) | (go_simp; with_reducible rfl) | (go_simp; go_bits; with_reducible rfl) | (go_simp; go_bits; done))); try simp only [Act.put, List.setIfInBounds_toArray, List.set_cons_zero, List.set_cons_succ]) | (apply linN_freeSkip; (simp only [List.getElem?_toArray, List.getElem?_cons_succ, List.getElem?_cons_zero]; rfl); (rfl); try simp only [Act.put, List.setIfInBounds_toArray, List.set_cons_zero, List.set_cons_succ])); (first | (apply linN_free; (simp only [List.getElem?_toArray, List.getElem?_cons_succ, List.getElem?_cons_zero]; rfl); (rfl); (intro w'; (first | (go_simp; done) | (go_simp; with_reducible rfl) | (go_simp; go_bits; with_reducible rfl) | (go_simp; go_bits; done))); try simp only [Act.put, List.setIfInBounds_toArray, List.set_cons_zero, List.set_cons_succ]) | (apply linN_freeSkip; (simp only [List.getElem?_toArray, List.getElem?_cons_succ, List.getElem?_cons_zero]; rfl); (rfl); try simp only [Act.put, List.setIfInBounds_toArray, List.set_cons_zero, List.set_cons_succ])); (first | (apply linN_free; (simp only [List.getElem?_toArray, List.getElem?_cons_succ, List.getElem?_cons_zero]; rfl); (rfl); (intro w'; (first | (go_simp; done) | (go_simp; with_reducible rfl) | (go_simp; go_bits; with_reducible rfl) | (go_simp; go_bits; done))); try simp only [Act.put, List.setIfInBounds_toArray, List.set_cons_zero, List.set_cons_succ]) | (apply linN_freeSkip; (simp only [List.getElem?_toArray, List.getElem?_cons_succ, List.getElem?_cons_zero]; rfl); (rfl); try simp only [Act.put, List.setIfInBounds_toArray, List.set_cons_zero, List.set_cons_succ])); refine linN_end ?_)
    go_wp2_with (go_at_call 42; refine (c_roomN n (by omega) (by omega) _).mono ?_; rintro e w' ⟨rfl, rfl⟩)
    have r4' : RdB w2.drew A4 (n - 20) (openP key b) := r4
    by_cases hoff : 60000 < n - 22 ∨ unpadL (openP key b) (n - 22) = none
    · have hno := openL_off (key := key) (b := b) (by rw [HBL.out]; exact hoff)
      have HNO := Lib.hid (openRes_no (B := w.heap.size) (w' := w2.drew) hno)
      refine (c_leUnpadNo A4 (n - 20) c3 (openP key b) (n - 22) _ r4' (by omega) (by omega) (by omega) hoff).mono ?_
      rintro e w' ⟨rfl, rfl⟩
      clear r4 r4' r5 e4 e5 hi1 hi2 k8 hno hoff
      go_wp2
      refine bodyPost_ret (v := .tuple #[.slice none 0 0, .int .u32 0, .int .u64 0, .bool false]) (by simp [results, Try.results40]) rfl ⟨HNO.out, below_drew hB2⟩
    · have hm : n - 22 ≤ 60000 := by omega
      obtain ⟨p, hp⟩ : ∃ p, unpadL (openP key b) (n - 22) = some p := by
        cases hq : unpadL (openP key b) (n - 22) with
        | none => exact absurd (.inr hq) hoff
        | some p => exact ⟨p, rfl⟩
      refine (c_leUnpad A4 (n - 20) c3 (openP key b) p (n - 22) _ r4' (by omega) hm hp).mono ?_
      rintro e w3 ⟨v3, rfl, ho3, hb3⟩
      have HUP := Lib.hid hp
      have q8 := (show Row w2.drew _ _ _ from k8).below hb3 k8.lt
      have r4 := r4'.below hb3 (Nat.le_refl _)
      have r5 := (show RdB w2.drew _ _ _ from r5).below hb3 (Nat.le_refl _)
      have hB3 := below_two (below_drew hB2) hb3
      have hz3 : w2.heap.size ≤ w3.heap.size := hb3.size
      have hbz2 : w.heap.size ≤ w2.heap.size := hB2.size
      have hpl : (openP key b).length ≤ 1000000 := by rw [HPL.out]; omega
      clear r4' hb3 e4 e5 hi1 hi2 hB2 k8 hoff hp
      have ho3' := OwnB.mono ho3 (B' := w.heap.size) hbz2
      generalize openP key b = P at *
      rw [← HPL.out] at r4 ⊢
      go_wp2_with fail
      have hb4 := below_alloc (Below.refl w3.heap.size w3) (.cells #[.slice (some ⟨g8, 0, none⟩) 12 12, .slice A4 P.length c3] 22)
      have rp := Row.new w3 #[.slice (some ⟨g8, 0, none⟩) 12 12, .slice A4 P.length c3] 22
      have ho4 := ho3'.below hb4
      have t4 := r4.below hb4 (Nat.le_refl _)
      have t5 := r5.below hb4 (Nat.le_refl _)
      have t8 := q8.below hb4 q8.lt
      have hB4 := below_two hB3 hb4
      generalize w3.alloc (.cells #[.slice (some ⟨g8, 0, none⟩) 12 12, .slice A4 P.length c3] 22) = w4 at *
      generalize w3.heap.size = g3 at *
      have hpa : PartsAt w4 ⟨g3, 0, none⟩ [H, P] := parts2 (c := 12) (d := c3) (by rw [HH.out]; exact rp) (by rw [HH.out]; exact row_all t8 HH.out) t4 (by rw [HH.out]; decide) hpl
      have HSC := c_leSum ⟨g3, 0, none⟩ 2 [H, P] w4 hpa (by show 2 ≤ 1000; omega)
      have hfl : [H, P].flatten = H ++ P := by simp
      rw [hfl] at HSC
      have HSS : IsSum (H ++ P) (sumN (H ++ P)) := ⟨rfl⟩
      have hsl := sumN_lt (H ++ P)
      generalize sumN (H ++ P) = sm at *
      refine HSC.mono ?_
      rintro e w' ⟨rfl, rfl⟩
      have hmet : (openS key b == leP sm 8) = metB key b := by unfold metB; rw [HD.hd, HD.p, HSS.out]
      clear HSC hpa rp hfl ho3 ho3' r4 r5 q8 hb4 t4 hpl
      go_wp2_with fail
      refine (c_lePut8 sm _).mono ?_
      rintro e w5 ⟨A6, c6, rfl, lc6, -, hr6, hb5⟩
      have ho5 := ho4.below hb5
      have u5 := t5.below hb5 (Nat.le_refl _)
      have u8 := t8.below hb5 t8.lt
      have hB5 := below_two hB4 hb5
      clear ho4 t5 t8 hb5 hB4
      cases hmb : metB key b with
      | false =>
        rw [hmb] at hmet
        have HQ := Lib.hid (c_bytesEq w5 A5 A6 8 8 (c3 - P.length) c6 (openS key b) (leP sm 8) u5 hr6 false hmet)
        have HNO := Lib.hid (openRes_no (B := w.heap.size) (w' := w5) (openL_unmet hmb))
        clear hmet hmb hr6 u5 ho5
        go_wp2_with (go_at_call 74; (with_reducible refine HQ.out.mono ?_); rintro e w' ⟨rfl, rfl⟩)
        refine bodyPost_ret (v := .tuple #[.slice none 0 0, .int .u32 0, .int .u64 0, .bool false]) (by simp [results, Try.results40]) rfl ⟨HNO.out, hB5⟩
      | true =>
        rw [hmb] at hmet
        have HQ := Lib.hid (c_bytesEq w5 A5 A6 8 8 (c3 - P.length) c6 (openS key b) (leP sm 8) u5 hr6 true hmet)
        have hyes := openL_met (key := key) (b := b) (p := p) (by rw [HBL.out]; omega) (by rw [HBL.out]; omega) hmb (by rw [HD.p, HBL.out]; exact HUP.out)
        have HY := Lib.hid hyes
        have hbo : leN ((H.take 4).take 8) = bootN b := by
          unfold bootN
          rw [List.take_of_length_le (l := H.take 4) (by rw [List.length_take]; omega), ← HD.hd, List.take_take]
          rfl
        have hsq : leN ((H.drop 4).take 8) = seqN b := by
          unfold seqN
          rw [List.take_of_length_le (l := H.drop 4) (by rw [List.length_drop, HH.out]; decide), ← HD.hd]
        have hbl4 : bootN b < 4294967296 := by
          unfold bootN
          have h := leN_lt (b.take 4)
          have h2 : 256 ^ (b.take 4).length ≤ 256 ^ 4 := Nat.pow_le_pow_right (by decide) (List.length_take_le _ _)
          have h3 : (256 : Nat) ^ 4 = 4294967296 := rfl
          omega
        have hw32 : IntKind.u32.wrap ((bootN b : Nat) : Int) = ((bootN b : Nat) : Int) := by simp [IntKind.wrap, IntKind.bits, IntKind.signed]; omega
        have x1 : RdB w5.drew (some ⟨g8, 0, none⟩) 4 (H.take 4) := by have := row_part u8 0 4 (by rw [HH.out]; decide); rwa [List.drop_zero] at this
        have x2 : RdB w5.drew (some ⟨g8, 4, none⟩) 8 (H.drop 4) := row_from u8 4 (by rw [HH.out])
        have G1 := c_leGet _ 4 12 _ w5.drew x1 (by decide)
        have G2 := c_leGet _ 8 8 _ w5.drew x2 (by decide)
        rw [hbo] at G1
        rw [hsq] at G2
        have HG1 := Lib.hid G1
        have HG2 := Lib.hid G2
        have hres := openRes_yes (B := w.heap.size) (w' := w5.drew) hyes ho5
        have HRES := Lib.hid hres
        clear G1 G2 hbo hsq x1 x2 hbl4 hmet hmb hr6 u5 hyes ho5 u8 hres
        generalize hbb : bootN b = bo at *
        generalize hss : seqN b = sq at *
        clear hbb hss
        have hsl4 := slice_arr_from (P := Try.prog) (t := 30) Try.underlying30 (by kernel_rfl) g8 4 4 rfl (by decide)
        go_upto_region 9 with (go_at_call 74; (with_reducible refine HQ.out.mono ?_); rintro e w' ⟨rfl, rfl⟩)
        (refine wp_region_linN (Below w5.heap.size) (Below w5.heap.size) (wayB _) (wayB _) (fun _ _ h => h) (.free 0 (.free 1 (.free 4 (.op 2 [] [] [] (.hot 3 (.op 5 [] [3] [] (.free 6 (.free 7 (.free 8 (.free 9 .nil)))))))))) rfl (by kernel_rfl) (by kernel_rfl) (fun _ _ _ _ _ h => h) ?_; (first | (apply linN_free; (simp only [List.getElem?_toArray, List.getElem?_cons_succ, List.getElem?_cons_zero]; rfl); (rfl); (intro w'; (first | (go_simp; done) | (go_simp; with_reducible rfl) | (go_simp; go_bits; with_reducible rfl) | (go_simp; go_bits; done))); try simp only [Act.put, List.setIfInBounds_toArray, List.set_cons_zero, List.set_cons_succ]) | (apply linN_freeSkip; (simp only [List.getElem?_toArray, List.getElem?_cons_succ, List.getElem?_cons_zero]; rfl); (rfl); try simp only [Act.put, List.setIfInBounds_toArray, List.set_cons_zero, List.set_cons_succ])); (first | (apply linN_free; (simp only [List.getElem?_toArray, List.getElem?_cons_succ, List.getElem?_cons_zero]; rfl); (rfl); (intro w'; (first | (go_simp; done) | (go_simp; with_reducible rfl) | (go_simp; go_bits; with_reducible rfl) | (go_simp; go_bits; done))); try simp only [Act.put, List.setIfInBounds_toArray, List.set_cons_zero, List.set_cons_succ]) | (apply linN_freeSkip; (simp only [List.getElem?_toArray, List.getElem?_cons_succ, List.getElem?_cons_zero]; rfl); (rfl); try simp only [Act.put, List.setIfInBounds_toArray, List.set_cons_zero, List.set_cons_succ])); (first | (apply linN_free; (simp only [List.getElem?_toArray, List.getElem?_cons_succ, List.getElem?_cons_zero]; rfl); (rfl); (intro w'; (first | (go_simp; done) | (go_simp; with_reducible rfl) | (go_simp; go_bits; with_reducible rfl) | (go_simp; go_bits; done))); try simp only [Act.put, List.setIfInBounds_toArray, List.set_cons_zero, List.set_cons_succ]) | (apply linN_freeSkip; (simp only [List.getElem?_toArray, List.getElem?_cons_succ, List.getElem?_cons_zero]; rfl); (rfl); try simp only [Act.put, List.setIfInBounds_toArray, List.set_cons_zero, List.set_cons_succ])); (first | (apply linN_pass (wayB _) (wayB _); (simp only [List.getElem?_toArray, List.getElem?_cons_succ, List.getElem?_cons_zero]; rfl); (rfl); try simp only [Act.put, List.setIfInBounds_toArray, List.set_cons_zero, List.set_cons_succ]) | (apply linN_op; (simp only [List.getElem?_toArray, List.getElem?_cons_succ, List.getElem?_cons_zero]; rfl); (rfl); intro K hK; (first | (go_simp; (first | (go_at_call 75; (with_reducible refine HG1.out.mono ?_); rintro e w' ⟨rfl, rfl⟩) | (go_at_call 75; (with_reducible refine HG2.out.mono ?_); rintro e w' ⟨rfl, rfl⟩) | skip))); refine hK _ _ ?_ ?_; (exact trivial); clear hK; try simp only [Act.put, List.setIfInBounds_toArray, List.set_cons_zero, List.set_cons_succ])); (first | (apply linN_hot; (simp only [List.getElem?_toArray, List.getElem?_cons_succ, List.getElem?_cons_zero]; rfl); (rfl); (intro w' hb'; (first | (go_simp; done) | (go_simp; with_reducible rfl) | (go_simp; go_bits; with_reducible rfl) | (go_simp; go_bits; done))); try simp only [Act.put, List.setIfInBounds_toArray, List.set_cons_zero, List.set_cons_succ]) | (apply linN_hotSkip; (simp only [List.getElem?_toArray, List.getElem?_cons_succ, List.getElem?_cons_zero]; rfl); (rfl); try simp only [Act.put, List.setIfInBounds_toArray, List.set_cons_zero, List.set_cons_succ])); (first | (apply linN_pass (wayB _) (wayB _); (simp only [List.getElem?_toArray, List.getElem?_cons_succ, List.getElem?_cons_zero]; rfl); (rfl); try simp only [Act.put, List.setIfInBounds_toArray, List.set_cons_zero, List.set_cons_succ]) | (apply linN_op; (simp only [List.getElem?_toArray, List.getElem?_cons_succ, List.getElem?_cons_zero]; rfl); (rfl); intro K hK; (first | (go_simp; (first | (go_at_call 75; (with_reducible refine HG1.out.mono ?_); rintro e w' ⟨rfl, rfl⟩) | (go_at_call 75; (with_reducible refine HG2.out.mono ?_); rintro e w' ⟨rfl, rfl⟩) | skip))); refine hK _ _ ?_ ?_; (show (Below w5.heap.size) _ _; (first | exact hdr2 | assumption | exact (wayB _).refl _ | exact (wayB _).refl _ | exact Below.refl _ _ | exact ⟨rfl, rfl, rfl, Nat.le_refl _, fun _ _ => rfl⟩ | exact but_set _ _ _ _ _ | exact but_drew (but_set _ _ _ _ _) | exact but_upd (by assumption) | exact but_below (by assumption) | exact belowB_alloc (by first | omega | (simp; done) | (simp; omega)) _ | exact belowB_mono (by first | omega | (simp; done) | (simp; omega)) (by assumption) | (first | exact rg_alloc (by simp; omega) (by simp; omega) _ | exact FR.of_below (below_alloc (Below.refl _ _) _) (by first | assumption | (simp; omega)) | exact DR.of_below (below_alloc (Below.refl _ _) _) (by first | assumption | (simp; omega))))); clear hK; try simp only [Act.put, List.setIfInBounds_toArray, List.set_cons_zero, List.set_cons_succ])); (first | (apply linN_free; (simp only [List.getElem?_toArray, List.getElem?_cons_succ, List.getElem?_cons_zero]; rfl); (rfl); (intro w'; (first | (go_simp; done) | (go_simp; with_reducible rfl) | (go_simp; go_bits; with_reducible rfl) | (go_simp; go_bits; done))); try simp only [Act.put, List.setIfInBounds_toArray, List.set_cons_zero, List.set_cons_succ]) | (apply linN_freeSkip; (simp only [List.getElem?_toArray, List.getElem?_cons_succ, List.getElem?_cons_zero]; rfl); (rfl); try simp only [Act.put, List.setIfInBounds_toArray, List.set_cons_zero, List.set_cons_succ])); (first | (apply linN_free; (simp only [List.getElem?_toArray, List.getElem?_cons_succ, List.getElem?_cons_zero]; rfl); (rfl); (intro w'; (first | (go_simp; done) | (go_simp; with_reducible rfl) | (go_simp; go_bits; with_reducible rfl) | (go_simp; go_bits; done))); try simp only [Act.put, List.setIfInBounds_toArray, List.set_cons_zero, List.set_cons_succ]) | (apply linN_freeSkip; (simp only [List.getElem?_toArray, List.getElem?_cons_succ, List.getElem?_cons_zero]; rfl); (rfl); try simp only [Act.put, List.setIfInBounds_toArray, List.set_cons_zero, List.set_cons_succ])); (first | (apply linN_free; (simp only [List.getElem?_toArray, List.getElem?_cons_succ, List.getElem?_cons_zero]; rfl); (rfl); (intro w'; (first | (go_simp; done) | (go_simp; with_reducible rfl) | (go_simp; go_bits; with_reducible rfl) | (go_simp; go_bits; done))); try simp only [Act.put, List.setIfInBounds_toArray, List.set_cons_zero, List.set_cons_succ]) | (apply linN_freeSkip; (simp only [List.getElem?_toArray, List.getElem?_cons_succ, List.getElem?_cons_zero]; rfl); (rfl); try simp only [Act.put, List.setIfInBounds_toArray, List.set_cons_zero, List.set_cons_succ])); (first | (apply linN_free; (simp only [List.getElem?_toArray, List.getElem?_cons_succ, List.getElem?_cons_zero]; rfl); (rfl); (intro w'; (first | (go_simp; done) | (go_simp; with_reducible rfl) | (go_simp; go_bits; with_reducible rfl) | (go_simp; go_bits; done))); try simp only [Act.put, List.setIfInBounds_toArray, List.set_cons_zero, List.set_cons_succ]) | (apply linN_freeSkip; (simp only [List.getElem?_toArray, List.getElem?_cons_succ, List.getElem?_cons_zero]; rfl); (rfl); try simp only [Act.put, List.setIfInBounds_toArray, List.set_cons_zero, List.set_cons_succ])); refine linN_end ?_)
        go_wp2
        refine bodyPost_ret (v := .tuple #[v3, .int .u32 (bo : Int), .int .u64 (sq : Int), .bool true]) (by simp [results, Try.results40]) rfl ⟨HRES.out, below_drew hB5⟩
end Go.Proofs.Ytlbpmboknmbcgaa
