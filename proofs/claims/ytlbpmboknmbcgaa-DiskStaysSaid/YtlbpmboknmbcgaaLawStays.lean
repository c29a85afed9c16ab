/- The walk of DiskStays. -/
import Derived.Test.YtlbpmboknmbcgaaStayP
import Derived.Test.YtlbpmboknmbcgaaLawAgain
import Derived.Test.YtlbpmboknmbcgaaMat
import Derived.Test.YtlbpmboknmbcgaaArr
import Derived.Test.YtlbpmboknmbcgaaLinN
import Derived.Test.YtlbpmboknmbcgaaParts
import Derived.Test.YtlbpmboknmbcgaaEqB
set_option linter.unusedVariables false
set_option linter.unusedSimpArgs false
namespace Go.Proofs.Ytlbpmboknmbcgaa
open Go.RowKit

theorem In.frS {W W' : World} {base b n : Nat} {D : Dk} {T : TypeId} (h : In W base b D n) (hf : FR [T] [] base W W') (hT : T ∉ 5 :: dTy) : In W' base b D n := by
  have hT' : 5 ∉ [T] ∧ 82 ∉ [T] ∧ 85 ∉ [T] ∧ 32 ∉ [T] := by
    simp only [dTy, List.mem_cons, List.not_mem_nil, or_false, not_or] at hT ⊢
    exact ⟨fun e => hT.1 e.symm, fun e => hT.2.1 e.symm, fun e => hT.2.2.1 e.symm, fun e => hT.2.2.2 e.symm⟩
  obtain ⟨mS, mN, lv, tv, hrow, hbb, hbS, hbN, hne, h1, h2, h3, h4⟩ := h.dk.out
  exact ⟨⟨⟨mS, mN, lv, tv, hf.row hrow hT'.2.1, hbb, hbS, hbN, hne, h1.fr hf hT'.1 (by simp) (Nat.le_refl _), h2.fr hf hT'.1 (by simp) (Nat.le_refl _), h3.fr hf hT'.1 hT'.2.2.1, h4.fr hf hT'.1 hT'.2.2.2⟩⟩, Nat.le_trans h.le hf.size, h.bd⟩
theorem In.monoS {W : World} {base b n m : Nat} {D : Dk} (h : In W base b D n) (hn : n ≤ m) : In W base b D m := ⟨h.dk, h.le, h.bd.mono hn⟩
theorem spl_pt4 {ws Y : List UInt8} {q : Nat} (hY : Y.length = 4) : spl (bv ws) (4 * q) (bv Y) = bv (pt4 ws q Y) := by
  unfold spl pt4
  rw [bv_append, bv_append, bv_take, bv_drop, bv_length, hY]
/-- four noughts, and then the bytes over them -/
theorem pt4_copy {ws xs : List UInt8} {q : Nat} (h : ws.length = 32) (hq : q < 8) : (pt4 ws q (List.replicate 4 0)).take (4 * q) ++ (xs.take (min xs.length 4) ++ (pt4 ws q (List.replicate 4 0)).drop (4 * q + min xs.length 4)) = pt4 ws q (fitL 4 xs) := by
  have hl : (ws.take (4 * q)).length = 4 * q := by rw [List.length_take]; omega
  have e1 : (pt4 ws q (List.replicate 4 0)).take (4 * q) = ws.take (4 * q) := by unfold pt4; rw [List.append_assoc, List.take_left' hl]
  have e2 : (pt4 ws q (List.replicate 4 0)).drop (4 * q + min xs.length 4) = List.replicate (4 - min xs.length 4) 0 ++ ws.drop (4 * q + 4) := by
    unfold pt4
    rw [List.append_assoc, ← List.drop_drop, List.drop_left' hl, List.drop_append_of_le_length (by simp; omega), List.drop_replicate]
  have e3 : fitL 4 xs = xs.take (min xs.length 4) ++ List.replicate (4 - min xs.length 4) 0 := by
    unfold fitL copyL
    show xs.take (List.replicate 4 (0 : UInt8)).length ++ (List.replicate 4 (0 : UInt8)).drop (min xs.length (List.replicate 4 (0 : UInt8)).length) = _
    rw [List.length_replicate, List.drop_replicate]
    congr 1
    rcases Nat.le_total xs.length 4 with h4 | h4
    · rw [Nat.min_eq_left h4, List.take_of_length_le h4, List.take_length]
    · rw [Nat.min_eq_right h4]
  rw [e1, e2, e3]
  unfold pt4
  simp only [List.append_assoc]
theorem z4_copy (xs : List UInt8) : (List.replicate 4 (0 : UInt8)).take 0 ++ (xs.take (min xs.length 4) ++ (List.replicate 4 (0 : UInt8)).drop (0 + min xs.length 4)) = fitL 4 xs := by
  unfold fitL copyL
  show _ = xs.take (List.replicate 4 (0 : UInt8)).length ++ (List.replicate 4 (0 : UInt8)).drop (min xs.length (List.replicate 4 (0 : UInt8)).length)
  rw [List.length_replicate, List.take_zero, List.nil_append, Nat.zero_add]
  congr 1
  rcases Nat.le_total xs.length 4 with h4 | h4
  · rw [Nat.min_eq_left h4, List.take_of_length_le h4, List.take_length]
  · rw [Nat.min_eq_right h4]
theorem bv_setA (l : List UInt8) (j : Nat) (y : UInt8) : (bv l).toArray.setIfInBounds j (.int .u8 (y.toNat : Int)) = (bv (l.set j y)).toArray := by
  rw [List.setIfInBounds_toArray]
  unfold bv
  rw [List.map_set]
def ad2A (A : Option Addr) (i : Nat) : Addr := (A.getD ⟨0, 0, none⟩).add i
theorem chs_cases (ts : List Int) (i : Nat) : chs ts i = 0 ∨ chs ts i = 1 ∨ chs ts i = 2 := by
  unfold chs
  split <;> omega
theorem chs_some {ts : List Int} {i : Nat} {c : Int} (h : ts[i]? = some c) : chs ts i = c % 3 := by unfold chs; rw [h]
theorem chs_none {ts : List Int} {i : Nat} (h : ts.length ≤ i) : chs ts i = 0 := by unfold chs; rw [List.getElem?_eq_none h]
set_option maxHeartbeats 8000000 in
set_option maxRecDepth 100000 in
theorem w_stays0 (A0 A1 A2 : Option Addr) (l0 c0 l1 c1 l2 c2 : Nat) (xss yss : List (List UInt8)) (ts : List Int) (w : World) (hM0 : Mat w A0 l0 xss) (hM1 : Mat w A1 l1 yss) (hR : Rd w A2 l2 (iv ts)) (hts : ∀ x ∈ ts, -9223372036854775808 ≤ x ∧ x ≤ 9223372036854775807) :
    Calls Try.prog 6 #[.slice A0 l0 c0, .slice A1 l1 c1, .slice A2 l2 c2] w fun e w' => e = .returned (.bool true) ∧ Below w.heap.size w w' := by
  have HM0 := Lib.hid hM0
  have HM1 := Lib.hid hM1
  have HTS := Lib.hid hts
  have hz32 : (bv (List.replicate 32 0)).toArray = #[.int .u8 0, .int .u8 0, .int .u8 0, .int .u8 0, .int .u8 0, .int .u8 0, .int .u8 0, .int .u8 0, .int .u8 0, .int .u8 0, .int .u8 0, .int .u8 0, .int .u8 0, .int .u8 0, .int .u8 0, .int .u8 0, .int .u8 0, .int .u8 0, .int .u8 0, .int .u8 0, .int .u8 0, .int .u8 0, .int .u8 0, .int .u8 0, .int .u8 0, .int .u8 0, .int .u8 0, .int .u8 0, .int .u8 0, .int .u8 0, .int .u8 0, .int .u8 0] := rfl
  have HZ32 := Lib.hid hz32
  clear hM0 hM1 hts hz32
  go_enter Try.func6, Try.ntmps6
  go_wp2_with fail
  refine (i_new 8 4 w (by decide) (by decide)).mono ?_
  rintro e w1 ⟨b, rfl, hI, hB⟩
  have hs1 := s1_new
  generalize dkNew 8 4 = D0 at *
  go_upto_region 5 with fail
  have hr8 := Row.new w1 #[Value.int .u8 0, Value.int .u8 0, Value.int .u8 0, Value.int .u8 0, Value.int .u8 0, Value.int .u8 0, Value.int .u8 0, Value.int .u8 0, Value.int .u8 0, Value.int .u8 0, Value.int .u8 0, Value.int .u8 0, Value.int .u8 0, Value.int .u8 0, Value.int .u8 0, Value.int .u8 0, Value.int .u8 0, Value.int .u8 0, Value.int .u8 0, Value.int .u8 0, Value.int .u8 0, Value.int .u8 0, Value.int .u8 0, Value.int .u8 0, Value.int .u8 0, Value.int .u8 0, Value.int .u8 0, Value.int .u8 0, Value.int .u8 0, Value.int .u8 0, Value.int .u8 0, Value.int .u8 0] 42
  have hgb := hI.le
  replace hI := hI.alloc (.cells #[Value.int .u8 0, Value.int .u8 0, Value.int .u8 0, Value.int .u8 0, Value.int .u8 0, Value.int .u8 0, Value.int .u8 0, Value.int .u8 0, Value.int .u8 0, Value.int .u8 0, Value.int .u8 0, Value.int .u8 0, Value.int .u8 0, Value.int .u8 0, Value.int .u8 0, Value.int .u8 0, Value.int .u8 0, Value.int .u8 0, Value.int .u8 0, Value.int .u8 0, Value.int .u8 0, Value.int .u8 0, Value.int .u8 0, Value.int .u8 0, Value.int .u8 0, Value.int .u8 0, Value.int .u8 0, Value.int .u8 0, Value.int .u8 0, Value.int .u8 0, Value.int .u8 0, Value.int .u8 0] 42)
  replace hB := below_alloc hB (.cells #[Value.int .u8 0, Value.int .u8 0, Value.int .u8 0, Value.int .u8 0, Value.int .u8 0, Value.int .u8 0, Value.int .u8 0, Value.int .u8 0, Value.int .u8 0, Value.int .u8 0, Value.int .u8 0, Value.int .u8 0, Value.int .u8 0, Value.int .u8 0, Value.int .u8 0, Value.int .u8 0, Value.int .u8 0, Value.int .u8 0, Value.int .u8 0, Value.int .u8 0, Value.int .u8 0, Value.int .u8 0, Value.int .u8 0, Value.int .u8 0, Value.int .u8 0, Value.int .u8 0, Value.int .u8 0, Value.int .u8 0, Value.int .u8 0, Value.int .u8 0, Value.int .u8 0, Value.int .u8 0] 42)
  rw [← HZ32.out] at hr8 hI hB
  rw [← HZ32.out]
  generalize w1.alloc (.cells (bv (List.replicate 32 0)).toArray 42) = w2 at *
  generalize w1.heap.size = g at *
  go_wp2_with fail
  go_loopw [9] (fun s9 wr => ∃ (i : Nat) (D : Dk) (ws : List UInt8), i ≤ 20 ∧ s9 = .int .i64 (i : Int) ∧ S1 D ws ∧ In wr w.heap.size b D i ∧ Row wr g (bv ws).toArray 42 ∧ Below w.heap.size w wr) (fun s9 _ => (20 - intOf s9).toNat)
  case atStart => exact ⟨0, D0, _, by omega, rfl, hs1, hI, hr8, hB⟩
  case round =>
    obtain ⟨i, D, ws, hi, rfl, hS, hIr, hr8r, hBr⟩ := hrel
    clear hI hr8 hB hs1
    by_cases hend : (i : Int) < (l0 : Int) ∧ (i : Int) < 20
    · obtain ⟨q0, q1⟩ := hend
      obtain ⟨xs, hxs⟩ : ∃ xs, xss[i]? = some xs := ⟨_, List.getElem?_eq_getElem (by have := HM0.out.1; omega)⟩
      obtain ⟨ad0, v0, rfl, hc0, hx0⟩ := HM0.out.2 i xs hxs
      have hx0' := hx0
      obtain ⟨Ax, cx, rfl, hxc, -, hxr, -⟩ := hx0'
      have hlt0 : ad0.block < w.heap.size := by have := World.block_lt_of_cell? w _ hc0; rwa [ad_block] at this
      have hc0r : wr.cell? (ad0.add i) = some (.slice Ax xs.length cx) := (hBr.cell (p := ad0.add i) (by rw [ad_block]; exact hlt0)).trans hc0
      have hm := m7 (i : Int)
      obtain ⟨q, hq⟩ : ∃ q : Nat, (i : Int) % 8 = (q : Int) := ⟨i % 8, by omega⟩
      have hq8 : q < 8 := by omega
      rw [hq] at hm
      have hwf := wf_i64 (x := (q : Int)) (by omega) (by omega)
      have HWR := Lib.hid (i_write hIr (by omega) hS.fr.goes (q : Int) _ xs hwf (hx0.keep (DR.of_below (S := []) hBr (Nat.le_refl _)) (by simp)))
      clear hq
      go_upto_region 9 with (go_at_call 19; (with_reducible refine HWR.out.mono ?_); rintro e w3 ⟨rfl, hI3, hd3⟩)
      have hB3 := hBr.trans hd3.below
      have r83 := hr8r.dr hd3 (by decide)
      have hS3 := hS.write hq8 xs
      clear HWR hIr hr8r hBr hd3 hc0r hx0
      have hq8i : (q : Int) < 8 := by omega
      have hq0i : (0 : Int) ≤ (q : Int) := by omega
      have HL := Lib.hid hS.len
      clear hS
      have hw32 : q * 4 + (bv (List.replicate 4 (0 : UInt8))).length ≤ (bv ws).length := by rw [bv_length, bv_length, HL.out, List.length_replicate]; omega
      go_upto_region 10 with (refine wpl_storeMid (cells := bv (List.replicate 4 0)) (old := bv ws) (g := g) (off := q * 4) (t := 42) rfl rfl (by first | rfl | (go_simp; rfl)) (by first | rfl | (go_simp; rfl)) r83 (by kernel_rfl) hw32 (bv_cells _) ?_; intro W4 hu4; simp only [Act.put])
      have hfr4 : FR [42] [] w.heap.size w3 W4 := FR.of_upd hu4 r83 (by simp) hgb
      have r84 : Row W4 g _ _ := hu4.row
      rw [Nat.mul_comm q 4, spl_pt4 rfl] at r84
      have hI4 := hI3.frS hfr4 (by decide)
      have hB4 := hB3.trans (hu4.below hgb)
      have hxr4 : RdB W4.drew Ax xs.length xs := hxr.below (below_drew hB4) (Nat.le_refl _)
      have hc4 : W4.drew.cell? (ad0.add i) = some (.slice Ax xs.length cx) := (hB4.cell (p := ad0.add i) (by rw [ad_block]; exact hlt0)).trans hc0
      have hlt4 : (ad0.add i).block < W4.heap.size := by rw [ad_block]; exact Nat.lt_of_lt_of_le hlt0 hB4.size
      have r84d : Row W4.drew g _ _ := r84
      have hw33 : q * 4 + 4 ≤ (bv (pt4 ws q (List.replicate 4 0))).toArray.size := by rw [List.size_toArray, bv_length, pt4_length HL.out hq8 rfl]; omega
      clear hu4 hfr4 hw32 r83 hI3 hB3 hxr
      go_upto_region 10 with fail
      (refine wp_region_linN (Below W4.heap.size) (Below W4.heap.size) (wayB _) (wayB _) (fun _ _ h => h) (.free 0 (.free 1 (.free 2 (.free 3 (.free 4 (.free 5 (.free 6 (.hot 7 (.op 8 [(7, 8)] [] [] .nil))))))))) rfl (by kernel_rfl) (by kernel_rfl) (fun _ _ _ _ _ h => h) ?_; (first | (apply linN_free; (simp only [List.getElem?_toArray, List.getElem?_cons_succ, List.getElem?_cons_zero]; rfl); (rfl); (intro w'; (first | (go_simp; done) | (go_simp; with_reducible rfl) | (go_simp; go_bits; with_reducible rfl) | (go_simp; go_bits; done))); try simp only [Act.put, List.setIfInBounds_toArray, List.set_cons_zero, List.set_cons_succ]) | (apply linN_freeSkip; (simp only [List.getElem?_toArray, List.getElem?_cons_succ, List.getElem?_cons_zero]; rfl); (rfl); try simp only [Act.put, List.setIfInBounds_toArray, List.set_cons_zero, List.set_cons_succ])); (first | (apply linN_free; (simp only [List.getElem?_toArray, List.getElem?_cons_succ, List.getElem?_cons_zero]; rfl); (rfl); (intro w'; (first | (go_simp; done) | (go_simp; with_reducible rfl) | (go_simp; go_bits; with_reducible rfl) | (go_simp; go_bits; done))); try simp only [Act.put, List.setIfInBounds_toArray, List.set_cons_zero, List.set_cons_succ]) | (apply linN_freeSkip; (simp only [List.getElem?_toArray, List.getElem?_cons_succ, List.getElem?_cons_zero]; rfl); (rfl); try simp only [Act.put, List.setIfInBounds_toArray, List.set_cons_zero, List.set_cons_succ])); (first | (apply linN_free; (simp only [List.getElem?_toArray, List.getElem?_cons_succ, List.getElem?_cons_zero]; rfl); (rfl); (intro w'; (first | (go_simp; done) | (go_simp; with_reducible rfl) | (go_simp; go_bits; with_reducible rfl) | (go_simp; go_bits; done))); try simp only [Act.put, List.setIfInBounds_toArray, List.set_cons_zero, List.set_cons_succ]) | (apply linN_freeSkip; (simp only [List.getElem?_toArray, List.getElem?_cons_succ, List.getElem?_cons_zero]; rfl); (rfl); try simp only [Act.put, List.setIfInBounds_toArray, List.set_cons_zero, List.set_cons_succ])); (first | (apply linN_free; (simp only [List.getElem?_toArray, List.getElem?_cons_succ, List.getElem?_cons_zero]; rfl); (rfl); (intro w'; (first | (go_simp; done) | (go_simp; with_reducible rfl) | (go_simp; go_bits; with_reducible rfl) | (go_simp; go_bits; done))); try simp only [Act.put, List.setIfInBounds_toArray, List.set_cons_zero, List.set_cons_succ]) | (apply linN_freeSkip; (simp only [List.getElem?_toArray, List.getElem?_cons_succ, List.getElem?_cons_zero]; rfl); (rfl); try simp only [Act.put, List.setIfInBounds_toArray, List.set_cons_zero, List.set_cons_succ])); (first | (apply linN_free; (simp only [List.getElem?_toArray, List.getElem?_cons_succ, List.getElem?_cons_zero]; rfl); (rfl); (intro w'; (first | (go_simp; done) | (go_simp; with_reducible rfl) | (go_simp; go_bits; with_reducible rfl) | (go_simp; go_bits; done))); try simp only [Act.put, List.setIfInBounds_toArray, List.set_cons_zero, List.set_cons_succ]) | (apply linN_freeSkip; (simp only [List.getElem?_toArray, List.getElem?_cons_succ, List.getElem?_cons_zero]; rfl); (rfl); try simp only [Act.put, List.setIfInBounds_toArray, List.set_cons_zero, List.set_cons_succ])); (first | (apply linN_free; (simp only [List.getElem?_toArray, List.getElem?_cons_succ, List.getElem?_cons_zero]; rfl); (rfl); (intro w'; (first | (go_simp; done) | (go_simp; with_reducible rfl) | (go_simp; go_bits; with_reducible rfl) | (go_simp; go_bits; done))); try simp only [Act.put, List.setIfInBounds_toArray, List.set_cons_zero, List.set_cons_succ]) | (apply linN_freeSkip; (simp only [List.getElem?_toArray, List.getElem?_cons_succ, List.getElem?_cons_zero]; rfl); (rfl); try simp only [Act.put, List.setIfInBounds_toArray, List.set_cons_zero, List.set_cons_succ])); (first | (apply linN_free; (simp only [List.getElem?_toArray, List.getElem?_cons_succ, List.getElem?_cons_zero]; rfl); (rfl); (intro w'; (first | (go_simp; done) | (go_simp; with_reducible rfl) | (go_simp; go_bits; with_reducible rfl) | (go_simp; go_bits; done))); try simp only [Act.put, List.setIfInBounds_toArray, List.set_cons_zero, List.set_cons_succ]) | (apply linN_freeSkip; (simp only [List.getElem?_toArray, List.getElem?_cons_succ, List.getElem?_cons_zero]; rfl); (rfl); try simp only [Act.put, List.setIfInBounds_toArray, List.set_cons_zero, List.set_cons_succ])); (first | (apply linN_hot; (simp only [List.getElem?_toArray, List.getElem?_cons_succ, List.getElem?_cons_zero]; rfl); (rfl); (intro w' hb'; (try have k_hc4 := keepB (by first | assumption | omega | (simp; done) | (simp; omega)) hb' hc4); (first | (go_simp; done) | (go_simp; with_reducible rfl) | (go_simp; go_bits; with_reducible rfl) | (go_simp; go_bits; done))); try simp only [Act.put, List.setIfInBounds_toArray, List.set_cons_zero, List.set_cons_succ]) | (apply linN_hotSkip; (simp only [List.getElem?_toArray, List.getElem?_cons_succ, List.getElem?_cons_zero]; rfl); (rfl); try simp only [Act.put, List.setIfInBounds_toArray, List.set_cons_zero, List.set_cons_succ])); (first | (apply linN_pass (wayB _) (wayB _); (simp only [List.getElem?_toArray, List.getElem?_cons_succ, List.getElem?_cons_zero]; rfl); (rfl); try simp only [Act.put, List.setIfInBounds_toArray, List.set_cons_zero, List.set_cons_succ]) | (apply linN_op; (simp only [List.getElem?_toArray, List.getElem?_cons_succ, List.getElem?_cons_zero]; rfl); (rfl); intro K hK; (first | (refine wp_copyP (g := g) (off := q * 4) (n := 4) (m := xs.length) (T := 42) (cur := (bv (pt4 ws q (List.replicate 4 0))).toArray) (ys := xs) rfl (by first | rfl | (go_simp; rfl)) (by first | rfl | (go_simp; rfl)) r84d hxr4 hw33 ?_; intro W5 y5 hu5) | (go_simp; (first | skip))); refine hK _ _ ?_ ?_; (exact trivial); clear hK; try simp only [Act.put, List.setIfInBounds_toArray, List.set_cons_zero, List.set_cons_succ])); refine linN_end ?_)
      have r85 : Row W5 g _ _ := hu5.row
      rw [copy_row, Nat.mul_comm q 4, pt4_copy HL.out hq8] at r85
      have hfr5 : FR [42] [] w.heap.size W4.drew W5 := FR.of_upd hu5 r84d (by simp) hgb
      have hI5 := (hI4.below (below_drew (Below.refl W4.heap.size W4))).frS hfr5 (by decide)
      have hB5 := (below_drew hB4).trans (hu5.below hgb)
      clear hu5 hfr5 r84d hI4 hB4 hxr4 hc4 r84 hw33
      go_wp2_with fail
      go_roundw
      case rel => exact ⟨i + 1, _, _, by omega, by go_num, hS3, hI5, r85, hB5⟩
      case measure => simp [intOf]; omega
    · have hor : ¬ (i : Int) < (l0 : Int) ∨ ((i : Int) < (l0 : Int) ∧ ¬ (i : Int) < 20) := by omega
      have HFL := Lib.hid (i_flush hIr (by omega) hS.fr.goes)
      have hS2 := hS.flush ts
      have hI' : i ≤ 20 := hi
      have hgo : ∀ (P : Prop), P → P := fun _ h => h
      rcases hor with q | ⟨q1, q2⟩
      all_goals
        go_upto_region 12 with (go_at_call 21; (with_reducible refine HFL.out.mono ?_); rintro e w3 ⟨rfl, hI3, hd3⟩)
        have hB3 := hBr.trans hd3.below
        have r83 := hr8r.dr hd3 (by decide)
        generalize D.flush = D3 at *
        clear HFL hIr hr8r hBr hd3 hS hgo
        replace hI3 : In w3 w.heap.size b D3 21 := hI3.monoS (by omega)
        clear hI' hi
        go_wp2_with fail
        go_loopw [10] (fun s10 wr => ∃ (i : Nat) (D : Dk) (ws : List UInt8), i ≤ 20 ∧ s10 = .int .i64 (i : Int) ∧ S2 D ws ts i ∧ In wr w.heap.size b D (21 + i) ∧ Row wr g (bv ws).toArray 42 ∧ Below w.heap.size w wr) (fun s10 _ => (20 - intOf s10).toNat)
        case atStart => exact ⟨0, D3, _, by omega, rfl, hS2, hI3, r83, hB3⟩
        case round =>
          obtain ⟨i, D, ws, hi, rfl, hS, hIr, hr8r, hBr⟩ := hrel
          clear hI3 r83 hB3 hS2
          by_cases hend : (i : Int) < (l1 : Int) ∧ (i : Int) < 20
          · obtain ⟨q0, q1⟩ := hend
            obtain ⟨xs, hxs⟩ : ∃ xs, yss[i]? = some xs := ⟨_, List.getElem?_eq_getElem (by have := HM1.out.1; omega)⟩
            obtain ⟨ad0, v0, rfl, hc0, hx0⟩ := HM1.out.2 i xs hxs
            have hx0' := hx0
            obtain ⟨Ax, cx, rfl, hxc, -, hxr, -⟩ := hx0'
            have hlt0 : ad0.block < w.heap.size := by have := World.block_lt_of_cell? w _ hc0; rwa [ad_block] at this
            have hc0r : wr.cell? (ad0.add i) = some (.slice Ax xs.length cx) := (hBr.cell (p := ad0.add i) (by rw [ad_block]; exact hlt0)).trans hc0
            have hm := m7 ((i : Int) * 3)
            obtain ⟨q, hq⟩ : ∃ q : Nat, (i : Int) * 3 % 8 = (q : Int) := ⟨i * 3 % 8, by omega⟩
            have hq8 : q < 8 := by omega
            rw [hq] at hm
            have hwf := wf_i64 (x := (q : Int)) (by omega) (by omega)
            have hmul : IntKind.i64.wrap ((i : Int) * 3) = (i : Int) * 3 := IntWalk.i64_in _ (by omega)
            have HWR := Lib.hid (i_write hIr (by omega) hS.fr.goes (q : Int) _ xs hwf (hx0.keep (DR.of_below (S := []) hBr (Nat.le_refl _)) (by simp)))
            clear hq
            go_upto_region 16 with (go_at_call 19; (with_reducible refine HWR.out.mono ?_); rintro e w3 ⟨rfl, hI3, hd3⟩)
            have hB3 := hBr.trans hd3.below
            have r83 := hr8r.dr hd3 (by decide)
            have hS3 := hS.write hq8 xs
            have HL := Lib.hid hS.len
            clear HWR hIr hr8r hBr hd3 hc0r hx0 hS
            go_upto_region 17 with fail
            have rB := Row.new w3 (bv (List.replicate 4 0)).toArray 41
            have hB4 := below_alloc (Below.refl w3.heap.size w3) (.cells (bv (List.replicate 4 0)).toArray 41)
            have hI4 := hI3.below hB4
            have r84 := r83.below hB4 r83.lt
            have hgg : g < w3.heap.size := r83.lt
            have hgB : w.heap.size ≤ w3.heap.size := hB3.size
            replace hB4 := hB3.trans (hB4.mono hB3.size)
            rw [show (#[.int .u8 0, .int .u8 0, .int .u8 0, .int .u8 0] : Array Value) = (bv (List.replicate 4 0)).toArray from rfl]
            generalize w3.alloc (.cells (bv (List.replicate 4 0)).toArray 41) = w4 at *
            generalize w3.heap.size = gB at *
            clear hI3 r83 hB3
            have hxr4 : RdB w4.drew Ax xs.length xs := hxr.below (below_drew hB4) (Nat.le_refl _)
            have hc4 : w4.drew.cell? (ad0.add i) = some (.slice Ax xs.length cx) := (hB4.cell (p := ad0.add i) (by rw [ad_block]; exact hlt0)).trans hc0
            have hlt4 : (ad0.add i).block < w4.heap.size := by rw [ad_block]; exact Nat.lt_of_lt_of_le hlt0 hB4.size
            have rBd : Row w4.drew gB _ _ := rB
            have hw34 : 0 + 4 ≤ (bv (List.replicate 4 (0 : UInt8))).toArray.size := by simp [bv]
            (refine wp_region_linN (Below w4.heap.size) (Below w4.heap.size) (wayB _) (wayB _) (fun _ _ h => h) (.free 0 (.free 1 (.free 2 (.free 3 (.hot 4 (.op 5 [(4, 5)] [] [] .nil)))))) rfl (by kernel_rfl) (by kernel_rfl) (fun _ _ _ _ _ h => h) ?_; (first | (apply linN_free; (simp only [List.getElem?_toArray, List.getElem?_cons_succ, List.getElem?_cons_zero]; rfl); (rfl); (intro w'; (first | (go_simp; done) | (go_simp; with_reducible rfl) | (go_simp; go_bits; with_reducible rfl) | (go_simp; go_bits; done))); try simp only [Act.put, List.setIfInBounds_toArray, List.set_cons_zero, List.set_cons_succ]) | (apply linN_freeSkip; (simp only [List.getElem?_toArray, List.getElem?_cons_succ, List.getElem?_cons_zero]; rfl); (rfl); try simp only [Act.put, List.setIfInBounds_toArray, List.set_cons_zero, List.set_cons_succ])); (first | (apply linN_free; (simp only [List.getElem?_toArray, List.getElem?_cons_succ, List.getElem?_cons_zero]; rfl); (rfl); (intro w'; (first | (go_simp; done) | (go_simp; with_reducible rfl) | (go_simp; go_bits; with_reducible rfl) | (go_simp; go_bits; done))); try simp only [Act.put, List.setIfInBounds_toArray, List.set_cons_zero, List.set_cons_succ]) | (apply linN_freeSkip; (simp only [List.getElem?_toArray, List.getElem?_cons_succ, List.getElem?_cons_zero]; rfl); (rfl); try simp only [Act.put, List.setIfInBounds_toArray, List.set_cons_zero, List.set_cons_succ])); (first | (apply linN_free; (simp only [List.getElem?_toArray, List.getElem?_cons_succ, List.getElem?_cons_zero]; rfl); (rfl); (intro w'; (first | (go_simp; done) | (go_simp; with_reducible rfl) | (go_simp; go_bits; with_reducible rfl) | (go_simp; go_bits; done))); try simp only [Act.put, List.setIfInBounds_toArray, List.set_cons_zero, List.set_cons_succ]) | (apply linN_freeSkip; (simp only [List.getElem?_toArray, List.getElem?_cons_succ, List.getElem?_cons_zero]; rfl); (rfl); try simp only [Act.put, List.setIfInBounds_toArray, List.set_cons_zero, List.set_cons_succ])); (first | (apply linN_free; (simp only [List.getElem?_toArray, List.getElem?_cons_succ, List.getElem?_cons_zero]; rfl); (rfl); (intro w'; (first | (go_simp; done) | (go_simp; with_reducible rfl) | (go_simp; go_bits; with_reducible rfl) | (go_simp; go_bits; done))); try simp only [Act.put, List.setIfInBounds_toArray, List.set_cons_zero, List.set_cons_succ]) | (apply linN_freeSkip; (simp only [List.getElem?_toArray, List.getElem?_cons_succ, List.getElem?_cons_zero]; rfl); (rfl); try simp only [Act.put, List.setIfInBounds_toArray, List.set_cons_zero, List.set_cons_succ])); (first | (apply linN_hot; (simp only [List.getElem?_toArray, List.getElem?_cons_succ, List.getElem?_cons_zero]; rfl); (rfl); (intro w' hb'; (try have k_hc4 := keepB (by first | assumption | omega | (simp; done) | (simp; omega)) hb' hc4); (first | (go_simp; done) | (go_simp; with_reducible rfl) | (go_simp; go_bits; with_reducible rfl) | (go_simp; go_bits; done))); try simp only [Act.put, List.setIfInBounds_toArray, List.set_cons_zero, List.set_cons_succ]) | (apply linN_hotSkip; (simp only [List.getElem?_toArray, List.getElem?_cons_succ, List.getElem?_cons_zero]; rfl); (rfl); try simp only [Act.put, List.setIfInBounds_toArray, List.set_cons_zero, List.set_cons_succ])); (first | (apply linN_pass (wayB _) (wayB _); (simp only [List.getElem?_toArray, List.getElem?_cons_succ, List.getElem?_cons_zero]; rfl); (rfl); try simp only [Act.put, List.setIfInBounds_toArray, List.set_cons_zero, List.set_cons_succ]) | (apply linN_op; (simp only [List.getElem?_toArray, List.getElem?_cons_succ, List.getElem?_cons_zero]; rfl); (rfl); intro K hK; (first | (refine wp_copyP (g := gB) (off := 0) (n := 4) (m := xs.length) (T := 41) (cur := (bv (List.replicate 4 0)).toArray) (ys := xs) rfl (by first | rfl | (go_simp; rfl)) (by first | rfl | (go_simp; rfl)) rBd hxr4 hw34 ?_; intro W5 y5 hu5) | (go_simp; (first | skip))); refine hK _ _ ?_ ?_; (exact trivial); clear hK; try simp only [Act.put, List.setIfInBounds_toArray, List.set_cons_zero, List.set_cons_succ])); refine linN_end ?_)
            have r5B : Row W5 gB _ _ := hu5.row
            rw [copy_row, z4_copy] at r5B
            have hfr5 : FR [41] [] w.heap.size w4.drew W5 := FR.of_upd hu5 rBd (by simp) hgB
            have hI5 := (hI4.below (below_drew (Below.refl w4.heap.size w4))).frS hfr5 (by decide)
            have r85 : Row W5 g _ _ := (show Row w4.drew g _ _ from r84).upd hu5 (by omega)
            have hB5 := (below_drew hB4).trans (hu5.below hgB)
            clear hu5 hfr5 rBd hI4 hB4 hxr4 hc4 r84 hw34 rB hlt4
            have hch := chs_cases ts i
            have hlF := fit4_length xs
            obtain ⟨c, hcc⟩ : ∃ c : Int, chs ts i = c := ⟨_, rfl⟩
            rw [hcc] at hS3 hch
            have HCC := Lib.hid hcc
            have HLF := Lib.hid hlF
            clear hcc hlF
            generalize fitL 4 xs = F at *
            generalize (D.write (q : Int) xs) = D5 at *
            go_upto_region 19 with fail
            have hpick : (¬ (i : Int) < (l2 : Int) ∧ c = 0) ∨ ((i : Int) < (l2 : Int) ∧ ∃ tv e1 : Int, W5.cell? (ad2A A2 i) = some (.int .i64 tv) ∧ (∃ ad2, A2 = some ad2) ∧ tv.tmod 3 = e1 ∧ -2 ≤ e1 ∧ e1 ≤ 2 ∧ (e1 + 3).tmod 3 = c) := by
              by_cases h : (i : Int) < (l2 : Int)
              · right
                refine ⟨h, ?_⟩
                have hil : i < l2 := by omega
                have hRr : Rd W5 A2 l2 (iv ts) := hR.below hB5 (Nat.le_refl _)
                obtain ⟨ad2, v2, rfl, hv2, hc2⟩ := hRr.at_ hil
                have hlen : ts.length = l2 := by have := hR.1; rwa [iv_length] at this
                rw [iv_get, List.getElem?_eq_getElem (by omega)] at hv2
                cases hv2
                have htw := HTS.out ts[i] (List.getElem_mem _)
                have hcs := chs_some (List.getElem?_eq_getElem (l := ts) (i := i) (by omega))
                rw [HCC.out] at hcs
                refine ⟨ts[i], ts[i].tmod 3, hc2, ⟨_, rfl⟩, rfl, ?_, ?_, ?_⟩
                · have := Int.tmod_lt_of_pos ts[i] (b := 3) (by decide); have h2 := Int.lt_tmod_of_pos ts[i] (b := 3) (by decide); omega
                · have := Int.tmod_lt_of_pos ts[i] (b := 3) (by decide); omega
                · rw [chs_mod _ htw]; exact hcs.symm
              · left
                refine ⟨h, ?_⟩
                rw [← HCC.out]
                exact chs_none (by have := hR.1; rw [iv_length] at this; omega)
            rcases hpick with ⟨hn, hc0'⟩ | ⟨hil, tv, e1, hcv, ⟨ad2, hA2⟩, ht1, hb1, hb2, ht2⟩
            · subst hc0'
              go_upto_region 21 with fail
              have hw35 : q * 4 + (bv F).length ≤ (bv ws).length := by rw [bv_length, bv_length, HL.out, HLF.out]; omega
              go_upto_region 23 with (first | (apply wpl_loadS (ty := 41); rfl; rfl; rfl; kernel_rfl; exact r5B; (simp only [List.size_toArray, bv_length, HLF.out]; kernel_rfl); simp only [Act.put, List.setIfInBounds_toArray, List.set_cons_zero, List.set_cons_succ]) | (refine wpl_storeMid (cells := bv F) (old := bv ws) (g := g) (off := q * 4) (t := 42) rfl rfl (by first | rfl | (go_simp; rfl)) (by first | rfl | (go_simp; rfl)) r85 (by rw [bv_length, HLF.out]; kernel_rfl) hw35 (bv_cells _) ?_; intro W6 hu6; simp only [Act.put]))
              have r86 : Row W6 g _ _ := hu6.row
              rw [Nat.mul_comm q 4, spl_pt4 HLF.out] at r86
              have hI6 := hI5.frS (FR.of_upd (S := [42]) (M := []) hu6 r85 (by simp) hgb) (by decide)
              have hB6 := hB5.trans (hu6.below hgb)
              clear hu6 hw35 hI5 r85 hB5 r5B
              replace hS3 : S2 D5 (pt4 ws q F) ts (i + 1) := hS3
              go_wp2_with fail
              go_loopw [13] (fun s13 wq => s13 = .int .i64 0 ∧ In wq w.heap.size b D5 (21 + i + 1) ∧ Row wq g (bv (pt4 ws q F)).toArray 42 ∧ Below w.heap.size w wq) (fun _ _ => 0)
              case atStart => exact ⟨rfl, hI6, r86, hB6⟩
              case round =>
                obtain ⟨rfl, hIq, r8q, hBq⟩ := hrel
                clear hI6 r86 hB6
                go_wp2_with fail
                go_roundw
                case rel => exact ⟨i + 1, D5, _, by omega, by go_num, hS3, hIq.monoS (by omega), r8q, hBq⟩
                case measure => simp [intOf]; omega
            · subst hA2
              replace hcv : W5.cell? (ad2.add i) = some (.int .i64 tv) := hcv
              have hw9 : IntKind.i64.wrap (e1 + 3) = e1 + 3 := IntWalk.i64_in _ (by omega)
              have hw8 : IntKind.i64.wrap e1 = e1 := IntWalk.i64_in _ (by omega)
              go_upto_region 21 with fail
              clear hcv ht1 hb1 hb2 ht2 hw9 hw8
              rcases hch with rfl | rfl | rfl
              · have hw35 : q * 4 + (bv F).length ≤ (bv ws).length := by rw [bv_length, bv_length, HL.out, HLF.out]; omega
                go_upto_region 23 with (first | (apply wpl_loadS (ty := 41); rfl; rfl; rfl; kernel_rfl; exact r5B; (simp only [List.size_toArray, bv_length, HLF.out]; kernel_rfl); simp only [Act.put, List.setIfInBounds_toArray, List.set_cons_zero, List.set_cons_succ]) | (refine wpl_storeMid (cells := bv F) (old := bv ws) (g := g) (off := q * 4) (t := 42) rfl rfl (by first | rfl | (go_simp; rfl)) (by first | rfl | (go_simp; rfl)) r85 (by rw [bv_length, HLF.out]; kernel_rfl) hw35 (bv_cells _) ?_; intro W6 hu6; simp only [Act.put]))
                have r86 : Row W6 g _ _ := hu6.row
                rw [Nat.mul_comm q 4, spl_pt4 HLF.out] at r86
                have hI6 := hI5.frS (FR.of_upd (S := [42]) (M := []) hu6 r85 (by simp) hgb) (by decide)
                have hB6 := hB5.trans (hu6.below hgb)
                clear hu6 hw35 hI5 r85 hB5 r5B
                replace hS3 : S2 D5 (pt4 ws q F) ts (i + 1) := hS3
                go_wp2_with fail
                go_loopw [13] (fun s13 wq => s13 = .int .i64 0 ∧ In wq w.heap.size b D5 (21 + i + 1) ∧ Row wq g (bv (pt4 ws q F)).toArray 42 ∧ Below w.heap.size w wq) (fun _ _ => 0)
                case atStart => exact ⟨rfl, hI6, r86, hB6⟩
                case round =>
                  obtain ⟨rfl, hIq, r8q, hBq⟩ := hrel
                  clear hI6 r86 hB6
                  go_wp2_with fail
                  go_roundw
                  case rel => exact ⟨i + 1, D5, _, by omega, by go_num, hS3, hIq.monoS (by omega), r8q, hBq⟩
                  case measure => simp [intOf]; omega
              · replace hS3 : S2 D5 ws ts (i + 1) := hS3
                go_wp2_with fail
                go_loopw [13] (fun s13 wq => s13 = .int .i64 0 ∧ In wq w.heap.size b D5 (21 + i + 1) ∧ Row wq g (bv ws).toArray 42 ∧ Below w.heap.size w wq) (fun _ _ => 0)
                case atStart => exact ⟨rfl, hI5, r85, hB5⟩
                case round =>
                  obtain ⟨rfl, hIq, r8q, hBq⟩ := hrel
                  clear hI5 r85 hB5
                  go_wp2_with fail
                  go_roundw
                  case rel => exact ⟨i + 1, D5, _, by omega, by go_num, hS3, hIq.monoS (by omega), r8q, hBq⟩
                  case measure => simp [intOf]; omega
              · replace hS3 : S2 D5 (pt4 ws q (garL F)) ts (i + 1) := hS3
                have r850 : Row W5 g (bv (gk ws q F 0)).toArray 42 := by rw [gk_zero]; exact r85
                clear r85
                go_wp2_with fail
                go_loopw [13] (fun s13 wq => ∃ k : Nat, k ≤ 4 ∧ s13 = .int .i64 (k : Int) ∧ In wq w.heap.size b D5 (21 + i + 1) ∧ Row wq g (bv (gk ws q F k)).toArray 42 ∧ Row wq gB (bv F).toArray 41 ∧ Below w.heap.size w wq) (fun s13 _ => (4 - intOf s13).toNat)
                case atStart => exact ⟨0, by omega, rfl, hI5, r850, r5B, hB5⟩
                case round =>
                  obtain ⟨k, hk, rfl, hIq, r8q, rBq, hBq⟩ := hrel
                  clear hI5 r850 hB5 r5B
                  by_cases hk4 : k < 4
                  · have hk4i : (k : Int) < 4 := by omega
                    have hk0i : (0 : Int) ≤ (k : Int) := by omega
                    have hq8i : (q : Int) < 8 := by omega
                    have hq0i : (0 : Int) ≤ (q : Int) := by omega
                    have hlg := gk_length (k := k) HL.out hq8 HLF.out hk
                    have hstep := gk_step (k := k) HL.out hq8 HLF.out hk4
                    have cb : wr.cell? ⟨gB, k, none⟩ = some (.int .u8 ((F.getD k 0).toNat : Int)) := rBq.cell k (by rw [List.getElem?_toArray, bv_get, List.getD_eq_getElem?_getD, List.getElem?_eq_getElem (by rw [HLF.out]; exact hk4)]; rfl)
                    have ce : wr.cell? ⟨g, q * 4 + k, none⟩ = some (.int .u8 ((((gk ws q F k)[q * 4 + k]?).getD 0).toNat : Int)) := r8q.cell (q * 4 + k) (by rw [List.getElem?_toArray, bv_get, List.getElem?_eq_getElem (by rw [hlg]; omega)]; rfl)
                    have fz : wr.frozen? ⟨g, q * 4 + k, none⟩ = false := r8q.free _
                    have hxr := xor165 (F.getD k 0)
                    have hset : (bv (gk ws q F k)).toArray.setIfInBounds (q * 4 + k) (.int .u8 ((F.getD k 0 ^^^ 165).toNat : Int)) = (bv (gk ws q F (k + 1))).toArray := by
                      rw [← hstep, bv_setA, Nat.mul_comm]
                    have r8n := r8q.set (q * 4 + k) (.int .u8 ((F.getD k 0 ^^^ 165).toNat : Int))
                    rw [hset] at r8n
                    have rBn := rBq.set_other (q * 4 + k) (.int .u8 ((F.getD k 0 ^^^ 165).toNat : Int)) (show gB ≠ g by omega)
                    have hIn := hIq.set (j := q * 4 + k) r8q (.int .u8 ((F.getD k 0 ^^^ 165).toNat : Int)) (by decide) hgb
                    have hBn := hBq.setCell (p := ⟨g, q * 4 + k, none⟩) hgb (.int .u8 ((F.getD k 0 ^^^ 165).toNat : Int))
                    have hgq : g < wr.heap.size := r8q.lt
                    have hgBq : gB < wr.heap.size := rBq.lt
                    have HN := Lib.hid (And.intro hIn (And.intro r8n (And.intro rBn hBn)))
                    clear hIn r8n rBn hBn hset hstep hlg hIq r8q rBq hBq
                    generalize (((gk ws q F k)[q * 4 + k]?).getD 0) = old at *
                    generalize F.getD k 0 ^^^ 165 = z at *
                    generalize F.getD k 0 = x at *
                    go_upto_region 26 with fail
                    (refine wp_region_linN (Below wr.heap.size) (Below wr.heap.size) (wayB _) (wayB _) (fun _ _ h => h) (.free 0 (.free 1 (.free 2 (.free 3 (.free 4 (.free 5 (.hot 6 (.free 7 (.free 8 (.free 9 (.op 10 [(6, 10)] [] [] .nil))))))))))) rfl (by kernel_rfl) (by kernel_rfl) (fun _ _ _ _ _ h => h) ?_; (first | (apply linN_free; (simp only [List.getElem?_toArray, List.getElem?_cons_succ, List.getElem?_cons_zero]; rfl); (rfl); (intro w'; (first | (go_simp; done) | (go_simp; with_reducible rfl) | (go_simp; go_bits; with_reducible rfl) | (go_simp; go_bits; done))); try simp only [Act.put, List.setIfInBounds_toArray, List.set_cons_zero, List.set_cons_succ]) | (apply linN_freeSkip; (simp only [List.getElem?_toArray, List.getElem?_cons_succ, List.getElem?_cons_zero]; rfl); (rfl); try simp only [Act.put, List.setIfInBounds_toArray, List.set_cons_zero, List.set_cons_succ])); (first | (apply linN_free; (simp only [List.getElem?_toArray, List.getElem?_cons_succ, List.getElem?_cons_zero]; rfl); (rfl); (intro w'; (first | (go_simp; done) | (go_simp; with_reducible rfl) | (go_simp; go_bits; with_reducible rfl) | (go_simp; go_bits; done))); try simp only [Act.put, List.setIfInBounds_toArray, List.set_cons_zero, List.set_cons_succ]) | (apply linN_freeSkip; (simp only [List.getElem?_toArray, List.getElem?_cons_succ, List.getElem?_cons_zero]; rfl); (rfl); try simp only [Act.put, List.setIfInBounds_toArray, List.set_cons_zero, List.set_cons_succ])); (first | (apply linN_free; (simp only [List.getElem?_toArray, List.getElem?_cons_succ, List.getElem?_cons_zero]; rfl); (rfl); (intro w'; (first | (go_simp; done) | (go_simp; with_reducible rfl) | (go_simp; go_bits; with_reducible rfl) | (go_simp; go_bits; done))); try simp only [Act.put, List.setIfInBounds_toArray, List.set_cons_zero, List.set_cons_succ]) | (apply linN_freeSkip; (simp only [List.getElem?_toArray, List.getElem?_cons_succ, List.getElem?_cons_zero]; rfl); (rfl); try simp only [Act.put, List.setIfInBounds_toArray, List.set_cons_zero, List.set_cons_succ])); (first | (apply linN_free; (simp only [List.getElem?_toArray, List.getElem?_cons_succ, List.getElem?_cons_zero]; rfl); (rfl); (intro w'; (first | (go_simp; done) | (go_simp; with_reducible rfl) | (go_simp; go_bits; with_reducible rfl) | (go_simp; go_bits; done))); try simp only [Act.put, List.setIfInBounds_toArray, List.set_cons_zero, List.set_cons_succ]) | (apply linN_freeSkip; (simp only [List.getElem?_toArray, List.getElem?_cons_succ, List.getElem?_cons_zero]; rfl); (rfl); try simp only [Act.put, List.setIfInBounds_toArray, List.set_cons_zero, List.set_cons_succ])); (first | (apply linN_free; (simp only [List.getElem?_toArray, List.getElem?_cons_succ, List.getElem?_cons_zero]; rfl); (rfl); (intro w'; (first | (go_simp; done) | (go_simp; with_reducible rfl) | (go_simp; go_bits; with_reducible rfl) | (go_simp; go_bits; done))); try simp only [Act.put, List.setIfInBounds_toArray, List.set_cons_zero, List.set_cons_succ]) | (apply linN_freeSkip; (simp only [List.getElem?_toArray, List.getElem?_cons_succ, List.getElem?_cons_zero]; rfl); (rfl); try simp only [Act.put, List.setIfInBounds_toArray, List.set_cons_zero, List.set_cons_succ])); (first | (apply linN_free; (simp only [List.getElem?_toArray, List.getElem?_cons_succ, List.getElem?_cons_zero]; rfl); (rfl); (intro w'; (first | (go_simp; done) | (go_simp; with_reducible rfl) | (go_simp; go_bits; with_reducible rfl) | (go_simp; go_bits; done))); try simp only [Act.put, List.setIfInBounds_toArray, List.set_cons_zero, List.set_cons_succ]) | (apply linN_freeSkip; (simp only [List.getElem?_toArray, List.getElem?_cons_succ, List.getElem?_cons_zero]; rfl); (rfl); try simp only [Act.put, List.setIfInBounds_toArray, List.set_cons_zero, List.set_cons_succ])); (first | (apply linN_hot; (simp only [List.getElem?_toArray, List.getElem?_cons_succ, List.getElem?_cons_zero]; rfl); (rfl); (intro w' hb'; (try have k_ce := keepB (by first | assumption | omega | (simp; done) | (simp; omega)) hb' ce); (try have k_cb := keepB (by first | assumption | omega | (simp; done) | (simp; omega)) hb' cb); (first | (go_simp; done) | (go_simp; with_reducible rfl) | (go_simp; go_bits; with_reducible rfl) | (go_simp; go_bits; done))); try simp only [Act.put, List.setIfInBounds_toArray, List.set_cons_zero, List.set_cons_succ]) | (apply linN_hotSkip; (simp only [List.getElem?_toArray, List.getElem?_cons_succ, List.getElem?_cons_zero]; rfl); (rfl); try simp only [Act.put, List.setIfInBounds_toArray, List.set_cons_zero, List.set_cons_succ])); (first | (apply linN_free; (simp only [List.getElem?_toArray, List.getElem?_cons_succ, List.getElem?_cons_zero]; rfl); (rfl); (intro w'; (first | (go_simp; done) | (go_simp; with_reducible rfl) | (go_simp; go_bits; with_reducible rfl) | (go_simp; go_bits; done))); try simp only [Act.put, List.setIfInBounds_toArray, List.set_cons_zero, List.set_cons_succ]) | (apply linN_freeSkip; (simp only [List.getElem?_toArray, List.getElem?_cons_succ, List.getElem?_cons_zero]; rfl); (rfl); try simp only [Act.put, List.setIfInBounds_toArray, List.set_cons_zero, List.set_cons_succ])); (first | (apply linN_free; (simp only [List.getElem?_toArray, List.getElem?_cons_succ, List.getElem?_cons_zero]; rfl); (rfl); (intro w'; (first | (go_simp; done) | (go_simp; with_reducible rfl) | (go_simp; go_bits; with_reducible rfl) | (go_simp; go_bits; done))); try simp only [Act.put, List.setIfInBounds_toArray, List.set_cons_zero, List.set_cons_succ]) | (apply linN_freeSkip; (simp only [List.getElem?_toArray, List.getElem?_cons_succ, List.getElem?_cons_zero]; rfl); (rfl); try simp only [Act.put, List.setIfInBounds_toArray, List.set_cons_zero, List.set_cons_succ])); (first | (apply linN_free; (simp only [List.getElem?_toArray, List.getElem?_cons_succ, List.getElem?_cons_zero]; rfl); (rfl); (intro w'; (first | (go_simp; done) | (go_simp; with_reducible rfl) | (go_simp; go_bits; with_reducible rfl) | (go_simp; go_bits; done))); try simp only [Act.put, List.setIfInBounds_toArray, List.set_cons_zero, List.set_cons_succ]) | (apply linN_freeSkip; (simp only [List.getElem?_toArray, List.getElem?_cons_succ, List.getElem?_cons_zero]; rfl); (rfl); try simp only [Act.put, List.setIfInBounds_toArray, List.set_cons_zero, List.set_cons_succ])); (first | (apply linN_pass (wayB _) (wayB _); (simp only [List.getElem?_toArray, List.getElem?_cons_succ, List.getElem?_cons_zero]; rfl); (rfl); try simp only [Act.put, List.setIfInBounds_toArray, List.set_cons_zero, List.set_cons_succ]) | (apply linN_op; (simp only [List.getElem?_toArray, List.getElem?_cons_succ, List.getElem?_cons_zero]; rfl); (rfl); intro K hK; (first | (go_simp; (first | skip))); refine hK _ _ ?_ ?_; (exact trivial); clear hK; try simp only [Act.put, List.setIfInBounds_toArray, List.set_cons_zero, List.set_cons_succ])); refine linN_end ?_)
                    obtain ⟨hIn, r8n, rBn, hBn⟩ := HN.out
                    clear HN ce cb fz
                    go_wp2_with fail
                    go_roundw
                    case rel => exact ⟨k + 1, by omega, by go_num, hIn.below (below_drew (Below.refl _ _)), r8n, rBn, below_drew hBn⟩
                    case measure => simp [intOf]; omega
                  · obtain rfl : k = 4 := by omega
                    simp only [show ((4 : Nat) : Int) = 4 from rfl]
                    rw [gk_four _ _ _ HLF.out] at r8q
                    go_wp2_with fail
                    go_roundw
                    case rel => exact ⟨i + 1, D5, _, by omega, by go_num, hS3, hIq.monoS (by omega), r8q, hBq⟩
                    case measure => simp [intOf]; omega
          · have hor2 : ¬ (i : Int) < (l1 : Int) ∨ ((i : Int) < (l1 : Int) ∧ ¬ (i : Int) < 20) := by omega
            have HCR := Lib.hid (i_crash hIr (by omega) A2 l2 c2 ts (hR.below hBr (Nat.le_refl _)) (fun c hc => HTS.out c hc) (by omega) (fun ad e h0 => by
              subst e
              exact .inl (Rd.block_lt hR (by omega))))
            have hS4 := hS.crash
            rcases hor2 with q | ⟨q1, q2⟩
            all_goals
              go_upto_region 28 with (go_at_call 29; (with_reducible refine HCR.out.mono ?_); rintro e w4 ⟨rfl, hI4, hd4⟩)
              have hB4 := hBr.trans hd4.below
              have r84 := hr8r.dr hd4 (by decide)
              generalize D.crash ts = D4 at *
              replace hI4 : In w4 w.heap.size b D4 50 := hI4.monoS (by omega)
              clear HCR hIr hr8r hBr hd4 hS
              go_wp2_with fail
              go_loopw [14] (fun s14 wr => ∃ (i : Nat) (D : Dk), i ≤ 8 ∧ s14 = .int .i64 (i : Int) ∧ S3 D ws ∧ In wr w.heap.size b D (50 + i) ∧ Row wr g (bv ws).toArray 42 ∧ Below w.heap.size w wr) (fun s14 _ => (8 - intOf s14).toNat)
              case atStart => exact ⟨0, D4, by omega, rfl, hS4, hI4, r84, hB4⟩
              case round =>
                obtain ⟨i, D, hi, rfl, hS, hIr, hr8r, hBr⟩ := hrel
                clear hI4 r84 hB4 hS4
                by_cases h8 : i < 8
                · have h8i : (i : Int) < 8 := by omega
                  have h0i : (0 : Int) ≤ (i : Int) := by omega
                  have hrow := fun (W : World) (h : Row W g (bv ws).toArray 42) => row_part h (i * 4) 4 (by rw [hS.len]; omega)
                  have hrw : (ws.drop (i * 4)).take 4 = rw4 ws i := by unfold rw4; rw [Nat.mul_comm]
                  obtain ⟨x, hx⟩ : ∃ x, strB (rw4 ws i) = x := ⟨_, rfl⟩
                  have HX := Lib.hid hx
                  have s1 : ∀ w', DR dTy w.heap.size wr.drew w' → (convert 22 9 (.slice (some ⟨g, i * 4, none⟩) 4 4)).run Try.prog w' = .ok (.string x) w' := fun w' hd => by
                    have h := hrow w' (Row.dr (show Row wr.drew g _ _ from hr8r) hd (by decide))
                    rw [hrw] at h
                    rw [← HX.out]
                    exact conv_rd h
                  have hwf := wf_i64 (x := (i : Int)) (by omega) (by omega)
                  have hIrd : In wr.drew w.heap.size b D (50 + i) := hIr.below (below_drew (Below.refl _ _))
                  have HST := Lib.hid (i_stable hIrd (by omega) (i : Int) hwf)
                  have HRD := Lib.hid (fun w' (h : In w' w.heap.size b D (50 + i)) => i_read h (by omega) hS.fr.goes (i : Int) hwf)
                  have hst := hS.st i h8
                  have hnw := hS.nw i h8
                  have HSt := Lib.hid hst
                  have HNw := Lib.hid hnw
                  have hSr := hS.read (i : Int)
                  have hBd : Below w.heap.size w wr.drew := below_drew hBr
                  have hr8d : Row wr.drew g _ _ := hr8r
                  clear hrow hrw hx hst hnw hS hIr hIrd
                  go_upto_region 31 with fail
                  (refine wp_region_linN (DR dTy w.heap.size) (DR dTy w.heap.size) (wayD dTy w.heap.size) (wayD dTy w.heap.size) (fun _ _ h => h) (.free 0 (.free 1 (.free 4 (.free 5 (.free 6 (.hot 7 (.op 2 [] [7] [] (.hot 3 (.free 8 (.free 9 (.free 10 (.free 11 (.free 14 (.free 15 (.free 16 (.hot 17 (.op 12 [(9, 12), (8, 9), (3, 8), (7, 8)] [17] [] (.hot 13 (.free 18 (.free 19 .nil)))))))))))))))))))) rfl (by kernel_rfl) (by kernel_rfl) (fun _ _ _ _ _ h => h) ?_; (first | (apply linN_free; (simp only [List.getElem?_toArray, List.getElem?_cons_succ, List.getElem?_cons_zero]; rfl); (rfl); (intro w'; (first | (go_simp; done) | (go_simp; with_reducible rfl) | (go_simp; go_bits; with_reducible rfl) | (go_simp; go_bits; done))); try simp only [Act.put, List.setIfInBounds_toArray, List.set_cons_zero, List.set_cons_succ]) | (apply linN_freeSkip; (simp only [List.getElem?_toArray, List.getElem?_cons_succ, List.getElem?_cons_zero]; rfl); (rfl); try simp only [Act.put, List.setIfInBounds_toArray, List.set_cons_zero, List.set_cons_succ])); (first | (apply linN_free; (simp only [List.getElem?_toArray, List.getElem?_cons_succ, List.getElem?_cons_zero]; rfl); (rfl); (intro w'; (first | (go_simp; done) | (go_simp; with_reducible rfl) | (go_simp; go_bits; with_reducible rfl) | (go_simp; go_bits; done))); try simp only [Act.put, List.setIfInBounds_toArray, List.set_cons_zero, List.set_cons_succ]) | (apply linN_freeSkip; (simp only [List.getElem?_toArray, List.getElem?_cons_succ, List.getElem?_cons_zero]; rfl); (rfl); try simp only [Act.put, List.setIfInBounds_toArray, List.set_cons_zero, List.set_cons_succ])); (first | (apply linN_free; (simp only [List.getElem?_toArray, List.getElem?_cons_succ, List.getElem?_cons_zero]; rfl); (rfl); (intro w'; (first | (go_simp; done) | (go_simp; with_reducible rfl) | (go_simp; go_bits; with_reducible rfl) | (go_simp; go_bits; done))); try simp only [Act.put, List.setIfInBounds_toArray, List.set_cons_zero, List.set_cons_succ]) | (apply linN_freeSkip; (simp only [List.getElem?_toArray, List.getElem?_cons_succ, List.getElem?_cons_zero]; rfl); (rfl); try simp only [Act.put, List.setIfInBounds_toArray, List.set_cons_zero, List.set_cons_succ])); (first | (apply linN_free; (simp only [List.getElem?_toArray, List.getElem?_cons_succ, List.getElem?_cons_zero]; rfl); (rfl); (intro w'; (first | (go_simp; done) | (go_simp; with_reducible rfl) | (go_simp; go_bits; with_reducible rfl) | (go_simp; go_bits; done))); try simp only [Act.put, List.setIfInBounds_toArray, List.set_cons_zero, List.set_cons_succ]) | (apply linN_freeSkip; (simp only [List.getElem?_toArray, List.getElem?_cons_succ, List.getElem?_cons_zero]; rfl); (rfl); try simp only [Act.put, List.setIfInBounds_toArray, List.set_cons_zero, List.set_cons_succ])); (first | (apply linN_free; (simp only [List.getElem?_toArray, List.getElem?_cons_succ, List.getElem?_cons_zero]; rfl); (rfl); (intro w'; (first | (go_simp; done) | (go_simp; with_reducible rfl) | (go_simp; go_bits; with_reducible rfl) | (go_simp; go_bits; done))); try simp only [Act.put, List.setIfInBounds_toArray, List.set_cons_zero, List.set_cons_succ]) | (apply linN_freeSkip; (simp only [List.getElem?_toArray, List.getElem?_cons_succ, List.getElem?_cons_zero]; rfl); (rfl); try simp only [Act.put, List.setIfInBounds_toArray, List.set_cons_zero, List.set_cons_succ])); (first | (apply linN_hot; (simp only [List.getElem?_toArray, List.getElem?_cons_succ, List.getElem?_cons_zero]; rfl); (rfl); (intro w' hb'; (try have t1 := s1 _ hb'); (try have t4 := s1 _ (DR.trans hd5 hb')); (try have t2 := s2 _ hb'); (try have t3 := s3 _ hb'); (first | (go_simp; done) | (go_simp; with_reducible rfl) | (go_simp; go_bits; with_reducible rfl) | (go_simp; go_bits; done))); try simp only [Act.put, List.setIfInBounds_toArray, List.set_cons_zero, List.set_cons_succ]) | (apply linN_hotSkip; (simp only [List.getElem?_toArray, List.getElem?_cons_succ, List.getElem?_cons_zero]; rfl); (rfl); try simp only [Act.put, List.setIfInBounds_toArray, List.set_cons_zero, List.set_cons_succ])); (first | (apply linN_pass (wayD dTy w.heap.size) (wayD dTy w.heap.size); (simp only [List.getElem?_toArray, List.getElem?_cons_succ, List.getElem?_cons_zero]; rfl); (rfl); try simp only [Act.put, List.setIfInBounds_toArray, List.set_cons_zero, List.set_cons_succ]) | (apply linN_op; (simp only [List.getElem?_toArray, List.getElem?_cons_succ, List.getElem?_cons_zero]; rfl); (rfl); intro K hK; (first | (go_simp; (first | (go_at_call 22; (with_reducible refine HST.out.mono ?_); rintro e w5 ⟨v5, rfl, ho5, hIr5, hb5⟩; rw [HSt.out] at ho5; have hd5 : DR dTy w.heap.size _ w5 := DR.of_below hb5 (show w.heap.size ≤ wr.heap.size from hBr.size); have hdr2 := hd5; have s2 : ∀ w', DR dTy w.heap.size w5 w' → (convert 22 9 v5).run Try.prog w' = .ok (.string x) w' := fun w' hd => (by obtain ⟨Aq, cq, rfl, -, -, rq, -⟩ := (BytesAt.of_own (base := w.heap.size) ho5).keep hd (by decide); rw [← HX.out]; exact conv_rd rq)) | (go_at_call 20; (with_reducible refine (HRD.out _ hIr5).mono ?_); rintro e w6 ⟨v6, rfl, ho6, hI6, hd6⟩; rw [HNw.out] at ho6; have hdr2 := hd6; have s3 : ∀ w', DR dTy w.heap.size w6 w' → (convert 22 9 v6).run Try.prog w' = .ok (.string x) w' := fun w' hd => (by obtain ⟨Aq, cq, rfl, -, -, rq, -⟩ := (BytesAt.of_own (base := w.heap.size) ho6).keep hd (by decide); rw [← HX.out]; exact conv_rd rq)) | skip))); refine hK _ _ ?_ ?_; (show (DR dTy w.heap.size) _ _; (first | exact hdr2 | assumption | exact (wayD dTy w.heap.size).refl _ | exact (wayD dTy w.heap.size).refl _ | exact Below.refl _ _ | exact ⟨rfl, rfl, rfl, Nat.le_refl _, fun _ _ => rfl⟩ | exact but_set _ _ _ _ _ | exact but_drew (but_set _ _ _ _ _) | exact but_upd (by assumption) | exact but_below (by assumption) | exact belowB_alloc (by first | omega | (simp; done) | (simp; omega)) _ | exact belowB_mono (by first | omega | (simp; done) | (simp; omega)) (by assumption) | (first | exact rg_alloc (by simp; omega) (by simp; omega) _ | exact FR.of_below (below_alloc (Below.refl _ _) _) (by first | assumption | (simp; omega)) | exact DR.of_below (below_alloc (Below.refl _ _) _) (by first | assumption | (simp; omega))))); clear hK; try simp only [Act.put, List.setIfInBounds_toArray, List.set_cons_zero, List.set_cons_succ])); (first | (apply linN_hot; (simp only [List.getElem?_toArray, List.getElem?_cons_succ, List.getElem?_cons_zero]; rfl); (rfl); (intro w' hb'; (try have t1 := s1 _ hb'); (try have t4 := s1 _ (DR.trans hd5 hb')); (try have t2 := s2 _ hb'); (try have t3 := s3 _ hb'); (first | (go_simp; done) | (go_simp; with_reducible rfl) | (go_simp; go_bits; with_reducible rfl) | (go_simp; go_bits; done))); try simp only [Act.put, List.setIfInBounds_toArray, List.set_cons_zero, List.set_cons_succ]) | (apply linN_hotSkip; (simp only [List.getElem?_toArray, List.getElem?_cons_succ, List.getElem?_cons_zero]; rfl); (rfl); try simp only [Act.put, List.setIfInBounds_toArray, List.set_cons_zero, List.set_cons_succ])); (first | (apply linN_free; (simp only [List.getElem?_toArray, List.getElem?_cons_succ, List.getElem?_cons_zero]; rfl); (rfl); (intro w'; (first | (go_simp; done) | (go_simp; with_reducible rfl) | (go_simp; go_bits; with_reducible rfl) | (go_simp; go_bits; done))); try simp only [Act.put, List.setIfInBounds_toArray, List.set_cons_zero, List.set_cons_succ]) | (apply linN_freeSkip; (simp only [List.getElem?_toArray, List.getElem?_cons_succ, List.getElem?_cons_zero]; rfl); (rfl); try simp only [Act.put, List.setIfInBounds_toArray, List.set_cons_zero, List.set_cons_succ])); (first | (apply linN_free; (simp only [List.getElem?_toArray, List.getElem?_cons_succ, List.getElem?_cons_zero]; rfl); (rfl); (intro w'; (first | (go_simp; done) | (go_simp; with_reducible rfl) | (go_simp; go_bits; with_reducible rfl) | (go_simp; go_bits; done))); try simp only [Act.put, List.setIfInBounds_toArray, List.set_cons_zero, List.set_cons_succ]) | (apply linN_freeSkip; (simp only [List.getElem?_toArray, List.getElem?_cons_succ, List.getElem?_cons_zero]; rfl); (rfl); try simp only [Act.put, List.setIfInBounds_toArray, List.set_cons_zero, List.set_cons_succ])); (first | (apply linN_free; (simp only [List.getElem?_toArray, List.getElem?_cons_succ, List.getElem?_cons_zero]; rfl); (rfl); (intro w'; (first | (go_simp; done) | (go_simp; with_reducible rfl) | (go_simp; go_bits; with_reducible rfl) | (go_simp; go_bits; done))); try simp only [Act.put, List.setIfInBounds_toArray, List.set_cons_zero, List.set_cons_succ]) | (apply linN_freeSkip; (simp only [List.getElem?_toArray, List.getElem?_cons_succ, List.getElem?_cons_zero]; rfl); (rfl); try simp only [Act.put, List.setIfInBounds_toArray, List.set_cons_zero, List.set_cons_succ])); (first | (apply linN_free; (simp only [List.getElem?_toArray, List.getElem?_cons_succ, List.getElem?_cons_zero]; rfl); (rfl); (intro w'; (first | (go_simp; done) | (go_simp; with_reducible rfl) | (go_simp; go_bits; with_reducible rfl) | (go_simp; go_bits; done))); try simp only [Act.put, List.setIfInBounds_toArray, List.set_cons_zero, List.set_cons_succ]) | (apply linN_freeSkip; (simp only [List.getElem?_toArray, List.getElem?_cons_succ, List.getElem?_cons_zero]; rfl); (rfl); try simp only [Act.put, List.setIfInBounds_toArray, List.set_cons_zero, List.set_cons_succ])); (first | (apply linN_free; (simp only [List.getElem?_toArray, List.getElem?_cons_succ, List.getElem?_cons_zero]; rfl); (rfl); (intro w'; (first | (go_simp; done) | (go_simp; with_reducible rfl) | (go_simp; go_bits; with_reducible rfl) | (go_simp; go_bits; done))); try simp only [Act.put, List.setIfInBounds_toArray, List.set_cons_zero, List.set_cons_succ]) | (apply linN_freeSkip; (simp only [List.getElem?_toArray, List.getElem?_cons_succ, List.getElem?_cons_zero]; rfl); (rfl); try simp only [Act.put, List.setIfInBounds_toArray, List.set_cons_zero, List.set_cons_succ])); (first | (apply linN_free; (simp only [List.getElem?_toArray, List.getElem?_cons_succ, List.getElem?_cons_zero]; rfl); (rfl); (intro w'; (first | (go_simp; done) | (go_simp; with_reducible rfl) | (go_simp; go_bits; with_reducible rfl) | (go_simp; go_bits; done))); try simp only [Act.put, List.setIfInBounds_toArray, List.set_cons_zero, List.set_cons_succ]) | (apply linN_freeSkip; (simp only [List.getElem?_toArray, List.getElem?_cons_succ, List.getElem?_cons_zero]; rfl); (rfl); try simp only [Act.put, List.setIfInBounds_toArray, List.set_cons_zero, List.set_cons_succ])); (first | (apply linN_free; (simp only [List.getElem?_toArray, List.getElem?_cons_succ, List.getElem?_cons_zero]; rfl); (rfl); (intro w'; (first | (go_simp; done) | (go_simp; with_reducible rfl) | (go_simp; go_bits; with_reducible rfl) | (go_simp; go_bits; done))); try simp only [Act.put, List.setIfInBounds_toArray, List.set_cons_zero, List.set_cons_succ]) | (apply linN_freeSkip; (simp only [List.getElem?_toArray, List.getElem?_cons_succ, List.getElem?_cons_zero]; rfl); (rfl); try simp only [Act.put, List.setIfInBounds_toArray, List.set_cons_zero, List.set_cons_succ])); (first | (apply linN_hot; (simp only [List.getElem?_toArray, List.getElem?_cons_succ, List.getElem?_cons_zero]; rfl); (rfl); (intro w' hb'; (try have t1 := s1 _ hb'); (try have t4 := s1 _ (DR.trans hd5 hb')); (try have t2 := s2 _ hb'); (try have t3 := s3 _ hb'); (first | (go_simp; done) | (go_simp; with_reducible rfl) | (go_simp; go_bits; with_reducible rfl) | (go_simp; go_bits; done))); try simp only [Act.put, List.setIfInBounds_toArray, List.set_cons_zero, List.set_cons_succ]) | (apply linN_hotSkip; (simp only [List.getElem?_toArray, List.getElem?_cons_succ, List.getElem?_cons_zero]; rfl); (rfl); try simp only [Act.put, List.setIfInBounds_toArray, List.set_cons_zero, List.set_cons_succ])); (first | (apply linN_pass (wayD dTy w.heap.size) (wayD dTy w.heap.size); (simp only [List.getElem?_toArray, List.getElem?_cons_succ, List.getElem?_cons_zero]; rfl); (rfl); try simp only [Act.put, List.setIfInBounds_toArray, List.set_cons_zero, List.set_cons_succ]) | (apply linN_op; (simp only [List.getElem?_toArray, List.getElem?_cons_succ, List.getElem?_cons_zero]; rfl); (rfl); intro K hK; (first | (go_simp; (first | (go_at_call 22; (with_reducible refine HST.out.mono ?_); rintro e w5 ⟨v5, rfl, ho5, hIr5, hb5⟩; rw [HSt.out] at ho5; have hd5 : DR dTy w.heap.size _ w5 := DR.of_below hb5 (show w.heap.size ≤ wr.heap.size from hBr.size); have hdr2 := hd5; have s2 : ∀ w', DR dTy w.heap.size w5 w' → (convert 22 9 v5).run Try.prog w' = .ok (.string x) w' := fun w' hd => (by obtain ⟨Aq, cq, rfl, -, -, rq, -⟩ := (BytesAt.of_own (base := w.heap.size) ho5).keep hd (by decide); rw [← HX.out]; exact conv_rd rq)) | (go_at_call 20; (with_reducible refine (HRD.out _ hIr5).mono ?_); rintro e w6 ⟨v6, rfl, ho6, hI6, hd6⟩; rw [HNw.out] at ho6; have hdr2 := hd6; have s3 : ∀ w', DR dTy w.heap.size w6 w' → (convert 22 9 v6).run Try.prog w' = .ok (.string x) w' := fun w' hd => (by obtain ⟨Aq, cq, rfl, -, -, rq, -⟩ := (BytesAt.of_own (base := w.heap.size) ho6).keep hd (by decide); rw [← HX.out]; exact conv_rd rq)) | skip))); refine hK _ _ ?_ ?_; (show (DR dTy w.heap.size) _ _; (first | exact hdr2 | assumption | exact (wayD dTy w.heap.size).refl _ | exact (wayD dTy w.heap.size).refl _ | exact Below.refl _ _ | exact ⟨rfl, rfl, rfl, Nat.le_refl _, fun _ _ => rfl⟩ | exact but_set _ _ _ _ _ | exact but_drew (but_set _ _ _ _ _) | exact but_upd (by assumption) | exact but_below (by assumption) | exact belowB_alloc (by first | omega | (simp; done) | (simp; omega)) _ | exact belowB_mono (by first | omega | (simp; done) | (simp; omega)) (by assumption) | (first | exact rg_alloc (by simp; omega) (by simp; omega) _ | exact FR.of_below (below_alloc (Below.refl _ _) _) (by first | assumption | (simp; omega)) | exact DR.of_below (below_alloc (Below.refl _ _) _) (by first | assumption | (simp; omega))))); clear hK; try simp only [Act.put, List.setIfInBounds_toArray, List.set_cons_zero, List.set_cons_succ])); (first | (apply linN_hot; (simp only [List.getElem?_toArray, List.getElem?_cons_succ, List.getElem?_cons_zero]; rfl); (rfl); (intro w' hb'; (try have t1 := s1 _ hb'); (try have t4 := s1 _ (DR.trans hd5 hb')); (try have t2 := s2 _ hb'); (try have t3 := s3 _ hb'); (first | (go_simp; done) | (go_simp; with_reducible rfl) | (go_simp; go_bits; with_reducible rfl) | (go_simp; go_bits; done))); try simp only [Act.put, List.setIfInBounds_toArray, List.set_cons_zero, List.set_cons_succ]) | (apply linN_hotSkip; (simp only [List.getElem?_toArray, List.getElem?_cons_succ, List.getElem?_cons_zero]; rfl); (rfl); try simp only [Act.put, List.setIfInBounds_toArray, List.set_cons_zero, List.set_cons_succ])); (first | (apply linN_free; (simp only [List.getElem?_toArray, List.getElem?_cons_succ, List.getElem?_cons_zero]; rfl); (rfl); (intro w'; (first | (go_simp; done) | (go_simp; with_reducible rfl) | (go_simp; go_bits; with_reducible rfl) | (go_simp; go_bits; done))); try simp only [Act.put, List.setIfInBounds_toArray, List.set_cons_zero, List.set_cons_succ]) | (apply linN_freeSkip; (simp only [List.getElem?_toArray, List.getElem?_cons_succ, List.getElem?_cons_zero]; rfl); (rfl); try simp only [Act.put, List.setIfInBounds_toArray, List.set_cons_zero, List.set_cons_succ])); (first | (apply linN_free; (simp only [List.getElem?_toArray, List.getElem?_cons_succ, List.getElem?_cons_zero]; rfl); (rfl); (intro w'; (first | (go_simp; done) | (go_simp; with_reducible rfl) | (go_simp; go_bits; with_reducible rfl) | (go_simp; go_bits; done))); try simp only [Act.put, List.setIfInBounds_toArray, List.set_cons_zero, List.set_cons_succ]) | (apply linN_freeSkip; (simp only [List.getElem?_toArray, List.getElem?_cons_succ, List.getElem?_cons_zero]; rfl); (rfl); try simp only [Act.put, List.setIfInBounds_toArray, List.set_cons_zero, List.set_cons_succ])); refine linN_end ?_)
                  have r86 := (hr8d.dr hd5 (by decide)).dr hd6 (by decide)
                  have hB6 := (hBd.trans hd5.below).trans hd6.below
                  clear s1 s2 s3 hd5 hd6 hr8d hBd HST HRD HX HSt HNw hIr5 hr8r hBr
                  go_wp2_with fail
                  go_roundw
                  case rel => exact ⟨i + 1, _, by omega, by go_num, hSr, hI6, r86, hB6⟩
                  case measure => simp [intOf]; omega
                · obtain rfl : i = 8 := by omega
                  simp only [show ((8 : Nat) : Int) = 8 from rfl]
                  go_wp2_with (go_at_call 18; (with_reducible refine (c_awake6 _).mono ?_); rintro e w9 ⟨rfl, hb9⟩)
                  go_ret
                  exact ⟨rfl, below_two hBr hb9⟩
theorem w_DiskStays (a0 : Option Addr) (len0 cap0 : Nat) (a1 : Option Addr) (len1 cap1 : Nat) (a2 : Option Addr) (len2 cap2 : Nat) (z2 : List Int) (w : World) (w0 : IsMat .u8 w a0 len0 cap0) (w1 : IsMat .u8 w a1 len1 cap1) (w2 : IsRow .i64 w a2 len2 cap2 z2) :
    Calls Try.prog 6 #[.slice a0 len0 cap0, .slice a1 len1 cap1, .slice a2 len2 cap2] w fun e w' => e = .returned (.bool true) ∧ Below w.heap.size w w' := by
  obtain ⟨ts, hR, hm, hw⟩ := row_ints w2
  obtain ⟨xss, hM0⟩ := mat_bytes w0
  obtain ⟨yss, hM1⟩ := mat_bytes w1
  exact w_stays0 a0 a1 a2 len0 cap0 len1 cap1 len2 cap2 xss yss ts w hM0 hM1 hR (fun x hx => of_wf_i64' (hw x hx))
end Go.Proofs.Ytlbpmboknmbcgaa
