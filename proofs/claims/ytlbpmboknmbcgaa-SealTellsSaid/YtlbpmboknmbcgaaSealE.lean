/- The walk of seal.Seal. -/
import Derived.Test.YtlbpmboknmbcgaaSealD
import Derived.Deep.AppendSrc
set_option linter.unusedVariables false
set_option linter.unusedSimpArgs false
namespace Go.Proofs.Ytlbpmboknmbcgaa
open Go.RowKit

/-- append(s, x...) where s has no room: a row of the call's own -/
theorem run_growB (W : World) (ty : TypeId) (A B : Option Addr) (n m c : Nat) (xs ys : List UInt8) (hr : RdB W A n xs) (hr2 : RdB W B m ys) (hm : 0 < m) (hl : n + m ≤ 10000000) :
    ∃ v1 w1, (Builtin.append_ #[22, 22] ty #[.slice A n n, .slice B m c]).run Try.prog W = .ok v1 w1 ∧ OwnB w1 W.heap.size 5 v1 (xs ++ ys) ∧ Below W.heap.size W w1 := by
  obtain ⟨i, hi, hz, hs, hby⟩ := info_parts8
  have hx := hr.len
  have hy := hr2.len
  have hold : (Builtin.firstCells i.size n (.slice A n n)).run Try.prog W.drew = .ok (bv xs).toArray W.drew := by
    rw [hs]
    cases A with
    | none =>
      have : n = 0 := by
        rcases Nat.eq_zero_or_pos n with h | h
        · exact h
        · obtain ⟨ad, e, _⟩ := hr.2 h; cases e
      subst this
      have : xs = [] := List.eq_nil_of_length_eq_zero hx
      subst this
      rfl
    | some ad =>
      have hc : ∀ j v, (bv xs)[j]? = some v → W.drew.cell? (ad.add j) = some v := by
        intro j v hv
        have hj : j < n := by rw [← hx, ← bv_length]; exact (List.getElem?_eq_some_iff.1 hv).1
        obtain ⟨ad', e, hcc⟩ := hr.2 (by omega)
        cases e
        exact hcc j v hv
      have := run_loadCells_list (P := Try.prog) W.drew ad (bv xs) hc
      rw [bv_length, hx] at this
      simp only [Builtin.firstCells, Nat.mul_one]
      exact this
  obtain ⟨adB, rfl, hcB⟩ := hr2.2 hm
  have hsrc := Src.ofSlice (P := Try.prog) W (size := i.size) (tx := 22) Try.underlying22 adB m c (bv ys) (by rw [bv_length, hs, Nat.mul_one, hy]) hcB (bv_cells ys)
  have hrun := run_append_grow_src (P := Try.prog) W 22 22 ty 5 i (.int .u8 0) Try.underlying22 hi hz A n n (bv xs) hold (.slice (some adB) m c) m (bv ys) hsrc (by omega) (by omega) (by
    have := nextslicecap_le (need := n + m) (old := n) (by omega)
    rw [hby]; omega)
  refine ⟨_, _, hrun, ?_, ⟨rfl, rfl, rfl, by simp, fun j hj => heap_alloc_old W.drew _ hj⟩⟩
  have hlen : (xs ++ ys).length = n + m := by rw [List.length_append, hx, hy]
  have hge := grownCap_ge W (n + m) n 5
  have hcm2 := grownCap_le_maxLen W (n + m) n 5 (by unfold maxLen; omega)
  unfold OwnB
  rw [hlen]
  refine ⟨by rw [bv_length, hlen, Nat.mul_one], .inr ⟨W.heap.size, _, _, rfl, Nat.le_refl _, heap_alloc_new W.drew _, hge, hcm2, ?_, ?_⟩⟩
  · simp [Builtin.zeroCells, Value.cells, bv_length, hx, hy]; omega
  · simp only [Array.toList_append, List.toList_toArray, zc_list, Nat.mul_one]
    rw [bv_append, List.take_append_of_le_length (by simp [bv_length, hx, hy]), List.take_of_length_le (by simp [bv_length, hx, hy])]
theorem wpl_growB {ops : Array Oper} {rest : List Oper} {o : Oper} {a : Act} {Q : Exit → Act → World → Prop} {W : World} {s x : Operand} {A B : Option Addr} {n m c : Nat} {xs ys : List UInt8} (hgd : o.guard = none)
    (ho : o.op = .call { callee := .builtin .append, args := #[s, x], argTypes := #[22, 22] }) (hs : a.eval s = .slice A n n) (hx : a.eval x = .slice B m c)
    (hr : RdB W A n xs) (hr2 : RdB W B m ys) (hm : 0 < m) (hl : n + m ≤ 10000000)
    (hK : ∀ v1 w1, OwnB w1 W.heap.size 5 v1 (xs ++ ys) → Below W.heap.size W w1 → wpList Try.prog ops Q rest (a.put o.dst v1) w1) : wpList Try.prog ops Q (o :: rest) a W := by
  obtain ⟨v1, w1, hrun, ho1, hb1⟩ := run_growB W o.type A B n m c xs ys hr hr2 hm hl
  exact Go.Lib.wpList_append_run W hgd s x _ _ ho _ _ hs hx v1 w1 hrun (hK v1 w1 ho1 hb1)
structure IsPad (xs : List UInt8) (m : Nat) (p : List UInt8) : Prop where
  out : padL xs m = p
structure IsSum (xs : List UInt8) (n : Nat) : Prop where
  out : sumN xs = n
structure IsXor (key h xs ys : List UInt8) : Prop where
  out : xorL key h xs = ys
theorem parts2 {W : World} {g : Nat} {T : TypeId} {A B : Option Addr} {c d : Nat} {xs ys : List UInt8} (h : Row W g #[.slice A xs.length c, .slice B ys.length d] T) (hx : RdB W A xs.length xs) (hy : RdB W B ys.length ys) (h1 : xs.length ≤ 1000000) (h2 : ys.length ≤ 1000000) :
    PartsAt W ⟨g, 0, none⟩ [xs, ys] := by
  intro i zs hz
  match i, hz with
  | 0, hz => cases hz; exact ⟨A, c, by rw [ad_none]; exact h.cell 0 rfl, hx, h1⟩
  | 1, hz => cases hz; exact ⟨B, d, by rw [ad_none]; exact h.cell 1 rfl, hy, h2⟩
  | i + 2, hz => simp at hz
theorem c_roomN (S : Nat) (h : 22 ≤ S) (hm : S ≤ 1000000) (w : World) : Calls Try.prog 42 #[.int .i64 (S : Int)] w fun e w' => e = .returned (.int .i64 ((S - 22 : Nat) : Int)) ∧ w = w' := by
  have e : ((S - 22 : Nat) : Int) = (S : Int) - 22 := by omega
  rw [e]
  clear e
  go_enter Try.func42, Try.ntmps42
  go_wp2
  go_ret
  exact ⟨rfl, rfl⟩
theorem c_room (s : Int) (h1 : -100 ≤ s) (hm : s ≤ 1000000) (w : World) : Calls Try.prog 42 #[.int .i64 s] w fun e w' => e = .returned (.int .i64 (s - 22)) ∧ w = w' := by
  go_enter Try.func42, Try.ntmps42
  go_wp2
  go_ret
  exact ⟨rfl, rfl⟩
set_option maxHeartbeats 2000000 in
set_option maxRecDepth 100000 in
theorem c_seal (key : List UInt8) (hk : key.length = 32) (boot seq : Nat) (hb : boot < 4294967296) (A : Option Addr) (n c : Nat) (plain : List UInt8) (S : Nat) (w : World) (hR : RdB w A n plain) (h1 : n + 22 ≤ S) (h2 : S ≤ 60022) :
    Calls Try.prog 39 #[.agg (bv key).toArray, .int .u32 (boot : Int), .int .u64 (seq : Int), .slice A n c, .int .i64 (S : Int)] w fun e w' => ∃ v, e = .returned (.tuple #[v, .bool true]) ∧ OwnB w' w.heap.size 5 v (sealL key boot seq plain S) ∧ Below w.heap.size w w' := by
  have HK := Lib.hid hk
  clear hk
  have r0 := Row.new w (bv key).toArray 48
  have hB0 := below_alloc (Below.refl w.heap.size w) (.cells (bv key).toArray 48)
  have hR0 := hR.below hB0 (Nat.le_refl _)
  have hz0 : (w.alloc (.cells (bv key).toArray 48)).heap.size = w.heap.size + 1 := by simp
  have hS : 22 ≤ (S : Int) := by omega
  go_enter Try.func39, Try.ntmps39
  go_upto_region 1 with fail
  generalize w.alloc (.cells (bv key).toArray 48) = w0 at *
  have hln := headL12_length boot seq
  have HLN := Lib.hid hln
  have hall := bv_all (headL12 boot seq)
  have HHD : IsHd boot seq (headL12 boot seq) := ⟨rfl⟩
  have HC := Lib.hid (c_head boot seq hb w0)
  clear hln
  generalize headL12 boot seq = H at *
  go_upto_region 2 with (first | (go_at_call 44; refine HC.out.mono ?_; rintro e w1 ⟨rfl, hb1⟩) | (apply wpl_storeN; rfl; rfl; rfl; (first | rfl | simp); rfl; (simp only [List.size_toArray, bv_length, HLN.out]; kernel_rfl); (simp only [List.size_toArray, bv_length, HLN.out]; rfl); exact hall; simp only [Act.put]))
  have r1 := Row.new w1 (bv H).toArray 30
  have q0 := (r0.below hb1 r0.lt).alloc (.cells (bv H).toArray 30)
  have hR1 := (hR0.below hb1 (Nat.le_refl _)).below (below_alloc (Below.refl w1.heap.size w1) (.cells (bv H).toArray 30)) (Nat.le_refl _)
  have hB1 := below_alloc (below_two hB0 hb1) (.cells (bv H).toArray 30)
  have hg1 : w.heap.size < w1.heap.size := by have := hb1.size; omega
  clear r0 hR0 hB0 hb1 HC hz0 hR
  generalize w1.alloc (.cells (bv H).toArray 30) = w2 at *
  generalize w1.heap.size = g1 at *
  have HCP := Lib.hid (c_lePad A n c plain (S - 22) w2 hR1 (by omega) (by omega))
  have hpl := padL_length (xs := plain) (most := S - 22) (by have := RdB.len hR1; omega)
  have HPL := Lib.hid hpl
  have HPD : IsPad plain (S - 22) (padL plain (S - 22)) := ⟨rfl⟩
  clear hpl
  generalize padL plain (S - 22) = P at *
  go_upto_region 7 with (first | (go_at_call 42; refine (c_roomN S (by omega) (by omega) _).mono ?_; rintro e w' ⟨rfl, rfl⟩) | (go_at_call 69; refine HCP.out.mono ?_; rintro e w3 ⟨v3, rfl, ho3, hb3⟩))
  obtain ⟨A3, c3, rfl, lc3, -, hr3⟩ := ho3.form
  have k0 := q0.below hb3 q0.lt
  have k1 := r1.below hb3 r1.lt
  have hB3 := below_two hB1 hb3
  have hz3 := hb3.size
  clear HCP hR1
  have hpn : P.length = S - 20 := by rw [HPL.out]; omega
  have hps : P.length ≤ 1000000 := by omega
  have HPN := Lib.hid hpn
  clear hpn
  go_wp2_with fail
  have hb4 := below_alloc (Below.refl w3.heap.size w3) (.cells #[.slice (some ⟨g1, 0, none⟩) 12 12, .slice A3 P.length c3] 22)
  have rp := Row.new w3 #[.slice (some ⟨g1, 0, none⟩) 12 12, .slice A3 P.length c3] 22
  have ho4 := ho3.below hb4
  have hr4 := hr3.below hb4 (Nat.le_refl _)
  have k0' := k0.below hb4 k0.lt
  have k1' := k1.below hb4 k1.lt
  have hbb4 := hb3.trans (hb4.mono hz3)
  generalize w3.alloc (.cells #[.slice (some ⟨g1, 0, none⟩) 12 12, .slice A3 P.length c3] 22) = w4 at *
  generalize w3.heap.size = g3 at *
  have hpa : PartsAt w4 ⟨g3, 0, none⟩ [H, P] := parts2 (c := 12) (d := c3) (by rw [HLN.out]; exact rp) (by rw [HLN.out]; exact row_all k1' HLN.out) hr4 (by rw [HLN.out]; decide) hps
  have HSC := c_leSum ⟨g3, 0, none⟩ 2 [H, P] w4 hpa (by show 2 ≤ 1000; omega)
  have hfl : [H, P].flatten = H ++ P := by simp
  rw [hfl] at HSC
  have HSS : IsSum (H ++ P) (sumN (H ++ P)) := ⟨rfl⟩
  have hsl := sumN_lt (H ++ P)
  generalize sumN (H ++ P) = sm at *
  refine HSC.mono ?_
  rintro e w' ⟨rfl, rfl⟩
  clear HSC hpa rp hfl ho3 hr3 k0 k1 hb4
  have hin : P ++ leP sm 8 = innerL H P := by unfold innerL; rw [HSS.out]
  have HIN := Lib.hid hin
  have hil : (innerL H P).length = S - 12 := by rw [← HIN.out, List.length_append, leP_length, HPN.out]; omega
  have HIL := Lib.hid hil
  clear hin hil
  go_wp2_with fail
  refine (c_lePut8 sm _).mono ?_
  rintro e w5 ⟨A5, c5, rfl, lc5, ho5, hr5, hb5⟩
  have ho6 := ho4.below hb5
  have k0 := k0'.below hb5 k0'.lt
  have k1 := k1'.below hb5 k1'.lt
  have hsz4 := hbb4.size
  have hbb5 := hbb4.trans (hb5.mono hsz4)
  have hlp : P.length + 8 ≤ 140737488355328 := by omega
  generalize innerL H P = I at *
  clear ho4 hr4 k0' k1' hb5 ho5
  go_upto_region 8 with (at_builtin; refine wpl_cat (w0 := w2) rfl _ _ 22 rfl w2.heap.size 5 Try.underlying22 info_u8 ho6 rfl hr5 rfl hbb5 hbb5.size hlp ?_; intro v6 w6 ho7 hbb6 hg6 hv6)
  rw [HIN.out] at ho7
  obtain ⟨A7, c7, rfl, lc7, -, hr7⟩ := ho7.form
  have j0 := q0.below hbb6 q0.lt
  have j1 := r1.below hbb6 r1.lt
  have hxl : (xorL key H I).length = S - 12 := by rw [xorL_length, HIL.out]
  have HXL := Lib.hid hxl
  have HXC := Lib.hid (c_xor key H HK.out HLN.out A7 c7 I w6 hr7 (by rw [HIL.out]; omega))
  have HXX : IsXor key H I (xorL key H I) := ⟨rfl⟩
  clear hxl k0 k1 q0 r1 ho6 hr5 hbb5 hg6 hv6 hbb4 hb3
  generalize xorL key H I = X at *
  go_upto_region 9 with (first | (apply wpl_loadS (ty := 48); rfl; rfl; rfl; kernel_rfl; exact j0; (simp only [List.size_toArray, bv_length, HK.out]; kernel_rfl); simp only [Act.put, List.setIfInBounds_toArray, List.set_cons_zero, List.set_cons_succ]) | (apply wpl_loadS (ty := 30); rfl; rfl; rfl; kernel_rfl; exact j1; (simp only [List.size_toArray, bv_length, HLN.out]; kernel_rfl); simp only [Act.put, List.setIfInBounds_toArray, List.set_cons_zero, List.set_cons_succ]) | (go_at_call 72; refine HXC.out.mono ?_; rintro e w8 ⟨v8, rfl, ho8, hb8⟩))
  obtain ⟨A8, c8, rfl, lc8, -, hr8⟩ := ho8.form
  have j2 := row_all (j1.below hb8 j1.lt) HLN.out
  have hB8 := (below_two hB1 hbb6).trans (hb8.mono (Nat.le_trans hB1.size hbb6.size))
  have hs8 := Nat.le_trans (Nat.le_trans hB1.size hbb6.size) hb8.size
  have hx0 : 0 < X.length := by rw [HXL.out]; omega
  have hx1 : 12 + X.length ≤ 10000000 := by rw [HXL.out]; omega
  have hfin : H ++ X = sealL key boot seq plain S := by
    unfold sealL
    rw [← HXX.out, ← HIN.out, ← HSS.out, ← HPD.out, ← HHD.out]
    rfl
  have HF := Lib.hid hfin
  clear hfin j0 j1 hr7 ho7 hb8 HXC
  go_wp2_with (at_builtin; refine wpl_growB (xs := H) (ys := X) rfl rfl rfl rfl j2 hr8 hx0 hx1 ?_; intro v9 w9 ho9 hb9)
  go_ret2
  exact ⟨_, rfl, by rw [← HF.out]; exact OwnB.mono ho9 hs8, hB8.trans (hb9.mono hs8)⟩
set_option maxHeartbeats 2000000 in
set_option maxRecDepth 100000 in
/-- what does not fit is not sealed -/
theorem c_sealNo (key : List UInt8) (boot seq : Nat) (hb : boot < 4294967296) (A : Option Addr) (n c : Nat) (plain : List UInt8) (S : Int) (w : World) (hR : RdB w A n plain) (h1 : -100 ≤ S) (h2 : S ≤ 1000000) (hn : n ≤ 1000000) (hf : fitsB n S = false) :
    Calls Try.prog 39 #[.agg (bv key).toArray, .int .u32 (boot : Int), .int .u64 (seq : Int), .slice A n c, .int .i64 S] w fun e w' => e = .returned (.tuple #[.slice none 0 0, .bool false]) ∧ Below w.heap.size w w' := by
  have hB0 := below_alloc (Below.refl w.heap.size w) (.cells (bv key).toArray 48)
  have hR0 := hR.below hB0 (Nat.le_refl _)
  have hff : S < 22 ∨ (22 ≤ S ∧ (60000 < S - 22 ∨ S - 22 < (n : Int))) := by
    have : ¬ (fitsB n S = true) := by rw [hf]; decide
    rw [fitsB_iff] at this
    omega
  clear hf
  generalize hw0 : w.alloc (.cells (bv key).toArray 48) = w0 at *
  have HW0 := Lib.hid hw0
  clear hw0
  have hln := headL12_length boot seq
  have HLN := Lib.hid hln
  have hall := bv_all (headL12 boot seq)
  have HC := Lib.hid (c_head boot seq hb w0)
  clear hln
  generalize headL12 boot seq = H at *
  rcases hff with hS | ⟨hS, hff⟩
  all_goals
    go_enter Try.func39, Try.ntmps39
    go_upto_region 1 with fail
    rw [HW0.out]
    go_upto_region 2 with (first | (go_at_call 44; refine HC.out.mono ?_; rintro e w1 ⟨rfl, hb1⟩) | (apply wpl_storeN; rfl; rfl; rfl; (first | rfl | simp); rfl; (simp only [List.size_toArray, bv_length, HLN.out]; kernel_rfl); (simp only [List.size_toArray, bv_length, HLN.out]; rfl); exact hall; simp only [Act.put]))
    have hB1 := below_alloc (below_two hB0 hb1) (.cells (bv H).toArray 30)
    generalize w1.alloc (.cells (bv H).toArray 30) = w2 at *
    clear HC hR0 hB0 hb1 hR
    go_wp2_with (first | (go_at_call 42; refine (c_room S (by omega) (by omega) _).mono ?_; rintro e w' ⟨rfl, rfl⟩) | (go_at_call 69; refine (c_lePadNo A n c (S - 22) _ (.inr hff)).mono ?_; rintro e w' ⟨rfl, rfl⟩))
    go_ret2
    exact ⟨rfl, hB1⟩
end Go.Proofs.Ytlbpmboknmbcgaa
