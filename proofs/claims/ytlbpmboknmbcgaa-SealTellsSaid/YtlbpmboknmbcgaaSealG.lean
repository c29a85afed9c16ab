/- The walk of the reference's Seal. -/
import Derived.Test.YtlbpmboknmbcgaaSealF
set_option linter.unusedVariables false
set_option linter.unusedSimpArgs false
namespace Go.Proofs.Ytlbpmboknmbcgaa
open Go.RowKit

set_option maxHeartbeats 2000000 in
set_option maxRecDepth 100000 in
theorem c_rSeal (key : List UInt8) (hk : key.length = 32) (boot seq : Nat) (hb : boot < 4294967296) (A : Option Addr) (n c : Nat) (plain : List UInt8) (S : Nat) (w : World) (hR : RdB w A n plain) (h1 : n + 22 ≤ S) (h2 : S ≤ 60022) :
    Calls Try.prog 43 #[.agg (bv key).toArray, .int .u32 (boot : Int), .int .u64 (seq : Int), .slice A n c, .int .i64 (S : Int)] w fun e w' => ∃ v, e = .returned (.tuple #[v, .bool true]) ∧ OwnB w' w.heap.size 5 v (sealL key boot seq plain S) ∧ Below w.heap.size w w' := by
  have HK := Lib.hid hk
  clear hk
  have r0 := Row.new w (bv key).toArray 48
  have hB0 := below_alloc (Below.refl w.heap.size w) (.cells (bv key).toArray 48)
  have hR0 := hR.below hB0 (Nat.le_refl _)
  have hz0 : (w.alloc (.cells (bv key).toArray 48)).heap.size = w.heap.size + 1 := by simp
  have hS : ¬ (S : Int) < 22 := by omega
  go_enter Try.func43, Try.ntmps43
  go_upto_region 3 with fail
  generalize w.alloc (.cells (bv key).toArray 48) = w0 at *
  have hln := headL12_length boot seq
  have HLN := Lib.hid hln
  have hall := bv_all (headL12 boot seq)
  have HHD : IsHd boot seq (headL12 boot seq) := ⟨rfl⟩
  have HC := Lib.hid (c_rHead boot seq hb w0)
  clear hln
  generalize headL12 boot seq = H at *
  go_upto_region 4 with (first | (go_at_call 45; (with_reducible refine HC.out.mono ?_); rintro e w1 ⟨rfl, hb1⟩) | (apply wpl_storeN; rfl; rfl; rfl; (first | rfl | simp); rfl; (simp only [List.size_toArray, bv_length, HLN.out]; kernel_rfl); (simp only [List.size_toArray, bv_length, HLN.out]; rfl); exact hall; simp only [Act.put]))
  have r1 := Row.new w1 (bv H).toArray 30
  have q0 := (r0.below hb1 r0.lt).alloc (.cells (bv H).toArray 30)
  have hR1 := (hR0.below hb1 (Nat.le_refl _)).below (below_alloc (Below.refl w1.heap.size w1) (.cells (bv H).toArray 30)) (Nat.le_refl _)
  have hB1 := below_alloc (below_two hB0 hb1) (.cells (bv H).toArray 30)
  have hg1 : w.heap.size < w1.heap.size := by have := hb1.size; omega
  clear r0 hR0 hB0 hb1 HC hz0 hR
  generalize w1.alloc (.cells (bv H).toArray 30) = w2 at *
  generalize w1.heap.size = g1 at *
  have hsb : ((S - 22 : Nat) : Int) = (S : Int) - 22 := by omega
  have HCP := c_rPad A n c plain (S - 22) w2 hR1 (by omega) (by omega)
  rw [hsb] at HCP
  have HCP2 := Lib.hid HCP
  have hpl := padL_length (xs := plain) (most := S - 22) (by have := RdB.len hR1; omega)
  have HPL := Lib.hid hpl
  have HPD : IsPad plain (S - 22) (padL plain (S - 22)) := ⟨rfl⟩
  clear hpl hsb HCP
  generalize padL plain (S - 22) = P at *
  go_upto_region 7 with (go_at_call 76; (with_reducible refine HCP2.out.mono ?_); rintro e w3 ⟨v3, rfl, ho3, hb3⟩)
  obtain ⟨A3, c3, rfl, lc3, -, hr3⟩ := ho3.form
  have k1 := r1.below hb3 r1.lt
  have hz3 := hb3.size
  clear HCP2 hR1
  have hpn : P.length = S - 20 := by rw [HPL.out]; omega
  have hps : P.length ≤ 1000000 := by omega
  have HPN := Lib.hid hpn
  clear hpn
  -- the head, copied, and the text
  have hb4 := below_alloc (Below.refl w3.heap.size w3) (.cells #[] 5)
  have hE := own_empty w3 5
  have l1 := row_all (k1.below hb4 k1.lt) HLN.out
  have hm1 : ([] : List UInt8).length + 12 ≤ 140737488355328 := by decide
  have hz4 : w3.heap.size ≤ (w3.alloc (.cells #[] 5)).heap.size := hb4.size
  have hm2 : H.length + P.length ≤ 140737488355328 := by rw [HLN.out]; omega
  have HSS : IsSum (H ++ P) (sumN (H ++ P)) := ⟨rfl⟩
  have hsl := sumN_lt (H ++ P)
  have hhp : (H ++ P).length ≤ maxLen := by rw [List.length_append, HLN.out]; unfold maxLen; omega
  generalize hsm : sumN (H ++ P) = sm at *
  have HSM := Lib.hid hsm
  clear hsm
  go_wp2_with (first | (at_builtin; refine wpl_cat (w0 := w3) rfl _ _ 22 rfl w3.heap.size 5 Try.underlying22 info_u8 hE rfl l1 rfl hb4 hz4 hm1 ?_; intro v4 w4 ho4 hbb4 hg4 hv4; rw [List.nil_append] at ho4; have hr34 := hr3.below hbb4 (Nat.le_refl _)) | (at_builtin; refine wpl_cat (w0 := w3) rfl _ _ 22 rfl w3.heap.size 5 Try.underlying22 info_u8 ho4 rfl hr34 rfl hbb4 hbb4.size hm2 ?_; intro v5 w5 ho5 hbb5 hg5 hv5; obtain ⟨A5, c5, rfl, lc5, -, hr5⟩ := ho5.form; have HS5 := c_rSum A5 (H ++ P).length c5 (H ++ P) w5 hr5 hhp; rw [HSM.out, List.length_append] at HS5; have HS6 := Lib.hid HS5; clear HS5) | (go_at_call 49; (with_reducible refine HS6.out.mono ?_); rintro e w' ⟨rfl, rfl⟩; have ho35 := ho3.below hbb5) | (go_at_call 77; (with_reducible refine (c_rPut8 sm _).mono ?_); rintro e w6 ⟨A6, c6, rfl, lc6, ho6, hr6, hb6⟩; fail))
  refine (c_rPut8 sm _).mono ?_
  rintro e w6 ⟨A6, c6, rfl, lc6, ho6, hr6, hb6⟩
  have hs25 := Nat.le_trans hz3 hbb5.size
  have ho36 := ho35.below hb6
  have hbb6 : Below w2.heap.size w2 w6 := (hb3.trans (hbb5.mono hz3)).trans (hb6.mono hs25)
  have hin : P ++ leP sm 8 = innerL H P := by unfold innerL; rw [HSM.out]
  have HIN := Lib.hid hin
  have hil : (innerL H P).length = S - 12 := by rw [← HIN.out, List.length_append, leP_length, HPN.out]; omega
  have HIL := Lib.hid hil
  have hlp : P.length + 8 ≤ 140737488355328 := by omega
  clear hin hil HS6 hr5 hv5 hv4 hg4 hg5 ho4 ho5 l1 hE hb4 hr34 hr3 ho3 ho6 k1 ho35 hhp hm1 hm2 hbb4 hb6
  generalize innerL H P = I at *
  go_upto_region 8 with (at_builtin; refine wpl_cat (w0 := w2) rfl _ _ 22 rfl w2.heap.size 5 Try.underlying22 info_u8 ho36 rfl hr6 rfl hbb6 hbb6.size hlp ?_; intro v6 w7 ho7 hbb7 hg6 hv6)
  rw [HIN.out] at ho7
  obtain ⟨A7, c7, rfl, lc7, -, hr7⟩ := ho7.form
  have j0 := q0.below hbb7 q0.lt
  have j1 := r1.below hbb7 r1.lt
  have hxl : (xorL key H I).length = S - 12 := by rw [xorL_length, HIL.out]
  have HXL := Lib.hid hxl
  have HXC := Lib.hid (c_rXor key H HK.out HLN.out A7 c7 I w7 hr7 (by rw [HIL.out]; omega))
  have HXX : IsXor key H I (xorL key H I) := ⟨rfl⟩
  clear hxl q0 r1 hr6 hg6 hv6 hbb6 hb3 hbb5
  generalize xorL key H I = X at *
  go_upto_region 9 with (first | (apply wpl_loadS (ty := 48); rfl; rfl; rfl; kernel_rfl; exact j0; (simp only [List.size_toArray, bv_length, HK.out]; kernel_rfl); simp only [Act.put, List.setIfInBounds_toArray, List.set_cons_zero, List.set_cons_succ]) | (apply wpl_loadS (ty := 30); rfl; rfl; rfl; kernel_rfl; exact j1; (simp only [List.size_toArray, bv_length, HLN.out]; kernel_rfl); simp only [Act.put, List.setIfInBounds_toArray, List.set_cons_zero, List.set_cons_succ]) | (go_at_call 46; (with_reducible refine HXC.out.mono ?_); rintro e w8 ⟨v8, rfl, ho8, hb8⟩))
  obtain ⟨A8, c8, rfl, lc8, -, hr8⟩ := ho8.form
  have j2 := row_all (j1.below hb8 j1.lt) HLN.out
  have hB8 := (below_two hB1 hbb7).trans (hb8.mono (Nat.le_trans hB1.size hbb7.size))
  have hs8 := Nat.le_trans (Nat.le_trans hB1.size hbb7.size) hb8.size
  have hx1 : H.length + X.length ≤ 140737488355328 := by rw [HLN.out, HXL.out]; omega
  have hfin : H ++ X = sealL key boot seq plain S := by
    unfold sealL
    rw [← HXX.out, ← HIN.out, ← HSM.out, ← HPD.out, ← HHD.out]
    rfl
  have HF := Lib.hid hfin
  have hb9 := below_alloc (Below.refl w8.heap.size w8) (.cells #[] 5)
  have hE := own_empty w8 5
  have l1 := j2.below hb9 (Nat.le_refl _)
  have hm1 : ([] : List UInt8).length + 12 ≤ 140737488355328 := by decide
  clear hfin j0 j1 hr7 ho7 hb8 HXC
  go_wp2_with (first | (at_builtin; refine wpl_cat (w0 := w8) rfl _ _ 22 rfl w8.heap.size 5 Try.underlying22 info_u8 hE rfl l1 rfl hb9 hb9.size hm1 ?_; intro v9 w9 ho9 hbb9 hg9 hv9; rw [List.nil_append] at ho9; have hr89 := hr8.below hbb9 (Nat.le_refl _)) | (at_builtin; refine wpl_cat (w0 := w8) rfl _ _ 22 rfl w8.heap.size 5 Try.underlying22 info_u8 ho9 rfl hr89 rfl hbb9 hbb9.size hx1 ?_; intro v10 w10 ho10 hbb10 hg10 hv10))
  go_ret2
  exact ⟨_, rfl, by rw [← HF.out]; exact OwnB.mono ho10 hs8, hB8.trans (hbb10.mono hs8)⟩
set_option maxHeartbeats 2000000 in
set_option maxRecDepth 100000 in
/-- what does not fit is not sealed -/
theorem c_rSealNo (key : List UInt8) (boot seq : Nat) (hb : boot < 4294967296) (A : Option Addr) (n c : Nat) (plain : List UInt8) (S : Int) (w : World) (hR : RdB w A n plain) (h1 : -9223372036854775808 ≤ S) (h2 : S ≤ 1000000) (hn : n ≤ 1000000) (hf : fitsB n S = false) :
    Calls Try.prog 43 #[.agg (bv key).toArray, .int .u32 (boot : Int), .int .u64 (seq : Int), .slice A n c, .int .i64 S] w fun e w' => e = .returned (.tuple #[.slice none 0 0, .bool false]) ∧ Below w.heap.size w w' := by
  have hB0 := below_alloc (Below.refl w.heap.size w) (.cells (bv key).toArray 48)
  have hff : S < 22 ∨ (22 ≤ S ∧ (60000 < S - 22 ∨ S - 22 < (n : Int))) := by
    have : ¬ (fitsB n S = true) := by rw [hf]; decide
    rw [fitsB_iff] at this
    omega
  clear hf hR h1
  generalize hw0 : w.alloc (.cells (bv key).toArray 48) = w0 at *
  have HW0 := Lib.hid hw0
  clear hw0
  have hln := headL12_length boot seq
  have HLN := Lib.hid hln
  have hall := bv_all (headL12 boot seq)
  have HC := Lib.hid (c_rHead boot seq hb w0)
  clear hln
  generalize headL12 boot seq = H at *
  rcases hff with hS | ⟨hS, hff⟩
  · go_enter Try.func43, Try.ntmps43
    go_wp2
    go_ret2
    rw [HW0.out]
    exact ⟨rfl, hB0⟩
  · go_enter Try.func43, Try.ntmps43
    go_upto_region 3 with fail
    rw [HW0.out]
    go_upto_region 4 with (first | (go_at_call 45; (with_reducible refine HC.out.mono ?_); rintro e w1 ⟨rfl, hb1⟩) | (apply wpl_storeN; rfl; rfl; rfl; (first | rfl | simp); rfl; (simp only [List.size_toArray, bv_length, HLN.out]; kernel_rfl); (simp only [List.size_toArray, bv_length, HLN.out]; rfl); exact hall; simp only [Act.put]))
    have hB1 := below_alloc (below_two hB0 hb1) (.cells (bv H).toArray 30)
    generalize w1.alloc (.cells (bv H).toArray 30) = w2 at *
    clear HC hB0 hb1
    go_wp2_with (go_at_call 76; refine (c_rPadNo A n c (S - 22) _ (.inr hff)).mono ?_; rintro e w' ⟨rfl, rfl⟩)
    go_ret2
    exact ⟨rfl, hB1⟩
end Go.Proofs.Ytlbpmboknmbcgaa
