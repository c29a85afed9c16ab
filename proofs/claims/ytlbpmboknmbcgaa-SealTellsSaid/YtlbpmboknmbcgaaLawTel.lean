/- The walk of SealTells. -/
import Derived.Test.YtlbpmboknmbcgaaTel
import Derived.Test.YtlbpmboknmbcgaaMask
import Derived.Test.YtlbpmboknmbcgaaEq12
set_option linter.unusedVariables false
set_option linter.unusedSimpArgs false
namespace Go.Proofs.Ytlbpmboknmbcgaa
open Go.RowKit

set_option maxHeartbeats 8000000 in
set_option maxRecDepth 100000 in
theorem w_tel0 (key : List UInt8) (hk : key.length = 32) (boot seq : Nat) (hb : boot < 4294967296) (hq : seq < 18446744073709551616) (A : Option Addr) (n c : Nat) (plain : List UInt8) (a4 a4m : Int) (A5 : Option Addr) (nr cr : Nat) (raw : List UInt8) (a6 : Int) (m m15 : Nat) (by_ : UInt8) (w : World)
    (hR : RdB w A n plain) (hc : n ≤ c) (hn2 : n ≤ 140737488355328) (hR5 : RdB w A5 nr raw) (hc5 : nr ≤ cr) (hnr2 : nr ≤ 140737488355328) (h4 : -9223372036854775808 ≤ a4) (h4b : a4 ≤ 9223372036854775807) (h4m : bits .and .i64 a4 1023 = a4m) (h4m0 : 0 ≤ a4m) (h4m1 : a4m ≤ 1023)
    (hm : bits .and .i64 a6 65535 = (m : Int)) (hm2 : m ≤ 65535) (hm15 : bits .and .i64 a6 15 = (m15 : Int)) (hm16 : m15 ≤ 15) :
    Calls Try.prog 11 #[.agg (bv key).toArray, .int .u32 (boot : Int), .int .u64 (seq : Int), .slice A n c, .int .i64 a4, .slice A5 nr cr, .int .i64 a6, .int .u8 (by_.toNat : Int)] w fun e w' => e = .returned (.bool true) ∧ Below w.heap.size w w' := by
  have HK2 := Lib.hid hk
  clear hk
  have r0 := Row.new w (bv key).toArray 48
  have hB0 := below_alloc (Below.refl w.heap.size w) (.cells (bv key).toArray 48)
  have hR0 := hR.below hB0 (Nat.le_refl _)
  have hr0 := hR5.below hB0 (Nat.le_refl _)
  have hbl := hR.len
  have hw1 : IntKind.i64.wrap ((n : Int) + (nr : Int)) = (n : Int) + (nr : Int) := IntWalk.i64_in _ (by omega)
  by_cases hbig : (1500 : Int) < (n : Int) + (nr : Int)
  · go_enter Try.func11, Try.ntmps11
    go_wp2_with (go_at_call 38; (with_reducible refine (c_awake7 _).mono ?_); rintro e w9 ⟨rfl, hb9⟩)
    go_ret
    exact ⟨rfl, hB0.trans (hb9.mono hB0.size)⟩
  · have hn : n ≤ 1500 := by omega
    have hnr : nr ≤ 1500 := by omega
    have hcl : 22 + n + m15 ≤ 2000 := by omega
    have HBL := Lib.hid hbl
    clear hn2 hnr2 hbl
    have hsz : ∀ (hS : (2000 : Int) < a4 ∨ ¬ (2000 : Int) < a4), ∃ S0 : Int, -9223372036854775808 ≤ S0 ∧ S0 ≤ 2000 ∧ (((2000 : Int) < a4 ∧ S0 = a4m) ∨ (¬ (2000 : Int) < a4 ∧ S0 = a4)) := by
      rintro (h | h)
      · exact ⟨a4m, by omega, by omega, .inl ⟨h, rfl⟩⟩
      · exact ⟨a4, by omega, by omega, .inr ⟨h, rfl⟩⟩
    obtain ⟨S0, hS0a, hS0b, hS⟩ := hsz (Classical.em _)
    clear hsz
    rcases hS with ⟨hS, rfl⟩ | ⟨hS, rfl⟩
    all_goals
      go_enter Try.func11, Try.ntmps11
      go_upto_region 5 with fail
      generalize w.alloc (.cells (bv key).toArray 48) = w0 at *
      go_wp2_with fail
      go_loopw [4, 5, 17] (fun s4 s5 s17 wr => ∃ (i : Nat) (S : Int) (B : Option Addr) (k d : Nat) (xs : List UInt8), i ≤ 3 ∧ s17 = .int .i64 (i : Int) ∧ s4 = .int .i64 S ∧ -9223372036854775808 ≤ S ∧ S ≤ 2000 ∧ s5 = .slice B k d ∧ k ≤ d ∧ k ≤ 2000 ∧ RdB wr B k xs ∧ Row wr w.heap.size (bv key).toArray 48 ∧ RdB wr A n plain ∧ Below w.heap.size w wr) (fun _ _ i _ => (3 - intOf i).toNat)
      case atStart => exact ⟨0, _, _, _, _, raw, by omega, rfl, rfl, hS0a, hS0b, rfl, hc5, by omega, hr0, r0, hR0, hB0⟩
      case round =>
        clear r0 hR0 hr0 hB0
        obtain ⟨i, S, B, k, d, xs, hi, rfl, rfl, hSa, hSb, rfl, hkd, hk2, hx, r0, hR0, hB⟩ := hrel
        by_cases hlt : i < 3
        · have HC1 := Lib.hid (c_sealT key HK2.out boot seq hb A n c plain S wr hR0 hSa (by omega) (by omega))
          have hi3 : (i : Int) < 3 := by omega
          go_upto_region 9 with (first | (apply wpl_loadS (ty := 48); rfl; rfl; rfl; kernel_rfl; exact r0; (simp only [List.size_toArray, bv_length, HK2.out]; kernel_rfl); simp only [Act.put, List.setIfInBounds_toArray, List.set_cons_zero, List.set_cons_succ]) | (go_at_call 39; (with_reducible refine HC1.out.mono ?_); rintro e w1 ⟨v1, rfl, ho1, hb1⟩))
          obtain ⟨A1, c1, rfl, lc1, -, hr1⟩ := ho1.form
          have r1 := r0.below hb1 r0.lt
          have hB1 := below_two hB hb1
          have hR1 := hR0.below hb1 (Nat.le_refl _)
          have hx1 := hx.below hb1 (Nat.le_refl _)
          clear HC1 ho1 hb1 hB hR0 r0 hx
          have HC2 := Lib.hid (c_rSealT key HK2.out boot seq hb A n c plain S w1 hR1 hSa (by omega) (by omega))
          go_upto_region 10 with (first | (apply wpl_loadS (ty := 48); rfl; rfl; rfl; kernel_rfl; exact r1; (simp only [List.size_toArray, bv_length, HK2.out]; kernel_rfl); simp only [Act.put, List.setIfInBounds_toArray, List.set_cons_zero, List.set_cons_succ]) | (go_at_call 43; (with_reducible refine HC2.out.mono ?_); rintro e w2 ⟨v2, rfl, ho2, hb2⟩))
          obtain ⟨A2, c2, rfl, lc2, -, hr2⟩ := ho2.form
          have r2 := r1.below hb2 r1.lt
          have hB2 := below_two hB1 hb2
          have hR2 := hR1.below hb2 (Nat.le_refl _)
          have hx2 := hx1.below hb2 (Nat.le_refl _)
          have hr12 := hr1.below hb2 (Nat.le_refl _)
          clear HC2 ho2 hb2 hB1 hR1 r1 hx1 hr1
          generalize sealT key boot seq plain n S = sl at *
          generalize fitsB n S = fl at *
          have HC3 := Lib.hid (c_openT key HK2.out B k d xs w2 hx2 hkd (by omega))
          go_upto_region 11 with (first | (apply wpl_loadS (ty := 48); rfl; rfl; rfl; kernel_rfl; exact r2; (simp only [List.size_toArray, bv_length, HK2.out]; kernel_rfl); simp only [Act.put, List.setIfInBounds_toArray, List.set_cons_zero, List.set_cons_succ]) | (go_at_call 40; (with_reducible refine HC3.out.mono ?_); rintro e w3 ⟨v3, rfl, ho3, hb3⟩))
          obtain ⟨A3, c3, rfl, lc3, -, hr3⟩ := ho3.form
          have r3 := r2.below hb3 r2.lt
          have hB3 := below_two hB2 hb3
          have hR3 := hR2.below hb3 (Nat.le_refl _)
          have hx3 := hx2.below hb3 (Nat.le_refl _)
          have hr13 := hr12.below hb3 (Nat.le_refl _)
          have hr23 := hr2.below hb3 (Nat.le_refl _)
          clear HC3 ho3 hb3 hB2 hR2 r2 hx2 hr2 hr12
          have HC4 := Lib.hid (c_rOpenT key HK2.out B k d xs w3 hx3 hkd (by omega))
          go_upto_region 12 with (first | (apply wpl_loadS (ty := 48); rfl; rfl; rfl; kernel_rfl; exact r3; (simp only [List.size_toArray, bv_length, HK2.out]; kernel_rfl); simp only [Act.put, List.setIfInBounds_toArray, List.set_cons_zero, List.set_cons_succ]) | (go_at_call 41; (with_reducible refine HC4.out.mono ?_); rintro e w4 ⟨v4, rfl, ho4, hb4⟩))
          obtain ⟨A4, c4, rfl, lc4, -, hr4⟩ := ho4.form
          have r4 := r3.below hb4 r3.lt
          have hB4 := below_two hB3 hb4
          have hR4 := hR3.below hb4 (Nat.le_refl _)
          have hr14 := hr13.below hb4 (Nat.le_refl _)
          have hr24 := hr23.below hb4 (Nat.le_refl _)
          have hr34 := hr3.below hb4 (Nat.le_refl _)
          clear HC4 ho4 hb4 hB3 hR3 r3 hx3 hr3 hr13 hr23
          generalize opP key xs = op at *
          generalize opB key xs = ob at *
          generalize opS key xs = os_ at *
          generalize (openL key xs).isSome = ok at *
          have HS1 := Lib.hid (c_rSame w4 A1 A2 _ _ c1 c2 sl sl hr14 hr24 true (by simp))
          have HS2 := Lib.hid (c_rSame w4 A3 A4 _ _ c3 c4 op op hr34 hr4 true (by simp))
          have hq12 : ∀ W, (Op.equalIn 10000 30 (.agg (bv (headL12 boot seq)).toArray) (.agg (bv (headL12 boot seq)).toArray)).run Try.prog W = .ok true W := eq12 _ (headL12_length boot seq)
          have HH1 := Lib.hid (c_head boot seq hb w4)
          have HH2 := Lib.hid (fun W => c_rHead boot seq hb W)
          generalize headL12 boot seq = H at *
          go_upto_region 14 with (first | (go_at_call 37; first | ((with_reducible refine HS1.out.mono ?_); rintro e w' ⟨rfl, rfl⟩) | ((with_reducible refine HS2.out.mono ?_); rintro e w' ⟨rfl, rfl⟩)) | (go_at_call 44; (with_reducible refine HH1.out.mono ?_); rintro e w5 ⟨rfl, hb5⟩) | (go_at_call 45; (with_reducible refine (HH2.out _).mono ?_); rintro e w6 ⟨rfl, hb6⟩))
          have r6 := (r4.below hb5 r4.lt).below hb6 (r4.below hb5 r4.lt).lt
          have hB6 := below_two (below_two hB4 hb5) hb6
          have hR6 := (hR4.below hb5 (Nat.le_refl _)).below hb6 (Nat.le_refl _)
          clear HS1 HS2 hq12 HH1 HH2 hb5 hb6 hB4 hR4 r4 hr14 hr24 hr34 hr4
          obtain ⟨T, hT⟩ : ∃ T : Nat, n + 22 + m15 = T := ⟨_, rfl⟩
          have hTi : (n : Int) + 22 + (m15 : Int) = (T : Int) := by omega
          have hT22 : n + 22 ≤ T := by omega
          have hT2 : T ≤ 2000 := by omega
          have HC5 := Lib.hid (c_rSeal key HK2.out boot seq hb A n c plain T w6 hR6 hT22 (by omega))
          have hsl : (sealL key boot seq plain T).length = T := sealL_length (by rw [HBL.out]; exact hT22)
          have HSL := Lib.hid hsl
          clear hT hsl
          generalize sealL key boot seq plain T = X at *
          go_upto_region 16 with (first | (apply wpl_loadS (ty := 48); rfl; rfl; rfl; kernel_rfl; exact r6; (simp only [List.size_toArray, bv_length, HK2.out]; kernel_rfl); simp only [Act.put, List.setIfInBounds_toArray, List.set_cons_zero, List.set_cons_succ]) | (go_at_call 43; (with_reducible refine HC5.out.mono ?_); rintro e w7 ⟨v7, rfl, ho7, hb7⟩))
          obtain ⟨A7, c7, rfl, lc7, -, hr7⟩ := ho7.form
          rw [HSL.out] at hr7 lc7 ⊢
          have r7 := r6.below hb7 r6.lt
          have hB7 := below_two hB6 hb7
          have hR7 := hR6.below hb7 (Nat.le_refl _)
          clear HC5 ho7 hb7 hB6 hR6 r6
          have hEa := own_empty w7 5
          have hBa := below_alloc (Below.refl w7.heap.size w7) (.cells #[] 5)
          have hra := hr7.below hBa (Nat.le_refl _)
          have hm9 : ([] : List UInt8).length + T ≤ 140737488355328 := by simp; omega
          go_upto_region 17 with (at_builtin; refine wpl_cat (w0 := w7) rfl _ _ 22 rfl w7.heap.size 5 Try.underlying22 info_u8 hEa rfl hra rfl hBa hBa.size hm9 ?_; intro v9 w9 ho9 hb9 hg9 hv9; rw [List.nil_append] at ho9)
          have hXT : 0 < X.length := by rw [HSL.out]; omega
          obtain ⟨g9, c9, rfl, lc9, hg9b⟩ : ∃ g9 c9, v9 = .slice (some ⟨g9, 0, none⟩) T c9 ∧ T ≤ c9 ∧ w7.heap.size ≤ g9 := by
            rcases ho9.2 with ⟨_, h⟩ | ⟨g, cap, cur, h, hb, _, hc, _⟩
            · omega
            · exact ⟨g, cap, by rw [h, HSL.out], by rw [← HSL.out]; exact hc, hb⟩
          have r9 := r7.below hb9 r7.lt
          have hB9 := hB7.trans (hb9.mono hB7.size)
          have hR9 := hR7.below hb9 (Nat.le_refl _)
          have hTp : (0 : Int) < (T : Int) := by omega
          have hg9w : w.heap.size < g9 := Nat.lt_of_lt_of_le r7.lt hg9b
          have hr9 : RdB w9 (some ⟨g9, 0, none⟩) T X := by
            unfold OwnB at ho9
            rw [HSL.out] at ho9
            exact Rd.of_own ho9
          clear hEa hBa hra hr7 r7 hB7 hR7 hg9 hv9 hb9
          by_cases h1 : i = 1
          · subst h1
            simp only [show ((1 : Nat) : Int) = 1 from rfl]
            obtain ⟨i, hi⟩ : ∃ i, m % T = i := ⟨_, rfl⟩
            have hiS : i < T := by rw [← hi]; exact Nat.mod_lt _ (by omega)
            have him : (m : Int) % (T : Int) = (i : Int) := by rw [← hi]; omega
            have hit : (m : Int).tmod (T : Int) = (i : Int) := by rw [← him]; exact Int.tmod_eq_emod_of_nonneg (by omega)
            obtain ⟨ce, fz⟩ := ho9.cell (k := i) (by rw [HSL.out]; exact hiS)
            have hset := ho9.set (k := i) (by rw [HSL.out]; exact hiS) ((X[i]?.getD 0) ^^^ by_)
            have hxr := u8_xor (X[i]?.getD 0) by_
            have hl2 : (X.set i ((X[i]?.getD 0) ^^^ by_)).length = T := by rw [List.length_set, HSL.out]
            generalize X.set i ((X[i]?.getD 0) ^^^ by_) = Y at *
            generalize (X[i]?.getD 0) ^^^ by_ = z at *
            generalize X[i]?.getD 0 = y at *
            clear hi ho9
            have hi0 : (0 : Int) ≤ (i : Int) := by omega
            have hi1 : (i : Int) < (T : Int) := by omega
            have hS0 : ¬ (T : Int) = 0 := by omega
            have hBs : Below w.heap.size w (w9.setCell ⟨g9, i, none⟩ (.int .u8 (z.toNat : Int))) := hB9.setCell (p := ⟨g9, i, none⟩) (Nat.le_of_lt hg9w) _
            have rs := r9.set_other i (.int .u8 (z.toNat : Int)) (show w.heap.size ≠ g9 by omega)
            have hy9 : RdB (w9.setCell ⟨g9, i, none⟩ (.int .u8 (z.toNat : Int))) (some ⟨g9, 0, none⟩) T Y := by
              unfold OwnB at hset
              rw [hl2] at hset
              exact Rd.of_own hset
            have hRs := hR.below hBs (Nat.le_refl _)
            clear hset r9 hR9 hB9 hr9 hl2
            go_wp2_with fail
            go_roundw
            case rel => exact ⟨2, (T : Int), _, _, _, Y, by omega, rfl, rfl, by omega, by omega, rfl, lc9, by omega, hy9, rs, hRs, hBs⟩
            case measure => simp [intOf]
          · have h1i : ¬ (i : Int) = 1 := by omega
            go_wp2_with fail
            go_roundw
            case rel => exact ⟨i + 1, (T : Int), _, _, _, X, by omega, by go_num, rfl, by omega, by omega, rfl, lc9, by omega, hr9, r9, hR9, hB9⟩
            case measure => simp [intOf]; omega
        · obtain rfl : i = 3 := by omega
          simp only [show ((3 : Nat) : Int) = 3 from rfl]
          go_wp2_with (go_at_call 38; (with_reducible refine (c_awake7 _).mono ?_); rintro e w9 ⟨rfl, hb9⟩)
          go_ret
          exact ⟨rfl, hB.trans (hb9.mono hB.size)⟩
theorem w_SealTells (y0 : List UInt8) (a1 a2 : Int) (a3 : Option Addr) (len3 cap3 : Nat) (z3 : List Int) (a4 : Int) (a5 : Option Addr) (len5 cap5 : Nat) (z5 : List Int) (a6 a7 : Int) (w : World) (w0 : y0.length = 32) (w1 : (Lit.int .u32 a1).wf = true) (w2 : (Lit.int .u64 a2).wf = true) (w3 : IsRow .u8 w a3 len3 cap3 z3) (s3 : len3 ≤ 140737488355328) (w4 : (Lit.int .i64 a4).wf = true) (w5 : IsRow .u8 w a5 len5 cap5 z5) (s5 : len5 ≤ 140737488355328) (w6 : (Lit.int .i64 a6).wf = true) (w7 : (Lit.int .u8 a7).wf = true) :
    Calls Try.prog 11 #[.agg (bv y0).toArray, .int .u32 a1, .int .u64 a2, .slice a3 len3 cap3, .int .i64 a4, .slice a5 len5 cap5, .int .i64 a6, .int .u8 a7] w fun e w' => e = .returned (.bool true) ∧ Below w.heap.size w w' := by
  have hcap3 : len3 ≤ cap3 := by
    rcases w3 with ⟨_, rfl, rfl, _⟩ | ⟨x, _, h1, h2, _⟩
    · exact Nat.le_refl _
    · exact h1
  have hcap5 : len5 ≤ cap5 := by
    rcases w5 with ⟨_, rfl, rfl, _⟩ | ⟨x, _, h1, h2, _⟩
    · exact Nat.le_refl _
    · exact h1
  obtain ⟨xs, hR, -⟩ := row_bytes w3
  obtain ⟨ys, hR5, -⟩ := row_bytes w5
  have h1 : 0 ≤ a1 ∧ a1 ≤ 4294967295 := by simpa [Lit.wf, IntKind.min, IntKind.max, IntKind.signed, IntKind.bits] using w1
  have h2 : 0 ≤ a2 ∧ a2 ≤ 18446744073709551615 := by simpa [Lit.wf, IntKind.min, IntKind.max, IntKind.signed, IntKind.bits] using w2
  have h4 : -9223372036854775808 ≤ a4 ∧ a4 ≤ 9223372036854775807 := by simpa [Lit.wf, IntKind.min, IntKind.max, IntKind.signed, IntKind.bits] using w4
  have h7 : 0 ≤ a7 ∧ a7 ≤ 255 := by simpa [Lit.wf, IntKind.min, IntKind.max, IntKind.signed, IntKind.bits] using w7
  have e4 := m1023 a4
  have e6 := m65535 a6
  have e15 := m15 a6
  obtain ⟨boot, rfl⟩ : ∃ k : Nat, a1 = (k : Int) := ⟨a1.toNat, by omega⟩
  obtain ⟨seq, rfl⟩ : ∃ k : Nat, a2 = (k : Int) := ⟨a2.toNat, by omega⟩
  obtain ⟨b, rfl⟩ : ∃ b : UInt8, a7 = (b.toNat : Int) := ⟨UInt8.ofNat a7.toNat, by rw [UInt8.toNat_ofNat_of_lt' (show a7.toNat < 256 by omega)]; omega⟩
  obtain ⟨m, hm⟩ : ∃ k : Nat, a6 % 65536 = (k : Int) := ⟨(a6 % 65536).toNat, by omega⟩
  obtain ⟨mf, hmf⟩ : ∃ k : Nat, a6 % 16 = (k : Int) := ⟨(a6 % 16).toNat, by omega⟩
  exact w_tel0 y0 w0 boot seq (by omega) (by omega) a3 len3 cap3 xs a4 (a4 % 1024) a5 len5 cap5 ys a6 m mf b w hR hcap3 s3 hR5 hcap5 s5 h4.1 h4.2 e4 (by omega) (by omega) (by rw [e6, hm]) (by omega) (by rw [e15, hmf]) (by omega)
end Go.Proofs.Ytlbpmboknmbcgaa
