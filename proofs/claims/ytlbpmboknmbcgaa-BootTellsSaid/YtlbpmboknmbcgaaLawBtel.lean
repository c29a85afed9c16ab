/- The walk of BootTells. -/
import Derived.Test.YtlbpmboknmbcgaaAwk8
import Derived.Test.YtlbpmboknmbcgaaMask
set_option linter.unusedVariables false
set_option linter.unusedSimpArgs false
namespace Go.Proofs.Ytlbpmboknmbcgaa
open Go.RowKit

theorem u8_xor' (a b : UInt8) : bits .xor .u8 (a.toNat : Int) (b.toNat : Int) = ((a ^^^ b).toNat : Int) := by
  rw [Go.u8_xor_nat _ _ a.toNat_lt b.toNat_lt, UInt8.toNat_xor]
/-- what stands stays -/
def Kp (w w' : World) : Prop := Below w.heap.size w w'
theorem wayKp : Way Kp := ⟨fun w => Below.refl _ w, fun h1 h2 => below_two h1 h2, fun w => below_drew (Below.refl _ _)⟩
set_option maxHeartbeats 8000000 in
set_option maxRecDepth 100000 in
theorem w_btel0 (n : Nat) (hn : n < 4294967296) (A : Option Addr) (nr cr : Nat) (raw : List UInt8) (a2 a4 : Int) (m m15 : Nat) (by_ : UInt8) (w : World) (hR : RdB w A nr raw) (hc : nr ≤ cr) (hnr : (nr : Int) ≤ 9223372036854775807)
    (hm : bits .and .i64 a2 65535 = (m : Int)) (hm2 : m ≤ 65535) (hm15 : bits .and .i64 a4 15 = (m15 : Int)) (hm16 : m15 ≤ 15) :
    Calls Try.prog 15 #[.int .u32 (n : Int), .slice A nr cr, .int .i64 a2, .int .u8 (by_.toNat : Int), .int .i64 a4] w fun e w' => e = .returned (.bool true) ∧ Below w.heap.size w w' := by
  have HNN := Lib.hid hn
  have hnI : (n : Int) < 4294967296 := by omega
  clear hn
  by_cases hbig : (1000 : Int) < (nr : Int)
  · clear hnI
    go_enter Try.func15, Try.ntmps15
    go_wp2_with (go_at_call 54; (with_reducible refine (c_awake8 _).mono ?_); rintro e w9 ⟨rfl, hb9⟩)
    go_ret
    exact ⟨rfl, hb9⟩
  · have hnr2 : nr ≤ 1000 := by omega
    clear hnr
    go_enter Try.func15, Try.ntmps15
    go_wp2_with fail
    go_loopw [1, 11] (fun s1 s11 wr => ∃ (i : Nat) (B : Option Addr) (k d : Nat) (xs : List UInt8), i ≤ 3 ∧ s11 = .int .i64 (i : Int) ∧ s1 = .slice B k d ∧ k ≤ d ∧ k ≤ 2000 ∧ RdB wr B k xs ∧ Below w.heap.size w wr) (fun _ i _ => (3 - intOf i).toNat)
    case atStart => exact ⟨0, _, _, _, raw, by omega, rfl, rfl, hc, by omega, hR, Below.refl _ _⟩
    case round =>
      obtain ⟨i, B, k, d, xs, hi, rfl, rfl, hkd, hk2, hx, hB⟩ := hrel
      by_cases hlt : i < 3
      · have hi3 : (i : Int) < 3 := by omega
        have HC1 := Lib.hid (c_parse B k d xs wr hx hkd (by omega))
        go_upto_region 7 with (go_at_call 57; (with_reducible refine HC1.out.mono ?_); rintro e w1 ⟨hp, hb1⟩; unfold ParseRes at hp; subst hp)
        have hx1 := hx.below hb1 (Nat.le_refl _)
        have hB1 := below_two hB hb1
        clear HC1 hx hb1 hB
        have HC2 := Lib.hid (c_rParse B k d xs w1 hx1 hkd (by omega))
        go_upto_region 8 with (go_at_call 58; (with_reducible refine HC2.out.mono ?_); rintro e w2 ⟨hp, hb2⟩; unfold ParseRes at hp; subst hp)
        have hB2 := below_two hB1 hb2
        clear HC2 hx1 hb2 hB1
        generalize parseV xs = pv at *
        generalize (parseN xs).isSome = ps at *
        have HR1 := Lib.hid (c_record n HNN.out w2.drew)
        have HR2 := Lib.hid (fun w => c_rRecord n HNN.out w)
        have hlr := recP_length n
        have HRL := Lib.hid hlr
        clear hlr
        obtain ⟨xR, hxR⟩ : ∃ x, strB (recP n) = x := ⟨_, rfl⟩
        have HXR := Lib.hid hxR
        clear hxR
        (refine wp_region_linN (Kp) (Kp) (wayKp) (wayKp) (fun _ _ h => h) (.free 0 (.free 1 (.free 2 (.free 3 (.free 4 (.free 5 (.free 6 (.free 7 (.free 8 (.free 9 (.free 12 (.op 10 [] [] [] (.hot 11 (.op 13 [] [11] [] (.hot 14 (.free 15 (.free 16 .nil))))))))))))))))) rfl (by kernel_rfl) (by kernel_rfl) (fun _ _ _ _ _ h => h) ?_; (first | (apply linN_free; (simp only [List.getElem?_toArray, List.getElem?_cons_succ, List.getElem?_cons_zero]; rfl); (rfl); (intro w'; (first | (go_simp; done) | (go_simp; with_reducible rfl) | (go_simp; go_bits; with_reducible rfl) | (go_simp; go_bits; done))); try simp only [Act.put, List.setIfInBounds_toArray, List.set_cons_zero, List.set_cons_succ]) | (apply linN_freeSkip; (simp only [List.getElem?_toArray, List.getElem?_cons_succ, List.getElem?_cons_zero]; rfl); (rfl); try simp only [Act.put, List.setIfInBounds_toArray, List.set_cons_zero, List.set_cons_succ])); (first | (apply linN_free; (simp only [List.getElem?_toArray, List.getElem?_cons_succ, List.getElem?_cons_zero]; rfl); (rfl); (intro w'; (first | (go_simp; done) | (go_simp; with_reducible rfl) | (go_simp; go_bits; with_reducible rfl) | (go_simp; go_bits; done))); try simp only [Act.put, List.setIfInBounds_toArray, List.set_cons_zero, List.set_cons_succ]) | (apply linN_freeSkip; (simp only [List.getElem?_toArray, List.getElem?_cons_succ, List.getElem?_cons_zero]; rfl); (rfl); try simp only [Act.put, List.setIfInBounds_toArray, List.set_cons_zero, List.set_cons_succ])); (first | (apply linN_free; (simp only [List.getElem?_toArray, List.getElem?_cons_succ, List.getElem?_cons_zero]; rfl); (rfl); (intro w'; (first | (go_simp; done) | (go_simp; with_reducible rfl) | (go_simp; go_bits; with_reducible rfl) | (go_simp; go_bits; done))); try simp only [Act.put, List.setIfInBounds_toArray, List.set_cons_zero, List.set_cons_succ]) | (apply linN_freeSkip; (simp only [List.getElem?_toArray, List.getElem?_cons_succ, List.getElem?_cons_zero]; rfl); (rfl); try simp only [Act.put, List.setIfInBounds_toArray, List.set_cons_zero, List.set_cons_succ])); (first | (apply linN_free; (simp only [List.getElem?_toArray, List.getElem?_cons_succ, List.getElem?_cons_zero]; rfl); (rfl); (intro w'; (first | (go_simp; done) | (go_simp; with_reducible rfl) | (go_simp; go_bits; with_reducible rfl) | (go_simp; go_bits; done))); try simp only [Act.put, List.setIfInBounds_toArray, List.set_cons_zero, List.set_cons_succ]) | (apply linN_freeSkip; (simp only [List.getElem?_toArray, List.getElem?_cons_succ, List.getElem?_cons_zero]; rfl); (rfl); try simp only [Act.put, List.setIfInBounds_toArray, List.set_cons_zero, List.set_cons_succ])); (first | (apply linN_free; (simp only [List.getElem?_toArray, List.getElem?_cons_succ, List.getElem?_cons_zero]; rfl); (rfl); (intro w'; (first | (go_simp; done) | (go_simp; with_reducible rfl) | (go_simp; go_bits; with_reducible rfl) | (go_simp; go_bits; done))); try simp only [Act.put, List.setIfInBounds_toArray, List.set_cons_zero, List.set_cons_succ]) | (apply linN_freeSkip; (simp only [List.getElem?_toArray, List.getElem?_cons_succ, List.getElem?_cons_zero]; rfl); (rfl); try simp only [Act.put, List.setIfInBounds_toArray, List.set_cons_zero, List.set_cons_succ])); (first | (apply linN_free; (simp only [List.getElem?_toArray, List.getElem?_cons_succ, List.getElem?_cons_zero]; rfl); (rfl); (intro w'; (first | (go_simp; done) | (go_simp; with_reducible rfl) | (go_simp; go_bits; with_reducible rfl) | (go_simp; go_bits; done))); try simp only [Act.put, List.setIfInBounds_toArray, List.set_cons_zero, List.set_cons_succ]) | (apply linN_freeSkip; (simp only [List.getElem?_toArray, List.getElem?_cons_succ, List.getElem?_cons_zero]; rfl); (rfl); try simp only [Act.put, List.setIfInBounds_toArray, List.set_cons_zero, List.set_cons_succ])); (first | (apply linN_free; (simp only [List.getElem?_toArray, List.getElem?_cons_succ, List.getElem?_cons_zero]; rfl); (rfl); (intro w'; (first | (go_simp; done) | (go_simp; with_reducible rfl) | (go_simp; go_bits; with_reducible rfl) | (go_simp; go_bits; done))); try simp only [Act.put, List.setIfInBounds_toArray, List.set_cons_zero, List.set_cons_succ]) | (apply linN_freeSkip; (simp only [List.getElem?_toArray, List.getElem?_cons_succ, List.getElem?_cons_zero]; rfl); (rfl); try simp only [Act.put, List.setIfInBounds_toArray, List.set_cons_zero, List.set_cons_succ])); (first | (apply linN_free; (simp only [List.getElem?_toArray, List.getElem?_cons_succ, List.getElem?_cons_zero]; rfl); (rfl); (intro w'; (first | (go_simp; done) | (go_simp; with_reducible rfl) | (go_simp; go_bits; with_reducible rfl) | (go_simp; go_bits; done))); try simp only [Act.put, List.setIfInBounds_toArray, List.set_cons_zero, List.set_cons_succ]) | (apply linN_freeSkip; (simp only [List.getElem?_toArray, List.getElem?_cons_succ, List.getElem?_cons_zero]; rfl); (rfl); try simp only [Act.put, List.setIfInBounds_toArray, List.set_cons_zero, List.set_cons_succ])); (first | (apply linN_free; (simp only [List.getElem?_toArray, List.getElem?_cons_succ, List.getElem?_cons_zero]; rfl); (rfl); (intro w'; (first | (go_simp; done) | (go_simp; with_reducible rfl) | (go_simp; go_bits; with_reducible rfl) | (go_simp; go_bits; done))); try simp only [Act.put, List.setIfInBounds_toArray, List.set_cons_zero, List.set_cons_succ]) | (apply linN_freeSkip; (simp only [List.getElem?_toArray, List.getElem?_cons_succ, List.getElem?_cons_zero]; rfl); (rfl); try simp only [Act.put, List.setIfInBounds_toArray, List.set_cons_zero, List.set_cons_succ])); (first | (apply linN_free; (simp only [List.getElem?_toArray, List.getElem?_cons_succ, List.getElem?_cons_zero]; rfl); (rfl); (intro w'; (first | (go_simp; done) | (go_simp; with_reducible rfl) | (go_simp; go_bits; with_reducible rfl) | (go_simp; go_bits; done))); try simp only [Act.put, List.setIfInBounds_toArray, List.set_cons_zero, List.set_cons_succ]) | (apply linN_freeSkip; (simp only [List.getElem?_toArray, List.getElem?_cons_succ, List.getElem?_cons_zero]; rfl); (rfl); try simp only [Act.put, List.setIfInBounds_toArray, List.set_cons_zero, List.set_cons_succ])); (first | (apply linN_free; (simp only [List.getElem?_toArray, List.getElem?_cons_succ, List.getElem?_cons_zero]; rfl); (rfl); (intro w'; (first | (go_simp; done) | (go_simp; with_reducible rfl) | (go_simp; go_bits; with_reducible rfl) | (go_simp; go_bits; done))); try simp only [Act.put, List.setIfInBounds_toArray, List.set_cons_zero, List.set_cons_succ]) | (apply linN_freeSkip; (simp only [List.getElem?_toArray, List.getElem?_cons_succ, List.getElem?_cons_zero]; rfl); (rfl); try simp only [Act.put, List.setIfInBounds_toArray, List.set_cons_zero, List.set_cons_succ])); (first | (apply linN_pass (wayKp) (wayKp); (simp only [List.getElem?_toArray, List.getElem?_cons_succ, List.getElem?_cons_zero]; rfl); (rfl); try simp only [Act.put, List.setIfInBounds_toArray, List.set_cons_zero, List.set_cons_succ]) | (apply linN_op; (simp only [List.getElem?_toArray, List.getElem?_cons_succ, List.getElem?_cons_zero]; rfl); (rfl); intro K hK; (first | (go_simp; (first | (go_at_call 59; (with_reducible refine HR1.out.mono ?_); rintro e w3 ⟨v3, rfl, ho3, hb3⟩; have s1 : ∀ w', Kp w3 w' → (convert 22 9 v3).run Try.prog w' = .ok (.string xR) w' := fun w' hb => (by rw [← HXR.out]; exact conv_own (ho3.below hb))) | (go_at_call 50; (with_reducible refine (HR2.out _).mono ?_); rintro e w4 ⟨v4, rfl, ho4, hb4⟩; have hdr2 : Kp w3 w4 := hb4; have s2 : ∀ w', Kp w4 w' → (convert 22 9 v4).run Try.prog w' = .ok (.string xR) w' := fun w' hb => (by rw [← HXR.out]; exact conv_own (ho4.below hb))) | skip))); refine hK _ _ ?_ ?_; (exact trivial); clear hK; try simp only [Act.put, List.setIfInBounds_toArray, List.set_cons_zero, List.set_cons_succ])); (first | (apply linN_hot; (simp only [List.getElem?_toArray, List.getElem?_cons_succ, List.getElem?_cons_zero]; rfl); (rfl); (intro w' hb'; (try have t1 := s1 _ hb'); (try have t2 := s2 _ hb'); (first | (go_simp; done) | (go_simp; with_reducible rfl) | (go_simp; go_bits; with_reducible rfl) | (go_simp; go_bits; done))); try simp only [Act.put, List.setIfInBounds_toArray, List.set_cons_zero, List.set_cons_succ]) | (apply linN_hotSkip; (simp only [List.getElem?_toArray, List.getElem?_cons_succ, List.getElem?_cons_zero]; rfl); (rfl); try simp only [Act.put, List.setIfInBounds_toArray, List.set_cons_zero, List.set_cons_succ])); (first | (apply linN_pass (wayKp) (wayKp); (simp only [List.getElem?_toArray, List.getElem?_cons_succ, List.getElem?_cons_zero]; rfl); (rfl); try simp only [Act.put, List.setIfInBounds_toArray, List.set_cons_zero, List.set_cons_succ]) | (apply linN_op; (simp only [List.getElem?_toArray, List.getElem?_cons_succ, List.getElem?_cons_zero]; rfl); (rfl); intro K hK; (first | (go_simp; (first | (go_at_call 59; (with_reducible refine HR1.out.mono ?_); rintro e w3 ⟨v3, rfl, ho3, hb3⟩; have s1 : ∀ w', Kp w3 w' → (convert 22 9 v3).run Try.prog w' = .ok (.string xR) w' := fun w' hb => (by rw [← HXR.out]; exact conv_own (ho3.below hb))) | (go_at_call 50; (with_reducible refine (HR2.out _).mono ?_); rintro e w4 ⟨v4, rfl, ho4, hb4⟩; have hdr2 : Kp w3 w4 := hb4; have s2 : ∀ w', Kp w4 w' → (convert 22 9 v4).run Try.prog w' = .ok (.string xR) w' := fun w' hb => (by rw [← HXR.out]; exact conv_own (ho4.below hb))) | skip))); refine hK _ _ ?_ ?_; (show (Kp) _ _; (first | exact hdr2 | assumption | exact (wayKp).refl _ | exact (wayKp).refl _ | exact Below.refl _ _ | exact ⟨rfl, rfl, rfl, Nat.le_refl _, fun _ _ => rfl⟩ | exact but_set _ _ _ _ _ | exact but_drew (but_set _ _ _ _ _) | exact but_upd (by assumption) | exact but_below (by assumption) | exact belowB_alloc (by first | omega | (simp; done) | (simp; omega)) _ | exact belowB_mono (by first | omega | (simp; done) | (simp; omega)) (by assumption) | (first | exact rg_alloc (by simp; omega) (by simp; omega) _ | exact FR.of_below (below_alloc (Below.refl _ _) _) (by first | assumption | (simp; omega)) | exact DR.of_below (below_alloc (Below.refl _ _) _) (by first | assumption | (simp; omega))))); clear hK; try simp only [Act.put, List.setIfInBounds_toArray, List.set_cons_zero, List.set_cons_succ])); (first | (apply linN_hot; (simp only [List.getElem?_toArray, List.getElem?_cons_succ, List.getElem?_cons_zero]; rfl); (rfl); (intro w' hb'; (try have t1 := s1 _ hb'); (try have t2 := s2 _ hb'); (first | (go_simp; done) | (go_simp; with_reducible rfl) | (go_simp; go_bits; with_reducible rfl) | (go_simp; go_bits; done))); try simp only [Act.put, List.setIfInBounds_toArray, List.set_cons_zero, List.set_cons_succ]) | (apply linN_hotSkip; (simp only [List.getElem?_toArray, List.getElem?_cons_succ, List.getElem?_cons_zero]; rfl); (rfl); try simp only [Act.put, List.setIfInBounds_toArray, List.set_cons_zero, List.set_cons_succ])); (first | (apply linN_free; (simp only [List.getElem?_toArray, List.getElem?_cons_succ, List.getElem?_cons_zero]; rfl); (rfl); (intro w'; (first | (go_simp; done) | (go_simp; with_reducible rfl) | (go_simp; go_bits; with_reducible rfl) | (go_simp; go_bits; done))); try simp only [Act.put, List.setIfInBounds_toArray, List.set_cons_zero, List.set_cons_succ]) | (apply linN_freeSkip; (simp only [List.getElem?_toArray, List.getElem?_cons_succ, List.getElem?_cons_zero]; rfl); (rfl); try simp only [Act.put, List.setIfInBounds_toArray, List.set_cons_zero, List.set_cons_succ])); (first | (apply linN_free; (simp only [List.getElem?_toArray, List.getElem?_cons_succ, List.getElem?_cons_zero]; rfl); (rfl); (intro w'; (first | (go_simp; done) | (go_simp; with_reducible rfl) | (go_simp; go_bits; with_reducible rfl) | (go_simp; go_bits; done))); try simp only [Act.put, List.setIfInBounds_toArray, List.set_cons_zero, List.set_cons_succ]) | (apply linN_freeSkip; (simp only [List.getElem?_toArray, List.getElem?_cons_succ, List.getElem?_cons_zero]; rfl); (rfl); try simp only [Act.put, List.setIfInBounds_toArray, List.set_cons_zero, List.set_cons_succ])); refine linN_end ?_)
        have hB4 : Below w.heap.size w w4 := below_two (below_two (below_drew hB2) hb3) hb4
        clear s1 s2 ho3 ho4 hb3 hb4 hdr2 HR1 HXR hB2
        obtain ⟨T, hT⟩ : ∃ T : Nat, 24 + m15 = T := ⟨_, rfl⟩
        have hT2 : T ≤ 2000 := by omega
        have hTp : 0 < T := by omega
        have hlX : (recP n ++ List.replicate m15 0).length = T := by rw [List.length_append, HRL.out, List.length_replicate]; exact hT
        have HLX := Lib.hid hlX
        have hz1 : 0 < (recP n).length := by rw [HRL.out]; decide
        have hz2 : (recP n).length + m15 ≤ 1000000 := by rw [HRL.out]; omega
        have HZ1 := Lib.hid hz1
        have HZ2 := Lib.hid hz2
        clear hT hlX hz1 hz2
        generalize hX : recP n ++ List.replicate m15 0 = X at *
        have HX := Lib.hid hX
        clear hX
        go_upto_region 11 with (first | (go_at_call 50; (with_reducible refine (HR2.out _).mono ?_); rintro e w5 ⟨v5, rfl, ho5, hb5⟩) | (at_builtin; refine wpl_zeros (k := m15) rfl rfl rfl (by first | rfl | (go_simp; rfl)) ho5 HZ1.out HZ2.out hb5.size hb5 ?_; intro v9 w9 ho9 hb9; rw [HX.out] at ho9))
        have hB9 : Below w.heap.size w w9 := below_two hB4 hb9
        have hXT : 0 < X.length := by rw [HLX.out]; exact hTp
        obtain ⟨g9, c9, rfl, lc9, hg9b⟩ : ∃ g9 c9, v9 = .slice (some ⟨g9, 0, none⟩) T c9 ∧ T ≤ c9 ∧ w4.heap.size ≤ g9 := by
          rcases ho9.2 with ⟨_, h⟩ | ⟨g, cap, cur, h, hb, _, hc, _⟩
          · omega
          · exact ⟨g, cap, by rw [h, HLX.out], by rw [← HLX.out]; exact hc, hb⟩
        have hg9w : w.heap.size ≤ g9 := Nat.le_trans hB4.size hg9b
        have hr9 : RdB w9 (some ⟨g9, 0, none⟩) T X := by
          unfold OwnB at ho9
          rw [HLX.out] at ho9
          exact Rd.of_own ho9
        clear hb9 ho5 hb5 hB4 HR2
        by_cases h1 : i = 1
        · subst h1
          simp only [show ((1 : Nat) : Int) = 1 from rfl]
          obtain ⟨i, hi⟩ : ∃ i, m % T = i := ⟨_, rfl⟩
          have hiS : i < T := by rw [← hi]; exact Nat.mod_lt _ (by omega)
          have him : (m : Int) % (T : Int) = (i : Int) := by rw [← hi]; omega
          have hit : (m : Int).tmod (T : Int) = (i : Int) := by rw [← him]; exact Int.tmod_eq_emod_of_nonneg (by omega)
          obtain ⟨ce, fz⟩ := ho9.cell (k := i) (by rw [HLX.out]; exact hiS)
          have hset := ho9.set (k := i) (by rw [HLX.out]; exact hiS) ((X[i]?.getD 0) ^^^ by_)
          have hxr := u8_xor' (X[i]?.getD 0) by_
          have hl2 : (X.set i ((X[i]?.getD 0) ^^^ by_)).length = T := by rw [List.length_set, HLX.out]
          generalize X.set i ((X[i]?.getD 0) ^^^ by_) = Y at *
          generalize (X[i]?.getD 0) ^^^ by_ = z at *
          generalize X[i]?.getD 0 = y at *
          clear hi ho9
          have hi0 : (0 : Int) ≤ (i : Int) := by omega
          have hi1 : (i : Int) < (T : Int) := by omega
          have hS0 : ¬ (T : Int) = 0 := by omega
          have hBs : Below w.heap.size w (w9.setCell ⟨g9, i, none⟩ (.int .u8 (z.toNat : Int))) := hB9.setCell (p := ⟨g9, i, none⟩) hg9w _
          have hy9 : RdB (w9.setCell ⟨g9, i, none⟩ (.int .u8 (z.toNat : Int))) (some ⟨g9, 0, none⟩) T Y := by
            unfold OwnB at hset
            rw [hl2] at hset
            exact Rd.of_own hset
          clear hset hB9 hr9 hl2
          go_wp2_with fail
          go_roundw
          case rel => exact ⟨2, _, _, _, Y, by omega, rfl, rfl, lc9, by omega, hy9, hBs⟩
          case measure => simp [intOf]
        · have h1i : ¬ (i : Int) = 1 := by omega
          have h1b : ((i : Int) == 1) = false := beq_eq_false_iff_ne.2 h1i
          clear h1i h1
          go_wp2_with fail
          go_roundw
          case rel => exact ⟨i + 1, _, _, _, X, by omega, by go_num, rfl, lc9, by omega, hr9, hB9⟩
          case measure => simp [intOf]; omega
      · obtain rfl : i = 3 := by omega
        simp only [show ((3 : Nat) : Int) = 3 from rfl]
        go_wp2_with (go_at_call 54; (with_reducible refine (c_awake8 _).mono ?_); rintro e w9 ⟨rfl, hb9⟩)
        go_ret
        exact ⟨rfl, hB.trans (hb9.mono hB.size)⟩
theorem w_BootTells (a0 : Int) (a1 : Option Addr) (len1 cap1 : Nat) (z1 : List Int) (a2 a3 a4 : Int) (w : World) (w0 : (Lit.int .u32 a0).wf = true) (w1 : IsRow .u8 w a1 len1 cap1 z1) (w2 : (Lit.int .i64 a2).wf = true) (w3 : (Lit.int .u8 a3).wf = true) (w4 : (Lit.int .i64 a4).wf = true) :
    Calls Try.prog 15 #[.int .u32 a0, .slice a1 len1 cap1, .int .i64 a2, .int .u8 a3, .int .i64 a4] w fun e w' => e = .returned (.bool true) ∧ Below w.heap.size w w' := by
  have hcap : len1 ≤ cap1 := by
    rcases w1 with ⟨_, rfl, rfl, _⟩ | ⟨x, _, h1, h2, _⟩
    · exact Nat.le_refl _
    · exact h1
  obtain ⟨xs, hR, hm⟩ := row_bytes w1
  have hmx : len1 ≤ 9223372036854775807 := hm
  have h0 : 0 ≤ a0 ∧ a0 ≤ 4294967295 := by simpa [Lit.wf, IntKind.min, IntKind.max, IntKind.signed, IntKind.bits] using w0
  have h3 : 0 ≤ a3 ∧ a3 ≤ 255 := by simpa [Lit.wf, IntKind.min, IntKind.max, IntKind.signed, IntKind.bits] using w3
  have e2 := m65535 a2
  have e4 := m15 a4
  obtain ⟨n, rfl⟩ : ∃ k : Nat, a0 = (k : Int) := ⟨a0.toNat, by omega⟩
  obtain ⟨b, rfl⟩ : ∃ b : UInt8, a3 = (b.toNat : Int) := ⟨UInt8.ofNat a3.toNat, by rw [UInt8.toNat_ofNat_of_lt' (show a3.toNat < 256 by omega)]; omega⟩
  obtain ⟨m, hm⟩ : ∃ k : Nat, a2 % 65536 = (k : Int) := ⟨(a2 % 65536).toNat, by omega⟩
  obtain ⟨mf, hmf⟩ : ∃ k : Nat, a4 % 16 = (k : Int) := ⟨(a4 % 16).toNat, by omega⟩
  exact w_btel0 n (by omega) a1 len1 cap1 xs a2 a4 m mf b w hR hcap (by omega) (by rw [e2, hm]) (by omega) (by rw [e4, hmf]) (by omega)
end Go.Proofs.Ytlbpmboknmbcgaa
