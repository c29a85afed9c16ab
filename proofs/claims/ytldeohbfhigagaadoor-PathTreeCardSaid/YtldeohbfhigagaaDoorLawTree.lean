/- The walk of PathTree. -/
import Derived.Test.YtldeohbfhigagaaDoorLawPath
import Derived.Test.YtldeohbfhigagaaDoorLin
import Derived.Deep.Cut
set_option linter.unusedVariables false
set_option linter.unusedSimpArgs false
namespace Go.Proofs.YtldeohbfhigagaaDoor
open Go.RowKit

theorem pow13 {k : Nat} (hk : k ≤ 12) : 1 ≤ 2 ^ k ∧ 2 ^ k ≤ 4096 := by
  have h1 := Nat.pow_le_pow_right (show 0 < 2 by decide) hk
  have h2 := Nat.two_pow_pos k
  have e : 2 ^ 12 = 4096 := by decide
  omega
theorem mask_pow (n : Int) (k : Nat) (hk : k ≤ 16) : bits .and .i64 n (((2 ^ k : Nat) : Int) - 1) = n % ((2 ^ k : Nat) : Int) := by
  rw [← i64_mask n k (by omega)]
  have := Nat.two_pow_pos k
  rw [show (((2 ^ k : Nat) : Int) - 1) = ((2 ^ k - 1 : Nat) : Int) by omega]
/-- what is known of a leaf's way at a level -/
theorem buk_range (k x i : Nat) (hi : i ≤ k) (hx : x < 2 ^ k) : 2 ^ i ≤ buk k x i + 1 ∧ buk k x i + 1 < 2 * 2 ^ i ∧ (2 ^ i : Nat) ≤ 2 ^ k := by
  have h1 : 2 ^ k = 2 ^ i * 2 ^ (k - i) := by rw [← Nat.pow_add]; congr 1; omega
  have h2 : x / 2 ^ (k - i) < 2 ^ i := by
    rw [Nat.div_lt_iff_lt_mul (Nat.two_pow_pos _), ← h1]; exact hx
  have h3 := Nat.two_pow_pos i
  have h4 := Nat.pow_le_pow_right (show 0 < 2 by decide) hi
  unfold buk
  have e : (2 : Int) ^ i = ((2 ^ i : Nat) : Int) := (Int.natCast_pow 2 i).symm
  rw [e]
  generalize x / 2 ^ (k - i) = d at h2 ⊢
  omega
theorem buk_up (k x i : Nat) (hi : i + 1 ≤ k) (hx : x < 2 ^ k) : (buk k x (i + 1) - 1) / 2 = buk k x i ∧ 1 ≤ buk k x (i + 1) := by
  have h1 : x / 2 ^ (k - i) = x / 2 ^ (k - (i + 1)) / 2 := by
    rw [Nat.div_div_eq_div_mul, ← Nat.pow_succ]
    congr 2
    omega
  have h3 := Nat.two_pow_pos i
  unfold buk
  rw [h1, Nat.pow_succ]
  generalize x / 2 ^ (k - (i + 1)) = d
  omega
theorem mee_facts (k A B : Nat) (hk : k ≤ 12) (hA : A < 2 ^ k) (hB : B < 2 ^ k) :
    ∃ M : Nat, M ≤ k ∧ meF ((2 ^ k : Nat) : Int) (A : Int) (B : Int) = (M : Int) ∧ meF ((2 ^ k : Nat) : Int) (B : Int) (A : Int) = (M : Int) ∧ (∀ i, i ≤ k → (buk k A i = buk k B i ↔ i ≤ M)) ∧ (M = k ↔ A = B) := by
  have hp := pow13 hk
  have hxy := (xor_i64 A B (by omega) (by omega)).2
  have hlk : Lib.bitLen (A ^^^ B) ≤ k := (bitLen_iff _ _ hxy).2 (Nat.xor_lt_two_pow hA hB)
  refine ⟨k - Lib.bitLen (A ^^^ B), by omega, ?_, ?_, fun i hi => ?_, ?_⟩
  · unfold meF
    rw [dpN_pow (by omega)]
    simp only
    rw [if_pos (by omega)]
    simp only [Int.toNat_natCast]
    omega
  · unfold meF
    rw [dpN_pow (by omega)]
    simp only
    rw [if_pos (by omega)]
    simp only [Int.toNat_natCast]
    rw [Nat.xor_comm]
    omega
  · rw [buk_eq k A B i hi, ← bitLen_iff _ _ hxy]
    omega
  · have h0 := bitLen_iff (A ^^^ B) 0 hxy
    constructor
    · intro h
      have h1 : A ^^^ B < 2 ^ 0 := h0.1 (by omega)
      have h2 : A ^^^ B = 0 := by simpa using h1
      have := congrArg (fun t => t ^^^ B) h2
      simpa [Nat.xor_assoc] using this
    · rintro rfl
      rw [Nat.xor_self]
      have : Lib.bitLen 0 = 0 := by decide
      omega
theorem Rd.int_cell {w : World} {ad : Addr} {n : Nat} {xs : List Int} (h : Rd w (some ad) n (iv xs)) {j : Nat} (hj : j < n) : w.cell? (ad.add j) = some (.int .i64 (xs[j]?.getD 0)) := by
  obtain ⟨ad', e, hc⟩ := h.int_at hj
  cases e
  exact hc
/-- what the round asks of a level -/
structure Lev (LV M k : Int) (i : Nat) (z u p : Int) : Prop where
  lo : 0 ≤ z
  hi : z + 1 < 2 * LV
  eq : z = u ↔ (i : Int) ≤ M
  up : 0 < i → (z - 1) / 2 = p ∧ 1 ≤ z
set_option maxHeartbeats 2000000 in
set_option maxRecDepth 100000 in
theorem w_PathTree (bits0 a0 b0 : Int) (w : World) (w0 : (Lit.int .i64 bits0).wf = true) (w1 : (Lit.int .i64 a0).wf = true) (w2 : (Lit.int .i64 b0).wf = true) (hT : TabW w) :
    Calls Tryd.prog 6 #[.int .i64 bits0, .int .i64 a0, .int .i64 b0] w fun e w' => e = .returned (.bool true) ∧ Below w.heap.size w w' := by
  have hb0 : 0 ≤ bits0 % 256 ∧ bits0 % 256 < 256 := by omega
  obtain ⟨hb0, hb1⟩ := hb0
  have hm := m255 bits0
  obtain ⟨k, hk⟩ : ∃ k : Nat, bits0 % 256 % 13 = (k : Int) := ⟨(bits0 % 256 % 13).toNat, by omega⟩
  have hk12 : k ≤ 12 := by omega
  have hk0 : 0 ≤ (k : Int) ∧ (k : Int) ≤ 12 := by omega
  obtain ⟨hk0, hk1⟩ := hk0
  have hp := pow13 hk12
  obtain ⟨A, hA⟩ : ∃ A : Nat, a0 % ((2 ^ k : Nat) : Int) = (A : Int) := ⟨(a0 % ((2 ^ k : Nat) : Int)).toNat, (Int.toNat_of_nonneg (Int.emod_nonneg _ (by omega))).symm⟩
  obtain ⟨B, hB⟩ : ∃ B : Nat, b0 % ((2 ^ k : Nat) : Int) = (B : Int) := ⟨(b0 % ((2 ^ k : Nat) : Int)).toNat, (Int.toNat_of_nonneg (Int.emod_nonneg _ (by omega))).symm⟩
  have hA2 : A < 2 ^ k := by have := Int.emod_lt_of_pos a0 (show (0 : Int) < ((2 ^ k : Nat) : Int) by omega); omega
  have hB2 : B < 2 ^ k := by have := Int.emod_lt_of_pos b0 (show (0 : Int) < ((2 ^ k : Nat) : Int) by omega); omega
  have hA3 : (A : Int) < ((2 ^ k : Nat) : Int) := by omega
  have hB3 : (B : Int) < ((2 ^ k : Nat) : Int) := by omega
  have hp1 : 1 ≤ ((2 ^ k : Nat) : Int) ∧ ((2 ^ k : Nat) : Int) ≤ 4096 := by omega
  obtain ⟨hp1, hp2⟩ := hp1
  have hma := mask_pow a0 k (by omega)
  have hmb := mask_pow b0 k (by omega)
  rw [hA] at hma
  rw [hB] at hmb
  have hI : I64 ((2 ^ k : Nat) : Int) := ⟨by omega, by omega⟩
  have kOnA := fun W hW => c_on ((2 ^ k : Nat) : Int) (A : Int) W hI hW
  have kOnB := fun W hW => c_on ((2 ^ k : Nat) : Int) (B : Int) W hI hW
  have kM := fun W hW => c_meet ((2 ^ k : Nat) : Int) (A : Int) (B : Int) W hI hW
  have kM2 := fun W hW => c_meet ((2 ^ k : Nat) : Int) (B : Int) (A : Int) W hI hW
  have kBu := fun W => c_buc ((2 ^ k : Nat) : Int) W hI
  have kAt := fun W hW (i : Nat) (hi : i ≤ k) => c_atYes k A i W hW (by omega) hA2 hi
  have eA : onF ((2 ^ k : Nat) : Int) (A : Int) = onL k A := by unfold onF; rw [dpN_pow (by omega)]; simp only; rw [if_pos (by omega)]; simp
  have eB : onF ((2 ^ k : Nat) : Int) (B : Int) = onL k B := by unfold onF; rw [dpN_pow (by omega)]; simp only; rw [if_pos (by omega)]; simp
  have eBu : buF ((2 ^ k : Nat) : Int) = 2 * ((2 ^ k : Nat) : Int) - 1 := by unfold buF; rw [dpN_pow (by omega)]
  obtain ⟨M, hMk, eM, eM2, hMi, hMe⟩ := mee_facts k A B hk12 hA2 hB2
  rw [eA] at kOnA
  rw [eB] at kOnB
  rw [eM] at kM
  rw [eM2] at kM2
  rw [eBu] at kBu
  have hlA := onL_length k A
  have hlB := onL_length k B
  have hz0 : buk k A 0 = 0 := by have := buk_range k A 0 (by omega) hA2; simp at this; omega
  have hzk : buk k A k = ((2 ^ k : Nat) : Int) - 1 + (A : Int) := by unfold buk; rw [Nat.sub_self, Nat.pow_zero, Nat.div_one]; omega
  have hlev : ∀ i : Nat, i ≤ k → Lev ((2 ^ k : Nat) : Int) (M : Int) (k : Int) i (buk k A i) (buk k B i) (buk k A (i - 1)) := fun i hi => by
    have h1 := buk_range k A i hi hA2
    have e : (2 : Int) ^ i = ((2 ^ i : Nat) : Int) := (Int.natCast_pow 2 i).symm
    rw [e] at h1
    have h3 := Nat.two_pow_pos i
    refine ⟨by omega, by omega, ?_, fun h0 => ?_⟩
    · rw [hMi i hi]; omega
    · obtain ⟨j, rfl⟩ : ∃ j, i = j + 1 := ⟨i - 1, by omega⟩
      rw [Nat.add_sub_cancel]
      exact buk_up k A j hi hA2
  have hgA := fun i (hi : i ≤ k) => onL_get k A i hi
  have hgB := fun i (hi : i ≤ k) => onL_get k B i hi
  have HMe : Hid ((((M : Int) == (k : Int)) == ((A : Int) == (B : Int))) = true) := by
    show _ = true
    rw [beq_iff_eq, Bool.eq_iff_iff, beq_iff_eq, beq_iff_eq]
    omega
  have HK := Lib.hid (And.intro kOnA (And.intro kOnB (And.intro kM (And.intro kM2 (And.intro kBu kAt)))))
  clear kOnA kOnB kM kM2 kBu kAt eA eB eBu eM eM2 hMe hMi hA hB hI
  have hsh : wrap64 (2 ^ k) = ((2 ^ k : Nat) : Int) := by
    rw [show (2 : Int) ^ k = ((2 ^ k : Nat) : Int) from (Int.natCast_pow 2 k).symm]
    generalize 2 ^ k = p at hp ⊢
    simp only [wrap64]
    omega
  have HF := Lib.hid (And.intro hlev (And.intro hgA (And.intro hgB (And.intro hz0 hzk))))
  have HL := Lib.hid (And.intro hlA hlB)
  clear hlev hgA hgB hz0 hzk hlA hlB
  clear hA2 hB2 hp hMk hk12
  generalize ((2 ^ k : Nat) : Int) = LV at *
  have HSH := Lib.hid hsh
  clear hsh
  go_enter Tryd.func6, Tryd.ntmps6
  go_upto_region 3 with (fail)
  rw [HSH.out, hk]
  clear hm hk hb0 hb1
  go_wp2_with fail
  refine (HK.out.1 _ hT).mono ?_
  rintro e w1 ⟨v1, rfl, ho1, hb1⟩
  have hT1 := hT.below hb1 (Nat.le_refl _)
  go_wp2_with fail
  refine (HK.out.2.1 _ hT1).mono ?_
  rintro e w2 ⟨v2, rfl, ho2, hb2⟩
  have hT2 := hT1.below hb2 (Nat.le_refl _)
  have hB2 := below_two hb1 hb2
  have hf1 := (ho1.below hb2).form
  have hf2 := ho2.form
  rw [HL.out.1] at hf1
  rw [HL.out.2] at hf2
  obtain ⟨A1, ca, rfl, -, -, hr1⟩ := hf1
  obtain ⟨A2, cb, rfl, -, -, hr2⟩ := hf2
  clear ho1 ho2 hb1 hb2 hT1
  go_wp2_with fail
  refine (HK.out.2.2.1 _ hT2).mono ?_
  rintro e w' ⟨rfl, rfl⟩
  obtain ⟨ad, rfl, hc0⟩ := hr1.int_at (show 0 < k + 1 by omega)
  obtain ⟨bd, rfl, -⟩ := hr2.int_at (show 0 < k + 1 by omega)
  rw [HF.out.2.1 0 (by omega), Option.getD_some, HF.out.2.2.2.1] at hc0
  have hc0' : w2.cell? ad = some (.int .i64 0) := hc0
  go_wp2_with fail
  refine (HK.out.2.2.2.2.1 _).mono ?_
  rintro e w' ⟨rfl, rfl⟩
  go_wp2
  have hs2 := hB2.size
  go_loopw [11] (fun i wr => ∃ (j q : Nat), j ≤ k + 1 ∧ i = .int .i64 (j : Int) ∧ wr = w2.drewN q) (fun i _ => 20 - (intOf i).toNat)
  case atStart => exact ⟨0, 0, Nat.zero_le _, rfl, rfl⟩
  case round =>
    obtain ⟨j, q, hj, rfl, rfl⟩ := hrel
    have hTq : TabW (w2.drewN q) := hT2.below (below_drewN (Below.refl _ _) q) (Nat.le_refl _)
    by_cases hlt : j ≤ k
    · have hAt := HK.out.2.2.2.2.2 _ hTq j hlt
      obtain ⟨l1, l2, l3, l4⟩ := HF.out.1 j hlt
      obtain ⟨z, hz⟩ : ∃ z, buk k A j = z := ⟨_, rfl⟩
      obtain ⟨u, hu⟩ : ∃ u, buk k B j = u := ⟨_, rfl⟩
      have c1 := hr1.int_cell (show j < k + 1 by omega)
      have c2 := hr2.int_cell (show j < k + 1 by omega)
      rw [HF.out.2.1 j hlt, Option.getD_some, hz] at c1
      rw [HF.out.2.2.1 j hlt, Option.getD_some, hu] at c2
      rw [hz] at l1 l2 l3 l4 hAt
      rw [hu] at l3
      have hjk : (j : Int) ≤ (k : Int) := by omega
      by_cases hj0 : j = 0
      · subst hj0
        have huz : z = u := l3.2 (by omega)
        subst huz
        have hM0 : decide ((0 : Int) ≤ (M : Int)) = true := by simp
        have d1 : decide (z < 0) = false := by simp; omega
        have d2 : decide (2 * LV - 1 ≤ z) = false := by simp; omega
        have e1 : IntKind.i64.wrap (2 * LV) = 2 * LV := IntWalk.i64_in _ ⟨by omega, by omega⟩
        have e2 : IntKind.i64.wrap (2 * LV - 1) = 2 * LV - 1 := IntWalk.i64_in _ ⟨by omega, by omega⟩
        clear l3 l4 hz hu hr1 hr2 hma hmb hc0 hc0' hj hlt
        go_upto_region 12 with (go_at_call 8; refine hAt.mono ?_; rintro e w' ⟨rfl, q2, rfl⟩)
        have c1' : (w2.drewN (q + q2)).cell? ad = some (.int .i64 z) := c1
        have c2' : (w2.drewN (q + q2)).cell? bd = some (.int .i64 z) := c2
        (refine wp_region_lin [(0, true), (1, true), (2, true), (3, true), (4, true), (5, true), (6, true), (7, true), (8, true), (9, true), (10, true), (11, true), (12, true), (13, true), (14, true), (15, true), (16, true), (17, true), (18, true), (19, true), (20, true), (21, true), (22, true), (23, true), (24, true), (25, true), (26, true), (27, true), (28, true), (29, true), (30, true), (31, true), (32, true), (33, true), (34, true), (35, true), (36, true), (37, true), (38, true), (39, true), (40, true), (41, true), (42, true), (43, true), (44, true), (45, true), (46, true), (47, true), (48, true), (49, true), (50, true), (51, true), (52, true), (53, true)] rfl rfl (by kernel_rfl) (by kernel_rfl) (fun _ _ _ _ _ h => h) ?_; (iterate 54 (first | (apply lin_take; (simp only [List.getElem?_toArray, List.getElem?_cons_succ, List.getElem?_cons_zero]; rfl); (rfl); (intro w' hb'; (try have k_c1' := cell_keep hb' c1'); (try have k_c2' := cell_keep hb' c2'); (first | (go_simp; done) | (go_simp; with_reducible rfl) | (go_simp; go_bits; with_reducible rfl) | (go_simp; go_bits; done))); try simp only [Act.put, List.setIfInBounds_toArray, List.set_cons_zero, List.set_cons_succ]) | (apply lin_skip; (simp only [List.getElem?_toArray, List.getElem?_cons_succ, List.getElem?_cons_zero]; rfl); (rfl); try simp only [Act.put, List.setIfInBounds_toArray, List.set_cons_zero, List.set_cons_succ]) | (apply lin_pass; (simp only [List.getElem?_toArray, List.getElem?_cons_succ, List.getElem?_cons_zero]; rfl); (rfl); try simp only [Act.put, List.setIfInBounds_toArray, List.set_cons_zero, List.set_cons_succ]) | (apply lin_op; (simp only [List.getElem?_toArray, List.getElem?_cons_succ, List.getElem?_cons_zero]; rfl); (rfl); intro K hK; go_simp; (first | skip); refine hK _ _ ?_ ?_; (first | exact ⟨rfl, rfl, rfl, Nat.le_refl _, fun _ _ => rfl⟩ | assumption | exact below_alloc (Below.refl _ _) _ | exact below_drewN (by assumption) _); clear hK; try simp only [Act.put, List.setIfInBounds_toArray, List.set_cons_zero, List.set_cons_succ]))); refine lin_end ?_)
        clear e1 e2
        go_wp2
        exact ⟨⟨1, q + q2 + 1, by omega, rfl, rfl⟩, by simp [intOf] <;> omega⟩
      · obtain ⟨m, rfl⟩ : ∃ m, j = m + 1 := ⟨j - 1, by omega⟩
        have l45 := l4 (by omega)
        clear l4
        obtain ⟨l4, l5⟩ := l45
        have c3 := hr1.int_cell (show m < k + 1 by omega)
        rw [HF.out.2.1 m (by omega), Option.getD_some] at c3
        rw [Nat.add_sub_cancel] at l4
        generalize buk k A m = p at *
        have l6 : (z - 1).tdiv 2 = p := by rw [Int.tdiv_eq_ediv_of_nonneg (by omega)]; exact l4
        have hm0 : decide ((0 : Int) < (m : Int) + 1) = true := decide_eq_true (by omega)
        have d1 : decide (z < 0) = false := by simp; omega
        have d2 : decide (2 * LV - 1 ≤ z) = false := by simp; omega
        have e1 : IntKind.i64.wrap (2 * LV) = 2 * LV := IntWalk.i64_in _ ⟨by omega, by omega⟩
        have e2 : IntKind.i64.wrap (2 * LV - 1) = 2 * LV - 1 := IntWalk.i64_in _ ⟨by omega, by omega⟩
        have e3 : IntKind.i64.wrap (m : Int) = (m : Int) := IntWalk.i64_in _ ⟨by omega, by omega⟩
        have e4 : IntKind.i64.wrap (z - 1) = z - 1 := IntWalk.i64_in _ ⟨by omega, by omega⟩
        have e5 : IntKind.i64.wrap p = p := IntWalk.i64_in _ ⟨by omega, by omega⟩
        have hm1 : (m : Int) + 1 ≤ 13 := by omega
        have hm2 : 0 ≤ (m : Int) + 1 := by omega
        have hm3 : ((m : Int) + 1).toNat = m + 1 := by omega
        have hmk : (m : Int) < (k : Int) + 1 := by omega
        have hmk2 : (m : Int) + 1 < (k : Int) + 1 := by omega
        clear hz hu hr1 hr2 hma hmb hc0 hc0' hj hlt
        by_cases huz : z = u
        · have hM0 : decide ((m : Int) + 1 ≤ (M : Int)) = true := by have := l3.1 huz; simp; omega
          subst huz
          clear l3 l4 hj0 hjk
          go_upto_region 12 with (go_at_call 8; refine hAt.mono ?_; rintro e w' ⟨rfl, q2, rfl⟩)
          have c1' : (w2.drewN (q + q2)).cell? ⟨ad.block, ad.off + (m + 1), none⟩ = some (.int .i64 z) := c1
          have c2' : (w2.drewN (q + q2)).cell? ⟨bd.block, bd.off + (m + 1), none⟩ = some (.int .i64 z) := c2
          have c3' : (w2.drewN (q + q2)).cell? (ad.add m) = some (.int .i64 p) := c3
          (refine wp_region_lin [(0, true), (1, true), (2, true), (3, true), (4, true), (5, true), (6, true), (7, true), (8, true), (9, true), (10, true), (11, true), (12, true), (13, true), (14, true), (15, true), (16, true), (17, true), (18, true), (19, true), (20, true), (21, true), (22, true), (23, true), (24, true), (25, true), (26, true), (27, true), (28, true), (29, true), (30, true), (31, true), (32, true), (33, true), (34, true), (35, true), (36, true), (37, true), (38, true), (39, true), (40, true), (41, true), (42, true), (43, true), (44, true), (45, true), (46, true), (47, true), (48, true), (49, true), (50, true), (51, true), (52, true), (53, true)] rfl rfl (by kernel_rfl) (by kernel_rfl) (fun _ _ _ _ _ h => h) ?_; (iterate 54 (first | (apply lin_take; (simp only [List.getElem?_toArray, List.getElem?_cons_succ, List.getElem?_cons_zero]; rfl); (rfl); (intro w' hb'; (try have k_c1' := cell_keep hb' c1'); (try have k_c2' := cell_keep hb' c2'); (try have k_c3' := cell_keep hb' c3'); (first | (go_simp; done) | (go_simp; with_reducible rfl) | (go_simp; go_bits; with_reducible rfl) | (go_simp; go_bits; done))); try simp only [Act.put, List.setIfInBounds_toArray, List.set_cons_zero, List.set_cons_succ]) | (apply lin_skip; (simp only [List.getElem?_toArray, List.getElem?_cons_succ, List.getElem?_cons_zero]; rfl); (rfl); try simp only [Act.put, List.setIfInBounds_toArray, List.set_cons_zero, List.set_cons_succ]) | (apply lin_pass; (simp only [List.getElem?_toArray, List.getElem?_cons_succ, List.getElem?_cons_zero]; rfl); (rfl); try simp only [Act.put, List.setIfInBounds_toArray, List.set_cons_zero, List.set_cons_succ]) | (apply lin_op; (simp only [List.getElem?_toArray, List.getElem?_cons_succ, List.getElem?_cons_zero]; rfl); (rfl); intro K hK; go_simp; (first | skip); refine hK _ _ ?_ ?_; (first | exact ⟨rfl, rfl, rfl, Nat.le_refl _, fun _ _ => rfl⟩ | assumption | exact below_alloc (Below.refl _ _) _ | exact below_drewN (by assumption) _); clear hK; try simp only [Act.put, List.setIfInBounds_toArray, List.set_cons_zero, List.set_cons_succ]))); refine lin_end ?_)
          clear e1 e2 e3 e4 e5
          go_wp2
          exact ⟨⟨m + 2, q + q2 + 1, by omega, by go_num, rfl⟩, by simp [intOf]; omega⟩
        · have hM0 : decide ((m : Int) + 1 ≤ (M : Int)) = false := by
            have : ¬ ((m + 1 : Nat) : Int) ≤ (M : Int) := fun h => huz (l3.2 h)
            simp; omega
          have hzu : (z == u) = false := by simp [huz]
          clear l3 l4 hj0 hjk huz
          go_upto_region 12 with (go_at_call 8; refine hAt.mono ?_; rintro e w' ⟨rfl, q2, rfl⟩)
          have c1' : (w2.drewN (q + q2)).cell? ⟨ad.block, ad.off + (m + 1), none⟩ = some (.int .i64 z) := c1
          have c2' : (w2.drewN (q + q2)).cell? ⟨bd.block, bd.off + (m + 1), none⟩ = some (.int .i64 u) := c2
          have c3' : (w2.drewN (q + q2)).cell? (ad.add m) = some (.int .i64 p) := c3
          (refine wp_region_lin [(0, true), (1, true), (2, true), (3, true), (4, true), (5, true), (6, true), (7, true), (8, true), (9, true), (10, true), (11, true), (12, true), (13, true), (14, true), (15, true), (16, true), (17, true), (18, true), (19, true), (20, true), (21, true), (22, true), (23, true), (24, true), (25, true), (26, true), (27, true), (28, true), (29, true), (30, true), (31, true), (32, true), (33, true), (34, true), (35, true), (36, true), (37, true), (38, true), (39, true), (40, true), (41, true), (42, true), (43, true), (44, true), (45, true), (46, true), (47, true), (48, true), (49, true), (50, true), (51, true), (52, true), (53, true)] rfl rfl (by kernel_rfl) (by kernel_rfl) (fun _ _ _ _ _ h => h) ?_; (iterate 54 (first | (apply lin_take; (simp only [List.getElem?_toArray, List.getElem?_cons_succ, List.getElem?_cons_zero]; rfl); (rfl); (intro w' hb'; (try have k_c1' := cell_keep hb' c1'); (try have k_c2' := cell_keep hb' c2'); (try have k_c3' := cell_keep hb' c3'); (first | (go_simp; done) | (go_simp; with_reducible rfl) | (go_simp; go_bits; with_reducible rfl) | (go_simp; go_bits; done))); try simp only [Act.put, List.setIfInBounds_toArray, List.set_cons_zero, List.set_cons_succ]) | (apply lin_skip; (simp only [List.getElem?_toArray, List.getElem?_cons_succ, List.getElem?_cons_zero]; rfl); (rfl); try simp only [Act.put, List.setIfInBounds_toArray, List.set_cons_zero, List.set_cons_succ]) | (apply lin_pass; (simp only [List.getElem?_toArray, List.getElem?_cons_succ, List.getElem?_cons_zero]; rfl); (rfl); try simp only [Act.put, List.setIfInBounds_toArray, List.set_cons_zero, List.set_cons_succ]) | (apply lin_op; (simp only [List.getElem?_toArray, List.getElem?_cons_succ, List.getElem?_cons_zero]; rfl); (rfl); intro K hK; go_simp; (first | skip); refine hK _ _ ?_ ?_; (first | exact ⟨rfl, rfl, rfl, Nat.le_refl _, fun _ _ => rfl⟩ | assumption | exact below_alloc (Below.refl _ _) _ | exact below_drewN (by assumption) _); clear hK; try simp only [Act.put, List.setIfInBounds_toArray, List.set_cons_zero, List.set_cons_succ]))); refine lin_end ?_)
          clear e1 e2 e3 e4 e5
          go_wp2
          exact ⟨⟨m + 2, q + q2 + 1, by omega, by go_num, rfl⟩, by simp [intOf]; omega⟩
    · obtain rfl : j = k + 1 := by omega
      have c1 := hr1.int_cell (show k < k + 1 by omega)
      rw [HF.out.2.1 k (by omega), Option.getD_some, HF.out.2.2.2.2] at c1
      have c1' : (w2.drewN q).cell? (ad.add k) = some (.int .i64 (LV - 1 + (A : Int))) := c1
      have hM0 : (0 : Int) ≤ (M : Int) := by omega
      have hMe := HMe.out
      have hA0 : (0 : Int) ≤ (A : Int) := by omega
      have hkk : (k : Int) < (k : Int) + 1 := by omega
      clear hr1 hr2 hma hmb hc0 hc0' hj hlt
      go_wp2_with fail
      refine (HK.out.2.2.2.1 _ hTq).mono ?_
      rintro e w' ⟨rfl, rfl⟩
      go_wp2_with fail
      refine (c_awake13 _ hTq).mono ?_
      rintro e w' ⟨rfl, hb⟩
      go_wp2
      go_ret
      exact ⟨rfl, (below_drewN hB2 q).trans (hb.mono hs2)⟩
end Go.Proofs.YtldeohbfhigagaaDoor
