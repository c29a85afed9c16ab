/- Parse, the reference's Parse. -/
import Derived.Test.YtlbpmboknmbcgaaBootC
import Derived.Test.YtlbpmboknmbcgaaEqB
set_option linter.unusedVariables false
set_option linter.unusedSimpArgs false
namespace Go.Proofs.Ytlbpmboknmbcgaa
open Go.RowKit

/-- the number that a block tells, at its place -/
def numAt (b : List UInt8) : Nat := leN ((b.drop 12).take 4)
/-- a block's number; none: it is no record -/
def parseN (b : List UInt8) : Option Nat := if 24 ≤ b.length ∧ numAt b ≠ 0 ∧ b.take 24 = recP (numAt b) ∧ zeroL (b.drop 24) = true then some (numAt b) else none
def parseV (b : List UInt8) : Nat := (parseN b).getD 0
theorem leN_lt4 (xs : List UInt8) (h : xs.length ≤ 4) : leN xs < 4294967296 := by
  match xs, h with
  | [], _ => simp [leN]
  | [a], _ => have := a.toNat_lt; simp [leN]; omega
  | [a, b], _ => have := a.toNat_lt; have := b.toNat_lt; simp [leN]; omega
  | [a, b, c], _ => have := a.toNat_lt; have := b.toNat_lt; have := c.toNat_lt; simp [leN]; omega
  | [a, b, c, d], _ => have := a.toNat_lt; have := b.toNat_lt; have := c.toNat_lt; have := d.toNat_lt; simp [leN]; omega
theorem numAt_lt (b : List UInt8) : numAt b < 4294967296 := leN_lt4 _ (by rw [List.length_take]; omega)
structure ParseNo (b : List UInt8) : Prop where
  n : parseN b = none
structure ParseYes (b : List UInt8) (k : Nat) : Prop where
  n : parseN b = some k
theorem parse_no {b : List UInt8} (h : ¬ (24 ≤ b.length ∧ numAt b ≠ 0 ∧ b.take 24 = recP (numAt b) ∧ zeroL (b.drop 24) = true)) : parseN b = none := by
  unfold parseN; exact if_neg h
theorem parse_yes {b : List UInt8} (h1 : 24 ≤ b.length) (h2 : numAt b ≠ 0) (h3 : b.take 24 = recP (numAt b)) (h4 : zeroL (b.drop 24) = true) : parseN b = some (numAt b) := by
  unfold parseN; exact if_pos ⟨h1, h2, h3, h4⟩
/-- what Parse answers -/
def ParseRes (b : List UInt8) (e : Ending) : Prop := e = .returned (.tuple #[.int .u32 (parseV b : Nat), .bool (parseN b).isSome])
theorem res_no {b : List UInt8} (h : parseN b = none) : ParseRes b (.returned (.tuple #[.int .u32 0, .bool false])) := by
  unfold ParseRes parseV; rw [h]; rfl
theorem res_yes {b : List UInt8} {k : Nat} (h : parseN b = some k) : ParseRes b (.returned (.tuple #[.int .u32 (k : Int), .bool true])) := by
  unfold ParseRes parseV; rw [h]; rfl
set_option maxHeartbeats 4000000 in
set_option maxRecDepth 100000 in
theorem c_parse (A : Option Addr) (n c : Nat) (b : List UInt8) (w : World) (hR : RdB w A n b) (hc : n ≤ c) (hn : n ≤ 140737488355328) :
    Calls Try.prog 57 #[.slice A n c] w fun e w' => ParseRes b e ∧ Below w.heap.size w w' := by
  have hbl := hR.len
  by_cases hs : n < 16
  · have hs2 : (n : Int) < 16 := by omega
    have hno := parse_no (b := b) (fun h => by have := h.1; omega)
    clear hbl
    go_enter Try.func57, Try.ntmps57
    go_wp2
    go_ret2
    exact ⟨res_no hno, Below.refl _ _⟩
  · have hs2 : ¬ (n : Int) < 16 := by omega
    obtain ⟨A1, e1, r1⟩ := cut_lh hR hc 12 16 12 16 rfl rfl (by omega) (by omega)
    have HG := Lib.hid (c_leGet A1 4 (c - 12) ((b.drop 12).take 4) w r1 (by decide))
    have hk8 : leN (((b.drop 12).take 4).take 8) = numAt b := by rw [List.take_of_length_le (l := (b.drop 12).take 4) (by rw [List.length_take]; omega)]; rfl
    have hkl := numAt_lt b
    have HK8 := Lib.hid hk8
    have HBL := Lib.hid hbl
    clear hk8 hbl r1
    have hyes := parse_yes (b := b)
    have hno := parse_no (b := b)
    have HY := Lib.hid hyes
    have HN := Lib.hid hno
    clear hyes hno
    generalize numAt b = k at *
    have hw3 : IntKind.u32.wrap (k : Int) = (k : Int) := IntWalk.u32_in _ ⟨by omega, by omega⟩
    have hk1 : (k : Int) < 4294967296 := by omega
    go_enter Try.func57, Try.ntmps57
    go_upto_region 4 with (go_at_call 75; (with_reducible refine HG.out.mono ?_); rintro e w' ⟨rfl, rfl⟩; rw [HK8.out])
    have HRC := Lib.hid (c_record k hkl w)
    have hrl := recP_length k
    by_cases hcut : n ≥ 24 ∧ b.take 24 = recP k
    · have HC := Lib.hid (fun W B d h1 h2 => c_cutYes W A B n 24 c d b (recP k) h1 h2 hc (by unfold maxLen; omega) hcut.1 hcut.2)
      go_upto_region 5 with (first | (go_at_call 59; (with_reducible refine HRC.out.mono ?_); rintro e w1 ⟨v1, rfl, ho1, hb1⟩; obtain ⟨B1, d1, rfl, lc1, -, hr1⟩ := ho1.form; rw [hrl] at hr1 lc1 ⊢; have hR1 := hR.below hb1 (Nat.le_refl _)) | (go_at_call 79; (with_reducible refine (HC.out _ _ _ hR1 hr1).mono ?_); rintro e w' ⟨⟨A2, rfl, r2⟩, rfl⟩))
      cases hz : zeroL (b.drop 24) with
      | true =>
        have HZ := Lib.hid (c_leZero A2 (n - 24) (c - 24) (b.drop 24) w1 r2 (by unfold maxLen; omega) true hz)
        by_cases h0 : k = 0
        · subst h0
          have hp := HN.out (fun h => h.2.1 rfl)
          clear hz
          simp only [show ((0 : Nat) : Int) = 0 from rfl] at *
          go_wp2_with fail
          go_ret2
          exact ⟨res_no hp, hb1⟩
        · have h0i : ¬ (k : Int) = 0 := by omega
          have HP : ParseYes b k := ⟨HY.out (by rw [HBL.out]; exact hcut.1) h0 hcut.2 hz⟩
          clear hz hcut hrl hkl hw3 hk1
          go_upto_region 7 with (go_at_call 80; (with_reducible refine HZ.out.mono ?_); rintro e w' ⟨rfl, rfl⟩)
          clear r2 hr1 hR1 hR
          go_wp2_with fail
          go_ret2
          exact ⟨res_yes HP.n, hb1⟩
      | false =>
        have HZ := Lib.hid (c_leZero A2 (n - 24) (c - 24) (b.drop 24) w1 r2 (by unfold maxLen; omega) false hz)
        have hp := HN.out (fun h => by rw [hz] at h; exact absurd h.2.2.2 (by decide))
        clear hz hcut
        by_cases h0 : k = 0
        · subst h0
          simp only [show ((0 : Nat) : Int) = 0 from rfl] at *
          go_wp2_with fail
          go_ret2
          exact ⟨res_no hp, hb1⟩
        · have h0i : ¬ (k : Int) = 0 := by omega
          go_wp2_with (go_at_call 80; (with_reducible refine HZ.out.mono ?_); rintro e w' ⟨rfl, rfl⟩)
          go_ret2
          exact ⟨res_no hp, hb1⟩
    · have HC := Lib.hid (fun W B d h1 h2 => c_cutNo W A B n 24 c d b (recP k) h1 h2 hc (by unfold maxLen; omega) (by
        by_cases h : 24 ≤ n
        · have h2 : ¬ b.take 24 = recP k := fun h3 => hcut ⟨h, h3⟩
          simp [h2]
        · simp [h]))
      have hp := HN.out (fun h => hcut ⟨by rw [← HBL.out]; exact h.1, h.2.2.1⟩)
      clear hcut
      go_upto_region 5 with (first | (go_at_call 59; (with_reducible refine HRC.out.mono ?_); rintro e w1 ⟨v1, rfl, ho1, hb1⟩; obtain ⟨B1, d1, rfl, lc1, -, hr1⟩ := ho1.form; rw [hrl] at hr1 lc1 ⊢; have hR1 := hR.below hb1 (Nat.le_refl _)) | (go_at_call 79; (with_reducible refine (HC.out _ _ _ hR1 hr1).mono ?_); rintro e w' ⟨rfl, rfl⟩))
      by_cases h0 : k = 0
      · subst h0
        simp only [show ((0 : Nat) : Int) = 0 from rfl] at *
        go_wp2_with fail
        go_ret2
        exact ⟨res_no hp, hb1⟩
      · have h0i : ¬ (k : Int) = 0 := by omega
        go_wp2_with fail
        go_ret2
        exact ⟨res_no hp, hb1⟩
theorem getD_drop (b : List UInt8) (m j : Nat) : (b.drop m).getD j 0 = b.getD (m + j) 0 := by
  rw [List.getD_eq_getElem?_getD, List.getD_eq_getElem?_getD, List.getElem?_drop]
set_option maxHeartbeats 4000000 in
set_option maxRecDepth 100000 in
theorem c_rParse (A : Option Addr) (n c : Nat) (b : List UInt8) (w : World) (hR : RdB w A n b) (hc : n ≤ c) (hn : n ≤ 140737488355328) :
    Calls Try.prog 58 #[.slice A n c] w fun e w' => ParseRes b e ∧ Below w.heap.size w w' := by
  have hbl := hR.len
  by_cases hs : n < 24
  · have hs2 : (n : Int) < 24 := by omega
    have hno := parse_no (b := b) (fun h => by have := h.1; omega)
    clear hbl
    go_enter Try.func58, Try.ntmps58
    go_wp2
    go_ret2
    exact ⟨res_no hno, Below.refl _ _⟩
  · have hs2 : ¬ (n : Int) < 24 := by omega
    obtain ⟨A1, e1, r1⟩ := cut_lh hR hc 12 16 12 16 rfl rfl (by omega) (by omega)
    obtain ⟨A2, e2, r2⟩ := cut_to hR hc 24 24 rfl (by omega)
    have HG := Lib.hid (c_rGet A1 4 (c - 12) ((b.drop 12).take 4) w r1 (by decide))
    have hk8 : leN (((b.drop 12).take 4).take 8) = numAt b := by rw [List.take_of_length_le (l := (b.drop 12).take 4) (by rw [List.length_take]; omega)]; rfl
    have hkl := numAt_lt b
    have HK8 := Lib.hid hk8
    have HBL := Lib.hid hbl
    clear hk8 hbl r1
    have hyes := parse_yes (b := b)
    have hno := parse_no (b := b)
    have HY := Lib.hid hyes
    have HN := Lib.hid hno
    clear hyes hno
    generalize numAt b = k at *
    have hw3 : IntKind.u32.wrap (k : Int) = (k : Int) := IntWalk.u32_in _ ⟨by omega, by omega⟩
    have hk1 : (k : Int) < 4294967296 := by omega
    go_enter Try.func58, Try.ntmps58
    go_upto_region 4 with (go_at_call 48; (with_reducible refine HG.out.mono ?_); rintro e w' ⟨rfl, rfl⟩; rw [HK8.out])
    clear hw3 hk1 e1
    have HRC := Lib.hid (c_rRecord k hkl w.drew)
    have hrl := recP_length k
    by_cases h0 : k = 0
    · subst h0
      have hp := HN.out (fun h => h.2.1 rfl)
      simp only [show ((0 : Nat) : Int) = 0 from rfl] at *
      (refine wp_region_linN (Below w.heap.size) (Below w.heap.size) (wayB _) (wayB _) (fun _ _ h => h) (.free 0 (.free 1 (.free 2 (.free 3 (.free 4 (.free 5 (.op 6 [] [] [] (.op 7 [] [] [] (.free 8 (.free 9 .nil)))))))))) rfl (by kernel_rfl) (by kernel_rfl) (fun _ _ _ _ _ h => h) ?_; (first | (apply linN_free; (simp only [List.getElem?_toArray, List.getElem?_cons_succ, List.getElem?_cons_zero]; rfl); (rfl); (intro w'; (first | (go_simp; done) | (go_simp; with_reducible rfl) | (go_simp; go_bits; with_reducible rfl) | (go_simp; go_bits; done))); try simp only [Act.put, List.setIfInBounds_toArray, List.set_cons_zero, List.set_cons_succ]) | (apply linN_freeSkip; (simp only [List.getElem?_toArray, List.getElem?_cons_succ, List.getElem?_cons_zero]; rfl); (rfl); try simp only [Act.put, List.setIfInBounds_toArray, List.set_cons_zero, List.set_cons_succ])); (first | (apply linN_free; (simp only [List.getElem?_toArray, List.getElem?_cons_succ, List.getElem?_cons_zero]; rfl); (rfl); (intro w'; (first | (go_simp; done) | (go_simp; with_reducible rfl) | (go_simp; go_bits; with_reducible rfl) | (go_simp; go_bits; done))); try simp only [Act.put, List.setIfInBounds_toArray, List.set_cons_zero, List.set_cons_succ]) | (apply linN_freeSkip; (simp only [List.getElem?_toArray, List.getElem?_cons_succ, List.getElem?_cons_zero]; rfl); (rfl); try simp only [Act.put, List.setIfInBounds_toArray, List.set_cons_zero, List.set_cons_succ])); (first | (apply linN_free; (simp only [List.getElem?_toArray, List.getElem?_cons_succ, List.getElem?_cons_zero]; rfl); (rfl); (intro w'; (first | (go_simp; done) | (go_simp; with_reducible rfl) | (go_simp; go_bits; with_reducible rfl) | (go_simp; go_bits; done))); try simp only [Act.put, List.setIfInBounds_toArray, List.set_cons_zero, List.set_cons_succ]) | (apply linN_freeSkip; (simp only [List.getElem?_toArray, List.getElem?_cons_succ, List.getElem?_cons_zero]; rfl); (rfl); try simp only [Act.put, List.setIfInBounds_toArray, List.set_cons_zero, List.set_cons_succ])); (first | (apply linN_free; (simp only [List.getElem?_toArray, List.getElem?_cons_succ, List.getElem?_cons_zero]; rfl); (rfl); (intro w'; (first | (go_simp; done) | (go_simp; with_reducible rfl) | (go_simp; go_bits; with_reducible rfl) | (go_simp; go_bits; done))); try simp only [Act.put, List.setIfInBounds_toArray, List.set_cons_zero, List.set_cons_succ]) | (apply linN_freeSkip; (simp only [List.getElem?_toArray, List.getElem?_cons_succ, List.getElem?_cons_zero]; rfl); (rfl); try simp only [Act.put, List.setIfInBounds_toArray, List.set_cons_zero, List.set_cons_succ])); (first | (apply linN_free; (simp only [List.getElem?_toArray, List.getElem?_cons_succ, List.getElem?_cons_zero]; rfl); (rfl); (intro w'; (first | (go_simp; done) | (go_simp; with_reducible rfl) | (go_simp; go_bits; with_reducible rfl) | (go_simp; go_bits; done))); try simp only [Act.put, List.setIfInBounds_toArray, List.set_cons_zero, List.set_cons_succ]) | (apply linN_freeSkip; (simp only [List.getElem?_toArray, List.getElem?_cons_succ, List.getElem?_cons_zero]; rfl); (rfl); try simp only [Act.put, List.setIfInBounds_toArray, List.set_cons_zero, List.set_cons_succ])); (first | (apply linN_free; (simp only [List.getElem?_toArray, List.getElem?_cons_succ, List.getElem?_cons_zero]; rfl); (rfl); (intro w'; (first | (go_simp; done) | (go_simp; with_reducible rfl) | (go_simp; go_bits; with_reducible rfl) | (go_simp; go_bits; done))); try simp only [Act.put, List.setIfInBounds_toArray, List.set_cons_zero, List.set_cons_succ]) | (apply linN_freeSkip; (simp only [List.getElem?_toArray, List.getElem?_cons_succ, List.getElem?_cons_zero]; rfl); (rfl); try simp only [Act.put, List.setIfInBounds_toArray, List.set_cons_zero, List.set_cons_succ])); (first | (apply linN_pass (wayB _) (wayB _); (simp only [List.getElem?_toArray, List.getElem?_cons_succ, List.getElem?_cons_zero]; rfl); (rfl); try simp only [Act.put, List.setIfInBounds_toArray, List.set_cons_zero, List.set_cons_succ]) | (apply linN_op; (simp only [List.getElem?_toArray, List.getElem?_cons_succ, List.getElem?_cons_zero]; rfl); (rfl); intro K hK; (first | (go_simp; (first | (go_at_call 50; (with_reducible refine HRC.out.mono ?_); rintro e w1 ⟨v1, rfl, ho1, hb1⟩; obtain ⟨B1, d1, rfl, lc1, -, hr1⟩ := ho1.form; rw [hrl] at hr1 lc1 ⊢; have r21 := r2d.below hb1 (Nat.le_refl _)) | (go_at_call 37; (with_reducible refine (HQ.out _ _ _ r21 hr1).mono ?_); rintro e w' ⟨rfl, rfl⟩) | skip))); refine hK _ _ ?_ ?_; (exact trivial); clear hK; try simp only [Act.put, List.setIfInBounds_toArray, List.set_cons_zero, List.set_cons_succ])); (first | (apply linN_pass (wayB _) (wayB _); (simp only [List.getElem?_toArray, List.getElem?_cons_succ, List.getElem?_cons_zero]; rfl); (rfl); try simp only [Act.put, List.setIfInBounds_toArray, List.set_cons_zero, List.set_cons_succ]) | (apply linN_op; (simp only [List.getElem?_toArray, List.getElem?_cons_succ, List.getElem?_cons_zero]; rfl); (rfl); intro K hK; (first | (go_simp; (first | (go_at_call 50; (with_reducible refine HRC.out.mono ?_); rintro e w1 ⟨v1, rfl, ho1, hb1⟩; obtain ⟨B1, d1, rfl, lc1, -, hr1⟩ := ho1.form; rw [hrl] at hr1 lc1 ⊢; have r21 := r2d.below hb1 (Nat.le_refl _)) | (go_at_call 37; (with_reducible refine (HQ.out _ _ _ r21 hr1).mono ?_); rintro e w' ⟨rfl, rfl⟩) | skip))); refine hK _ _ ?_ ?_; (exact trivial); clear hK; try simp only [Act.put, List.setIfInBounds_toArray, List.set_cons_zero, List.set_cons_succ])); (first | (apply linN_free; (simp only [List.getElem?_toArray, List.getElem?_cons_succ, List.getElem?_cons_zero]; rfl); (rfl); (intro w'; (first | (go_simp; done) | (go_simp; with_reducible rfl) | (go_simp; go_bits; with_reducible rfl) | (go_simp; go_bits; done))); try simp only [Act.put, List.setIfInBounds_toArray, List.set_cons_zero, List.set_cons_succ]) | (apply linN_freeSkip; (simp only [List.getElem?_toArray, List.getElem?_cons_succ, List.getElem?_cons_zero]; rfl); (rfl); try simp only [Act.put, List.setIfInBounds_toArray, List.set_cons_zero, List.set_cons_succ])); (first | (apply linN_free; (simp only [List.getElem?_toArray, List.getElem?_cons_succ, List.getElem?_cons_zero]; rfl); (rfl); (intro w'; (first | (go_simp; done) | (go_simp; with_reducible rfl) | (go_simp; go_bits; with_reducible rfl) | (go_simp; go_bits; done))); try simp only [Act.put, List.setIfInBounds_toArray, List.set_cons_zero, List.set_cons_succ]) | (apply linN_freeSkip; (simp only [List.getElem?_toArray, List.getElem?_cons_succ, List.getElem?_cons_zero]; rfl); (rfl); try simp only [Act.put, List.setIfInBounds_toArray, List.set_cons_zero, List.set_cons_succ])); refine linN_end ?_)
      go_wp2_with fail
      go_ret2
      exact ⟨res_no hp, below_drew (Below.refl _ _)⟩
    · have h0i : ¬ (k : Int) = 0 := by omega
      have r2d : RdB w.drew A2 24 (b.take 24) := r2
      have h0b : ((k : Int) == 0) = false := beq_eq_false_iff_ne.2 h0i
      have h0c : (k == 0) = false := beq_eq_false_iff_ne.2 h0
      by_cases hcut : b.take 24 = recP k
      · have HQ := Lib.hid (fun W B d h1 h2 => c_rSame W A2 B 24 24 c d (b.take 24) (recP k) h1 h2 true (by simp [hcut]))
        (refine wp_region_linN (Below w.heap.size) (Below w.heap.size) (wayB _) (wayB _) (fun _ _ h => h) (.free 0 (.free 1 (.free 2 (.free 3 (.free 4 (.free 5 (.op 6 [] [] [] (.op 7 [] [] [] (.free 8 (.free 9 .nil)))))))))) rfl (by kernel_rfl) (by kernel_rfl) (fun _ _ _ _ _ h => h) ?_; (first | (apply linN_free; (simp only [List.getElem?_toArray, List.getElem?_cons_succ, List.getElem?_cons_zero]; rfl); (rfl); (intro w'; (first | (go_simp; done) | (go_simp; with_reducible rfl) | (go_simp; go_bits; with_reducible rfl) | (go_simp; go_bits; done))); try simp only [Act.put, List.setIfInBounds_toArray, List.set_cons_zero, List.set_cons_succ]) | (apply linN_freeSkip; (simp only [List.getElem?_toArray, List.getElem?_cons_succ, List.getElem?_cons_zero]; rfl); (rfl); try simp only [Act.put, List.setIfInBounds_toArray, List.set_cons_zero, List.set_cons_succ])); (first | (apply linN_free; (simp only [List.getElem?_toArray, List.getElem?_cons_succ, List.getElem?_cons_zero]; rfl); (rfl); (intro w'; (first | (go_simp; done) | (go_simp; with_reducible rfl) | (go_simp; go_bits; with_reducible rfl) | (go_simp; go_bits; done))); try simp only [Act.put, List.setIfInBounds_toArray, List.set_cons_zero, List.set_cons_succ]) | (apply linN_freeSkip; (simp only [List.getElem?_toArray, List.getElem?_cons_succ, List.getElem?_cons_zero]; rfl); (rfl); try simp only [Act.put, List.setIfInBounds_toArray, List.set_cons_zero, List.set_cons_succ])); (first | (apply linN_free; (simp only [List.getElem?_toArray, List.getElem?_cons_succ, List.getElem?_cons_zero]; rfl); (rfl); (intro w'; (first | (go_simp; done) | (go_simp; with_reducible rfl) | (go_simp; go_bits; with_reducible rfl) | (go_simp; go_bits; done))); try simp only [Act.put, List.setIfInBounds_toArray, List.set_cons_zero, List.set_cons_succ]) | (apply linN_freeSkip; (simp only [List.getElem?_toArray, List.getElem?_cons_succ, List.getElem?_cons_zero]; rfl); (rfl); try simp only [Act.put, List.setIfInBounds_toArray, List.set_cons_zero, List.set_cons_succ])); (first | (apply linN_free; (simp only [List.getElem?_toArray, List.getElem?_cons_succ, List.getElem?_cons_zero]; rfl); (rfl); (intro w'; (first | (go_simp; done) | (go_simp; with_reducible rfl) | (go_simp; go_bits; with_reducible rfl) | (go_simp; go_bits; done))); try simp only [Act.put, List.setIfInBounds_toArray, List.set_cons_zero, List.set_cons_succ]) | (apply linN_freeSkip; (simp only [List.getElem?_toArray, List.getElem?_cons_succ, List.getElem?_cons_zero]; rfl); (rfl); try simp only [Act.put, List.setIfInBounds_toArray, List.set_cons_zero, List.set_cons_succ])); (first | (apply linN_free; (simp only [List.getElem?_toArray, List.getElem?_cons_succ, List.getElem?_cons_zero]; rfl); (rfl); (intro w'; (first | (go_simp; done) | (go_simp; with_reducible rfl) | (go_simp; go_bits; with_reducible rfl) | (go_simp; go_bits; done))); try simp only [Act.put, List.setIfInBounds_toArray, List.set_cons_zero, List.set_cons_succ]) | (apply linN_freeSkip; (simp only [List.getElem?_toArray, List.getElem?_cons_succ, List.getElem?_cons_zero]; rfl); (rfl); try simp only [Act.put, List.setIfInBounds_toArray, List.set_cons_zero, List.set_cons_succ])); (first | (apply linN_free; (simp only [List.getElem?_toArray, List.getElem?_cons_succ, List.getElem?_cons_zero]; rfl); (rfl); (intro w'; (first | (go_simp; done) | (go_simp; with_reducible rfl) | (go_simp; go_bits; with_reducible rfl) | (go_simp; go_bits; done))); try simp only [Act.put, List.setIfInBounds_toArray, List.set_cons_zero, List.set_cons_succ]) | (apply linN_freeSkip; (simp only [List.getElem?_toArray, List.getElem?_cons_succ, List.getElem?_cons_zero]; rfl); (rfl); try simp only [Act.put, List.setIfInBounds_toArray, List.set_cons_zero, List.set_cons_succ])); (first | (apply linN_pass (wayB _) (wayB _); (simp only [List.getElem?_toArray, List.getElem?_cons_succ, List.getElem?_cons_zero]; rfl); (rfl); try simp only [Act.put, List.setIfInBounds_toArray, List.set_cons_zero, List.set_cons_succ]) | (apply linN_op; (simp only [List.getElem?_toArray, List.getElem?_cons_succ, List.getElem?_cons_zero]; rfl); (rfl); intro K hK; (first | (go_simp; (first | (go_at_call 50; (with_reducible refine HRC.out.mono ?_); rintro e w1 ⟨v1, rfl, ho1, hb1⟩; obtain ⟨B1, d1, rfl, lc1, -, hr1⟩ := ho1.form; rw [hrl] at hr1 lc1 ⊢; have r21 := r2d.below hb1 (Nat.le_refl _)) | (go_at_call 37; (with_reducible refine (HQ.out _ _ _ r21 hr1).mono ?_); rintro e w' ⟨rfl, rfl⟩) | skip))); refine hK _ _ ?_ ?_; (exact trivial); clear hK; try simp only [Act.put, List.setIfInBounds_toArray, List.set_cons_zero, List.set_cons_succ])); (first | (apply linN_pass (wayB _) (wayB _); (simp only [List.getElem?_toArray, List.getElem?_cons_succ, List.getElem?_cons_zero]; rfl); (rfl); try simp only [Act.put, List.setIfInBounds_toArray, List.set_cons_zero, List.set_cons_succ]) | (apply linN_op; (simp only [List.getElem?_toArray, List.getElem?_cons_succ, List.getElem?_cons_zero]; rfl); (rfl); intro K hK; (first | (go_simp; (first | (go_at_call 50; (with_reducible refine HRC.out.mono ?_); rintro e w1 ⟨v1, rfl, ho1, hb1⟩; obtain ⟨B1, d1, rfl, lc1, -, hr1⟩ := ho1.form; rw [hrl] at hr1 lc1 ⊢; have r21 := r2d.below hb1 (Nat.le_refl _)) | (go_at_call 37; (with_reducible refine (HQ.out _ _ _ r21 hr1).mono ?_); rintro e w' ⟨rfl, rfl⟩) | skip))); refine hK _ _ ?_ ?_; (exact trivial); clear hK; try simp only [Act.put, List.setIfInBounds_toArray, List.set_cons_zero, List.set_cons_succ])); (first | (apply linN_free; (simp only [List.getElem?_toArray, List.getElem?_cons_succ, List.getElem?_cons_zero]; rfl); (rfl); (intro w'; (first | (go_simp; done) | (go_simp; with_reducible rfl) | (go_simp; go_bits; with_reducible rfl) | (go_simp; go_bits; done))); try simp only [Act.put, List.setIfInBounds_toArray, List.set_cons_zero, List.set_cons_succ]) | (apply linN_freeSkip; (simp only [List.getElem?_toArray, List.getElem?_cons_succ, List.getElem?_cons_zero]; rfl); (rfl); try simp only [Act.put, List.setIfInBounds_toArray, List.set_cons_zero, List.set_cons_succ])); (first | (apply linN_free; (simp only [List.getElem?_toArray, List.getElem?_cons_succ, List.getElem?_cons_zero]; rfl); (rfl); (intro w'; (first | (go_simp; done) | (go_simp; with_reducible rfl) | (go_simp; go_bits; with_reducible rfl) | (go_simp; go_bits; done))); try simp only [Act.put, List.setIfInBounds_toArray, List.set_cons_zero, List.set_cons_succ]) | (apply linN_freeSkip; (simp only [List.getElem?_toArray, List.getElem?_cons_succ, List.getElem?_cons_zero]; rfl); (rfl); try simp only [Act.put, List.setIfInBounds_toArray, List.set_cons_zero, List.set_cons_succ])); refine linN_end ?_)
        have hR1 : RdB w1 A n b := (show RdB w.drew A n b from hR).below hb1 (Nat.le_refl _)
        have hB1 : Below w.heap.size w w1 := (below_drew (Below.refl _ _)).trans hb1
        have hln : (b.drop 24).length = n - 24 := by rw [List.length_drop, HBL.out]
        have hn24 : 24 ≤ n := by omega
        have HLN := Lib.hid hln
        clear hln r21 r2 r2d hR hb1 hr1 ho1 HQ HRC hrl e2 HG HK8
        go_wp2
        go_loop [5] (fun s => ∃ j : Nat, j ≤ n - 24 ∧ s = .int .i64 ((24 + j : Nat) : Int) ∧ zeroL ((b.drop 24).take j) = true) (fun s => n - (intOf s).toNat)
        case atStart => exact ⟨0, by omega, rfl, rfl⟩
        case round =>
          obtain ⟨j, hj, rfl, hz⟩ := hrel
          have HZ := Lib.hid hz
          clear hz
          by_cases hlt : j < n - 24
          · obtain ⟨q, hq⟩ : ∃ q, 24 + j = q := ⟨_, rfl⟩
            obtain ⟨ad, rfl, hcl⟩ := RdB.at_ hR1 (j := 24 + j) (by omega)
            rw [← List.getD_eq_getElem?_getD, ← getD_drop] at hcl
            have hs3 := zeroL_snoc (b.drop 24) j (by rw [HLN.out]; exact hlt)
            rw [hq] at hcl ⊢
            have hq1 : (q : Int) < (n : Int) := by omega
            have hq0 : (0 : Int) ≤ (q : Int) := by omega
            by_cases hz0 : (b.drop 24).getD j 0 = 0
            · rw [HZ.out, hz0] at hs3
              rw [hz0] at hcl
              simp only [show ((0 : UInt8).toNat : Int) = 0 from rfl] at hcl
              have HS := Lib.hid hs3
              have HQ2 := Lib.hid hq
              clear hs3 hz0 hq
              go_wp2
              go_round
              case rel => exact ⟨j + 1, by omega, by rw [← HQ2.out]; go_num, HS.out⟩
              case measure => simp [intOf]; omega
            · have h0' : ¬ (((b.drop 24).getD j 0).toNat : Int) = 0 := by
                intro h
                have h' : ((b.drop 24).getD j 0).toNat = 0 := by omega
                exact hz0 (UInt8.toNat_inj.1 (by rw [h']; rfl))
              have hf := zeroL_part (by rw [HLN.out]; exact hlt) hz0
              have hp := HN.out (fun h => by rw [hf] at h; exact absurd h.2.2.2 (by decide))
              clear hs3 hz0 hq hf
              generalize (b.drop 24).getD j 0 = x at *
              have hne : (((x.toNat : Int)) != 0) = true := by simpa using h0'
              go_wp2
              go_ret2
              exact ⟨res_no hp, hB1⟩
          · obtain rfl : j = n - 24 := by omega
            have hq := HZ.out
            rw [List.take_of_length_le (by rw [HLN.out]; exact Nat.le_refl _)] at hq
            have HP : ParseYes b k := ⟨HY.out (by rw [HBL.out]; exact hn24) h0 hcut hq⟩
            have hq1 : 24 + (n - 24) = n := by omega
            rw [hq1]
            clear hq hq1 hcut hj hlt hkl h0b h0c h0i h0
            go_wp2
            go_ret2
            exact ⟨res_yes HP.n, hB1⟩
      · have HQ := Lib.hid (fun W B d h1 h2 => c_rSame W A2 B 24 24 c d (b.take 24) (recP k) h1 h2 false (by simp [hcut]))
        have hp := HN.out (fun h => hcut h.2.2.1)
        (refine wp_region_linN (Below w.heap.size) (Below w.heap.size) (wayB _) (wayB _) (fun _ _ h => h) (.free 0 (.free 1 (.free 2 (.free 3 (.free 4 (.free 5 (.op 6 [] [] [] (.op 7 [] [] [] (.free 8 (.free 9 .nil)))))))))) rfl (by kernel_rfl) (by kernel_rfl) (fun _ _ _ _ _ h => h) ?_; (first | (apply linN_free; (simp only [List.getElem?_toArray, List.getElem?_cons_succ, List.getElem?_cons_zero]; rfl); (rfl); (intro w'; (first | (go_simp; done) | (go_simp; with_reducible rfl) | (go_simp; go_bits; with_reducible rfl) | (go_simp; go_bits; done))); try simp only [Act.put, List.setIfInBounds_toArray, List.set_cons_zero, List.set_cons_succ]) | (apply linN_freeSkip; (simp only [List.getElem?_toArray, List.getElem?_cons_succ, List.getElem?_cons_zero]; rfl); (rfl); try simp only [Act.put, List.setIfInBounds_toArray, List.set_cons_zero, List.set_cons_succ])); (first | (apply linN_free; (simp only [List.getElem?_toArray, List.getElem?_cons_succ, List.getElem?_cons_zero]; rfl); (rfl); (intro w'; (first | (go_simp; done) | (go_simp; with_reducible rfl) | (go_simp; go_bits; with_reducible rfl) | (go_simp; go_bits; done))); try simp only [Act.put, List.setIfInBounds_toArray, List.set_cons_zero, List.set_cons_succ]) | (apply linN_freeSkip; (simp only [List.getElem?_toArray, List.getElem?_cons_succ, List.getElem?_cons_zero]; rfl); (rfl); try simp only [Act.put, List.setIfInBounds_toArray, List.set_cons_zero, List.set_cons_succ])); (first | (apply linN_free; (simp only [List.getElem?_toArray, List.getElem?_cons_succ, List.getElem?_cons_zero]; rfl); (rfl); (intro w'; (first | (go_simp; done) | (go_simp; with_reducible rfl) | (go_simp; go_bits; with_reducible rfl) | (go_simp; go_bits; done))); try simp only [Act.put, List.setIfInBounds_toArray, List.set_cons_zero, List.set_cons_succ]) | (apply linN_freeSkip; (simp only [List.getElem?_toArray, List.getElem?_cons_succ, List.getElem?_cons_zero]; rfl); (rfl); try simp only [Act.put, List.setIfInBounds_toArray, List.set_cons_zero, List.set_cons_succ])); (first | (apply linN_free; (simp only [List.getElem?_toArray, List.getElem?_cons_succ, List.getElem?_cons_zero]; rfl); (rfl); (intro w'; (first | (go_simp; done) | (go_simp; with_reducible rfl) | (go_simp; go_bits; with_reducible rfl) | (go_simp; go_bits; done))); try simp only [Act.put, List.setIfInBounds_toArray, List.set_cons_zero, List.set_cons_succ]) | (apply linN_freeSkip; (simp only [List.getElem?_toArray, List.getElem?_cons_succ, List.getElem?_cons_zero]; rfl); (rfl); try simp only [Act.put, List.setIfInBounds_toArray, List.set_cons_zero, List.set_cons_succ])); (first | (apply linN_free; (simp only [List.getElem?_toArray, List.getElem?_cons_succ, List.getElem?_cons_zero]; rfl); (rfl); (intro w'; (first | (go_simp; done) | (go_simp; with_reducible rfl) | (go_simp; go_bits; with_reducible rfl) | (go_simp; go_bits; done))); try simp only [Act.put, List.setIfInBounds_toArray, List.set_cons_zero, List.set_cons_succ]) | (apply linN_freeSkip; (simp only [List.getElem?_toArray, List.getElem?_cons_succ, List.getElem?_cons_zero]; rfl); (rfl); try simp only [Act.put, List.setIfInBounds_toArray, List.set_cons_zero, List.set_cons_succ])); (first | (apply linN_free; (simp only [List.getElem?_toArray, List.getElem?_cons_succ, List.getElem?_cons_zero]; rfl); (rfl); (intro w'; (first | (go_simp; done) | (go_simp; with_reducible rfl) | (go_simp; go_bits; with_reducible rfl) | (go_simp; go_bits; done))); try simp only [Act.put, List.setIfInBounds_toArray, List.set_cons_zero, List.set_cons_succ]) | (apply linN_freeSkip; (simp only [List.getElem?_toArray, List.getElem?_cons_succ, List.getElem?_cons_zero]; rfl); (rfl); try simp only [Act.put, List.setIfInBounds_toArray, List.set_cons_zero, List.set_cons_succ])); (first | (apply linN_pass (wayB _) (wayB _); (simp only [List.getElem?_toArray, List.getElem?_cons_succ, List.getElem?_cons_zero]; rfl); (rfl); try simp only [Act.put, List.setIfInBounds_toArray, List.set_cons_zero, List.set_cons_succ]) | (apply linN_op; (simp only [List.getElem?_toArray, List.getElem?_cons_succ, List.getElem?_cons_zero]; rfl); (rfl); intro K hK; (first | (go_simp; (first | (go_at_call 50; (with_reducible refine HRC.out.mono ?_); rintro e w1 ⟨v1, rfl, ho1, hb1⟩; obtain ⟨B1, d1, rfl, lc1, -, hr1⟩ := ho1.form; rw [hrl] at hr1 lc1 ⊢; have r21 := r2d.below hb1 (Nat.le_refl _)) | (go_at_call 37; (with_reducible refine (HQ.out _ _ _ r21 hr1).mono ?_); rintro e w' ⟨rfl, rfl⟩) | skip))); refine hK _ _ ?_ ?_; (exact trivial); clear hK; try simp only [Act.put, List.setIfInBounds_toArray, List.set_cons_zero, List.set_cons_succ])); (first | (apply linN_pass (wayB _) (wayB _); (simp only [List.getElem?_toArray, List.getElem?_cons_succ, List.getElem?_cons_zero]; rfl); (rfl); try simp only [Act.put, List.setIfInBounds_toArray, List.set_cons_zero, List.set_cons_succ]) | (apply linN_op; (simp only [List.getElem?_toArray, List.getElem?_cons_succ, List.getElem?_cons_zero]; rfl); (rfl); intro K hK; (first | (go_simp; (first | (go_at_call 50; (with_reducible refine HRC.out.mono ?_); rintro e w1 ⟨v1, rfl, ho1, hb1⟩; obtain ⟨B1, d1, rfl, lc1, -, hr1⟩ := ho1.form; rw [hrl] at hr1 lc1 ⊢; have r21 := r2d.below hb1 (Nat.le_refl _)) | (go_at_call 37; (with_reducible refine (HQ.out _ _ _ r21 hr1).mono ?_); rintro e w' ⟨rfl, rfl⟩) | skip))); refine hK _ _ ?_ ?_; (exact trivial); clear hK; try simp only [Act.put, List.setIfInBounds_toArray, List.set_cons_zero, List.set_cons_succ])); (first | (apply linN_free; (simp only [List.getElem?_toArray, List.getElem?_cons_succ, List.getElem?_cons_zero]; rfl); (rfl); (intro w'; (first | (go_simp; done) | (go_simp; with_reducible rfl) | (go_simp; go_bits; with_reducible rfl) | (go_simp; go_bits; done))); try simp only [Act.put, List.setIfInBounds_toArray, List.set_cons_zero, List.set_cons_succ]) | (apply linN_freeSkip; (simp only [List.getElem?_toArray, List.getElem?_cons_succ, List.getElem?_cons_zero]; rfl); (rfl); try simp only [Act.put, List.setIfInBounds_toArray, List.set_cons_zero, List.set_cons_succ])); (first | (apply linN_free; (simp only [List.getElem?_toArray, List.getElem?_cons_succ, List.getElem?_cons_zero]; rfl); (rfl); (intro w'; (first | (go_simp; done) | (go_simp; with_reducible rfl) | (go_simp; go_bits; with_reducible rfl) | (go_simp; go_bits; done))); try simp only [Act.put, List.setIfInBounds_toArray, List.set_cons_zero, List.set_cons_succ]) | (apply linN_freeSkip; (simp only [List.getElem?_toArray, List.getElem?_cons_succ, List.getElem?_cons_zero]; rfl); (rfl); try simp only [Act.put, List.setIfInBounds_toArray, List.set_cons_zero, List.set_cons_succ])); refine linN_end ?_)
        go_wp2_with fail
        go_ret2
        exact ⟨res_no hp, (below_drew (Below.refl _ _)).trans hb1⟩
end Go.Proofs.Ytlbpmboknmbcgaa
