/- boot.Last, boot.Bump over the device. -/
import Derived.Test.YtlbpmboknmbcgaaBootD
import Derived.Test.YtlbpmboknmbcgaaLawBounds
set_option linter.unusedVariables false
set_option linter.unusedSimpArgs false
namespace Go.Proofs.Ytlbpmboknmbcgaa
open Go.RowKit

/-- the greater number of two places -/
def lastN (D : Dk) (a : Int) : Nat := max (parseV (D.at_ D.now a)) (parseV (D.at_ D.now (a + 1)))
theorem read_at (D : Dk) (a i : Int) : (D.read a).at_ (D.read a).now i = D.at_ D.now i := rfl
theorem parseV_lt (b : List UInt8) : parseV b < 4294967296 := by
  unfold parseV parseN
  split
  · exact numAt_lt b
  · show (0 : Nat) < 4294967296; decide
theorem lastN_lt (D : Dk) (a : Int) : lastN D a < 4294967296 := by
  have h1 := parseV_lt (D.at_ D.now a)
  have h2 := parseV_lt (D.at_ D.now (a + 1))
  unfold lastN; omega
/-- two reads -/
def look (D : Dk) (a : Int) : Dk := (D.read a).read (a + 1)
structure IsMax (x y m : Nat) : Prop where
  out : max x y = m
theorem at_len {W : World} {base b n : Nat} {D : Dk} (h : In W base b D n) (a : Int) : (D.at_ D.now a).length ≤ 60000 := by
  have h1 := h.bd.hi
  have h0 := h.bd.lo
  cases hh : D.has a with
  | false => rw [at_not hh]; exact Nat.zero_le _
  | true => rw [at_yes hh]; exact fit_le h1 _
variable {W : World} {base b n : Nat} {D : Dk}
set_option maxHeartbeats 4000000 in
set_option maxRecDepth 100000 in
theorem c_last (h : In W base b D n) (hn : n ≤ 800000) (a : Nat) (ha : a ≤ 1000) (hg : D.goes = false) (hg2 : (D.read a).goes = false) :
    Calls Try.prog 53 #[.pointer (some ⟨b, 0, none⟩), .int .i64 (a : Int)] W fun e w' => e = .returned (.int .u32 (lastN D a : Nat)) ∧ In w' base b (look D a) (n + 2) ∧ DR dTy base W w' := by
  have HM : IsMax (parseV (D.at_ D.now a)) (parseV (D.at_ D.now (a + 1))) (lastN D a) := ⟨rfl⟩
  have HR1 := Lib.hid (i_read h (by omega) hg (a : Int) (wf_i64 (by omega) (by omega)))
  have hl1 := at_len h (a : Int)
  have hl2 := at_len h ((a : Int) + 1)
  have hx1 := parseV_lt (D.at_ D.now a)
  have hx2 := parseV_lt (D.at_ D.now (a + 1))
  have hw : IntKind.i64.wrap ((a : Int) + 1) = (a : Int) + 1 := IntWalk.i64_in _ (by omega)
  have hR2 : ∀ w', In w' base b (D.read a) (n + 1) → _ := fun w' h' => i_read h' (by omega) hg2 ((a : Int) + 1) (wf_i64 (by omega) (by omega))
  have HR2 := Lib.hid hR2
  clear hR2
  rw [read_at] at HR2
  generalize hb1 : D.at_ D.now (a : Int) = b1 at *
  generalize hb2 : D.at_ D.now ((a : Int) + 1) = b2 at *
  clear hb1 hb2 hg hg2
  go_enter Try.func53, Try.ntmps53
  go_upto_region 2 with (first | (go_at_call 20; (with_reducible refine HR1.out.mono ?_); rintro e w1 ⟨v1, rfl, ho1, hi1, hd1⟩; obtain ⟨A1, c1, rfl, lc1, -, hr1⟩ := ho1.form) | (go_at_call 57; (with_reducible refine (c_parse A1 _ c1 b1 w1 hr1 lc1 (by omega)).mono ?_); rintro e w2 ⟨hp, hb2⟩; unfold ParseRes at hp; subst hp))
  have hi2 := hi1.below hb2
  have hd2 := hd1.trans (DR.of_below (S := dTy) hb2 hi1.le)
  have HR3 := Lib.hid (HR2.out _ hi2)
  clear hr1 ho1 hb2 hi1 hi2 hd1 HR1 HR2 h
  go_upto_region 3 with (first | (go_at_call 20; (with_reducible refine HR3.out.mono ?_); rintro e w3 ⟨v3, rfl, ho3, hi3, hd3⟩; obtain ⟨A3, c3, rfl, lc3, -, hr3⟩ := ho3.form) | (go_at_call 57; (with_reducible refine (c_parse A3 _ c3 b2 w3 hr3 lc3 (by omega)).mono ?_); rintro e w4 ⟨hp, hb4⟩; unfold ParseRes at hp; subst hp))
  have hi4 := hi3.below hb4
  have hd4 := (hd2.trans hd3).trans (DR.of_below (S := dTy) hb4 hi3.le)
  clear hr3 ho3 hb4 hi3 hd3 hd2 HR3 hw hl1 hl2
  generalize (parseN b1).isSome = k1 at *
  generalize (parseN b2).isSome = k2 at *
  generalize parseV b1 = x at *
  generalize parseV b2 = y at *
  by_cases hlt : x < y
  · have hm : lastN D a = y := by rw [← HM.out]; omega
    have HQ := Lib.hid hm
    clear HM hm
    have hlt2 : (x : Int) < (y : Int) := by omega
    go_wp2
    go_ret
    exact ⟨by rw [HQ.out]; rfl, hi4, hd4⟩
  · have hm : lastN D a = x := by rw [← HM.out]; omega
    have HQ := Lib.hid hm
    clear HM hm
    have hlt2 : ¬ (x : Int) < (y : Int) := by omega
    go_wp2
    go_ret
    exact ⟨by rw [HQ.out]; rfl, hi4, hd4⟩
theorem c_lastNo1 (h : In W base b D n) (a : Nat) (hg : D.goes = true) :
    Calls Try.prog 53 #[.pointer (some ⟨b, 0, none⟩), .int .i64 (a : Int)] W fun e w' => e = gonePanic ∧ In w' base b D.dead n ∧ DR dTy base W w' := by
  go_enter Try.func53, Try.ntmps53
  go_wp2_with fail
  refine (i_readNo h hg _).mono ?_
  rintro e w' ⟨rfl, h1, h2⟩
  exact ⟨rfl, rfl, h1, h2⟩
set_option maxHeartbeats 4000000 in
set_option maxRecDepth 100000 in
theorem c_lastNo2 (h : In W base b D n) (hn : n ≤ 800000) (a : Nat) (ha : a ≤ 1000) (hg : D.goes = false) (hg2 : (D.read a).goes = true) :
    Calls Try.prog 53 #[.pointer (some ⟨b, 0, none⟩), .int .i64 (a : Int)] W fun e w' => e = gonePanic ∧ In w' base b (D.read a).dead (n + 1) ∧ DR dTy base W w' := by
  have HR1 := Lib.hid (i_read h (by omega) hg (a : Int) (wf_i64 (by omega) (by omega)))
  have hl1 := at_len h (a : Int)
  have hw : IntKind.i64.wrap ((a : Int) + 1) = (a : Int) + 1 := IntWalk.i64_in _ (by omega)
  generalize hb1 : D.at_ D.now (a : Int) = b1 at *
  have HG2 := Lib.hid hg2
  clear hb1 hg hg2
  go_enter Try.func53, Try.ntmps53
  go_upto_region 2 with (first | (go_at_call 20; (with_reducible refine HR1.out.mono ?_); rintro e w1 ⟨v1, rfl, ho1, hi1, hd1⟩; obtain ⟨A1, c1, rfl, lc1, -, hr1⟩ := ho1.form) | (go_at_call 57; (with_reducible refine (c_parse A1 _ c1 b1 w1 hr1 lc1 (by omega)).mono ?_); rintro e w2 ⟨hp, hb2⟩; unfold ParseRes at hp; subst hp))
  have hi2 := hi1.below hb2
  have hd2 := hd1.trans (DR.of_below (S := dTy) hb2 hi1.le)
  clear hr1 ho1 hb2 hi1 hd1 HR1 h
  go_wp2_with fail
  refine (i_readNo hi2 HG2.out _).mono ?_
  rintro e w' ⟨rfl, h1, h2⟩
  exact ⟨rfl, rfl, h1, hd2.trans h2⟩
/-- where the next number goes -/
def bumpAt (D : Dk) (a : Nat) : Int := (a : Int) + 1 - (((lastN D a + 1) % 2 : Nat) : Int)
/-- the next number, written -/
def bumpW (D : Dk) (a : Nat) : Dk := (look D a).write (bumpAt D a) (recP (lastN D a + 1))
set_option maxHeartbeats 4000000 in
set_option maxRecDepth 100000 in
theorem c_bumpFull (h : In W base b D n) (hn : n ≤ 800000) (a : Nat) (ha : a ≤ 1000) (hg : D.goes = false) (hg2 : (D.read a).goes = false) (hm : lastN D a = 4294967295) :
    Calls Try.prog 51 #[.pointer (some ⟨b, 0, none⟩), .int .i64 (a : Int)] W fun e w' => e = .returned (.tuple #[.int .u32 0, .int .i64 5]) ∧ In w' base b (look D a) (n + 2) ∧ DR dTy base W w' := by
  have HL := Lib.hid (c_last h hn a ha hg hg2)
  have HM := Lib.hid hm
  clear hg hg2 hm
  go_enter Try.func51, Try.ntmps51
  go_wp2_with (go_at_call 53; (with_reducible refine HL.out.mono ?_); rintro e w1 ⟨rfl, hi1, hd1⟩; rw [HM.out, show ((4294967295 : Nat) : Int) = 4294967295 from rfl])
  go_ret2
  exact ⟨rfl, hi1, hd1⟩
theorem c_bumpNo1 (h : In W base b D n) (a : Nat) (hg : D.goes = true) :
    Calls Try.prog 51 #[.pointer (some ⟨b, 0, none⟩), .int .i64 (a : Int)] W fun e w' => e = gonePanic ∧ In w' base b D.dead n ∧ DR dTy base W w' := by
  go_enter Try.func51, Try.ntmps51
  go_wp2_with fail
  refine (c_lastNo1 h a hg).mono ?_
  rintro e w' ⟨rfl, h1, h2⟩
  exact ⟨rfl, rfl, h1, h2⟩
theorem c_bumpNo2 (h : In W base b D n) (hn : n ≤ 800000) (a : Nat) (ha : a ≤ 1000) (hg : D.goes = false) (hg2 : (D.read a).goes = true) :
    Calls Try.prog 51 #[.pointer (some ⟨b, 0, none⟩), .int .i64 (a : Int)] W fun e w' => e = gonePanic ∧ In w' base b (D.read a).dead (n + 1) ∧ DR dTy base W w' := by
  go_enter Try.func51, Try.ntmps51
  go_wp2_with fail
  refine (c_lastNo2 h hn a ha hg hg2).mono ?_
  rintro e w' ⟨rfl, h1, h2⟩
  exact ⟨rfl, rfl, h1, h2⟩
set_option maxHeartbeats 4000000 in
set_option maxRecDepth 100000 in
theorem c_bumpNo3 (h : In W base b D n) (hn : n ≤ 800000) (a : Nat) (ha : a ≤ 1000) (hg : D.goes = false) (hg2 : (D.read a).goes = false) (hm : lastN D a < 4294967295) (hg3 : (look D a).goes = true) :
    Calls Try.prog 51 #[.pointer (some ⟨b, 0, none⟩), .int .i64 (a : Int)] W fun e w' => e = gonePanic ∧ In w' base b (look D a).dead (n + 2) ∧ DR dTy base W w' := by
  have HL := Lib.hid (c_last h hn a ha hg hg2)
  have HG := Lib.hid hg3
  clear hg hg2 hg3
  obtain ⟨r, hr⟩ : ∃ r : Nat, (lastN D a + 1) % 2 = r := ⟨_, rfl⟩
  have hr2 : r < 2 := by omega
  obtain ⟨q, hq⟩ : ∃ q : Nat, (a : Int) + 1 - (r : Int) = (q : Int) := ⟨a + 1 - r, by omega⟩
  have hba : bumpAt D a = (q : Int) := by unfold bumpAt; rw [hr]; exact hq
  have hbw : bumpW D a = (look D a).write (q : Int) (recP (lastN D a + 1)) := by unfold bumpW; rw [hba]
  have HBW := Lib.hid hbw
  clear hba hbw
  obtain ⟨m, hmm⟩ : ∃ m : Nat, lastN D a = m := ⟨_, rfl⟩
  rw [hmm] at hm hr
  have hm3 : ¬ (m : Int) = 4294967295 := by omega
  obtain ⟨k, hk⟩ : ∃ k : Nat, m + 1 = k := ⟨_, rfl⟩
  have hki : (m : Int) + 1 = (k : Int) := by omega
  have hk1 : k < 4294967296 := by omega
  have hk2 : (k : Int) < 4294967296 := by omega
  have hr3 : (k : Int) % 2 = (r : Int) := by omega
  have hr4 : (k : Int).tmod 2 = (r : Int) := by rw [Int.tmod_eq_emod_of_nonneg (by omega)]; exact hr3
  have HK1 := Lib.hid hk1
  have HMM := Lib.hid hmm
  have HKK := Lib.hid hk
  clear hr hk hk1 hm hmm
  have HC := Lib.hid (fun w => c_record k HK1.out w)
  have hb1 : ((m : Int) == 4294967295) = false := beq_eq_false_iff_ne.2 hm3
  have hb2 : decide ((m : Int) = 4294967295) = false := decide_eq_false hm3
  clear hm3
  have hw5 : IntKind.i64.wrap ((a : Int) + 1) = (a : Int) + 1 := IntWalk.i64_in _ (by omega)
  have hw6 : IntKind.i64.wrap ((a : Int) + 1 - (r : Int)) = (q : Int) := by rw [hq]; exact IntWalk.i64_in _ (by omega)
  have hw7 : IntKind.i64.wrap (r : Int) = (r : Int) := IntWalk.i64_in _ (by omega)
  have hq1 : q ≤ 1001 := by omega
  clear hq
  go_enter Try.func51, Try.ntmps51
  go_upto_region 2 with (go_at_call 53; (with_reducible refine HL.out.mono ?_); rintro e w1 ⟨rfl, hi1, hd1⟩; rw [HMM.out])
  clear HL
  go_upto_region 5 with fail
  clear hb1 hb2 hki
  go_wp2_with (go_at_call 59; (with_reducible refine (HC.out _).mono ?_); rintro e w2 ⟨v2, rfl, ho2, hb2⟩; have hi2 := hi1.below hb2; have hd2 := hd1.trans (DR.of_below (S := dTy) hb2 hi1.le))
  refine (i_writeNo hi2 HG.out _ _).mono ?_
  rintro e w' ⟨rfl, h1, h2⟩
  exact ⟨rfl, rfl, h1, hd2.trans h2⟩
set_option maxHeartbeats 4000000 in
set_option maxRecDepth 100000 in
theorem c_bumpNo4 (h : In W base b D n) (hn : n ≤ 800000) (a : Nat) (ha : a ≤ 1000) (hg : D.goes = false) (hg2 : (D.read a).goes = false) (hm : lastN D a < 4294967295) (hg3 : (look D a).goes = false) (hg4 : (bumpW D a).goes = true) :
    Calls Try.prog 51 #[.pointer (some ⟨b, 0, none⟩), .int .i64 (a : Int)] W fun e w' => e = gonePanic ∧ In w' base b (bumpW D a).dead (n + 3) ∧ DR dTy base W w' := by
  have HL := Lib.hid (c_last h hn a ha hg hg2)
  have HG := Lib.hid hg3
  have HG4 := Lib.hid hg4
  clear hg hg2 hg3 hg4
  obtain ⟨r, hr⟩ : ∃ r : Nat, (lastN D a + 1) % 2 = r := ⟨_, rfl⟩
  have hr2 : r < 2 := by omega
  obtain ⟨q, hq⟩ : ∃ q : Nat, (a : Int) + 1 - (r : Int) = (q : Int) := ⟨a + 1 - r, by omega⟩
  have hba : bumpAt D a = (q : Int) := by unfold bumpAt; rw [hr]; exact hq
  have hbw : bumpW D a = (look D a).write (q : Int) (recP (lastN D a + 1)) := by unfold bumpW; rw [hba]
  have HBW := Lib.hid hbw
  clear hba hbw
  obtain ⟨m, hmm⟩ : ∃ m : Nat, lastN D a = m := ⟨_, rfl⟩
  rw [hmm] at hm hr
  have hm3 : ¬ (m : Int) = 4294967295 := by omega
  obtain ⟨k, hk⟩ : ∃ k : Nat, m + 1 = k := ⟨_, rfl⟩
  have hki : (m : Int) + 1 = (k : Int) := by omega
  have hk1 : k < 4294967296 := by omega
  have hk2 : (k : Int) < 4294967296 := by omega
  have hr3 : (k : Int) % 2 = (r : Int) := by omega
  have hr4 : (k : Int).tmod 2 = (r : Int) := by rw [Int.tmod_eq_emod_of_nonneg (by omega)]; exact hr3
  have HK1 := Lib.hid hk1
  have HMM := Lib.hid hmm
  have HKK := Lib.hid hk
  clear hr hk hk1 hm hmm
  have HC := Lib.hid (fun w => c_record k HK1.out w)
  have hb1 : ((m : Int) == 4294967295) = false := beq_eq_false_iff_ne.2 hm3
  have hb2 : decide ((m : Int) = 4294967295) = false := decide_eq_false hm3
  clear hm3
  have hw5 : IntKind.i64.wrap ((a : Int) + 1) = (a : Int) + 1 := IntWalk.i64_in _ (by omega)
  have hw6 : IntKind.i64.wrap ((a : Int) + 1 - (r : Int)) = (q : Int) := by rw [hq]; exact IntWalk.i64_in _ (by omega)
  have hw7 : IntKind.i64.wrap (r : Int) = (r : Int) := IntWalk.i64_in _ (by omega)
  have hq1 : q ≤ 1001 := by omega
  clear hq
  go_enter Try.func51, Try.ntmps51
  go_upto_region 2 with (go_at_call 53; (with_reducible refine HL.out.mono ?_); rintro e w1 ⟨rfl, hi1, hd1⟩; rw [HMM.out])
  clear HL
  go_upto_region 5 with fail
  clear hb1 hb2 hki
  go_wp2_with (first | (go_at_call 59; (with_reducible refine (HC.out _).mono ?_); rintro e w2 ⟨v2, rfl, ho2, hb2⟩; have hi2 := hi1.below hb2; have hd2 := hd1.trans (DR.of_below (S := dTy) hb2 hi1.le)) | (go_at_call 19; (with_reducible refine (i_write hi2 (by omega) HG.out (q : Int) v2 (recP k) (wf_i64 (by omega) (by omega)) (BytesAt.of_own ho2)).mono ?_); rintro e w3 ⟨rfl, hi3, hd3⟩; rw [← HKK.out, ← HMM.out, ← HBW.out] at hi3))
  refine (i_flushNo hi3 HG4.out).mono ?_
  rintro e w' ⟨rfl, h1, h2⟩
  exact ⟨rfl, rfl, h1, (hd2.trans hd3).trans h2⟩
set_option maxHeartbeats 4000000 in
set_option maxRecDepth 100000 in
theorem c_bumpOk (h : In W base b D n) (hn : n ≤ 800000) (a : Nat) (ha : a ≤ 1000) (hg : D.goes = false) (hg2 : (D.read a).goes = false) (hm : lastN D a < 4294967295) (hg3 : (look D a).goes = false) (hg4 : (bumpW D a).goes = false) :
    Calls Try.prog 51 #[.pointer (some ⟨b, 0, none⟩), .int .i64 (a : Int)] W fun e w' => e = .returned (.tuple #[.int .u32 ((lastN D a + 1 : Nat) : Int), .int .i64 0]) ∧ In w' base b (bumpW D a).flush (n + 4) ∧ DR dTy base W w' := by
  have HL := Lib.hid (c_last h hn a ha hg hg2)
  have HG := Lib.hid hg3
  have HG4 := Lib.hid hg4
  clear hg hg2 hg3 hg4
  obtain ⟨r, hr⟩ : ∃ r : Nat, (lastN D a + 1) % 2 = r := ⟨_, rfl⟩
  have hr2 : r < 2 := by omega
  obtain ⟨q, hq⟩ : ∃ q : Nat, (a : Int) + 1 - (r : Int) = (q : Int) := ⟨a + 1 - r, by omega⟩
  have hba : bumpAt D a = (q : Int) := by unfold bumpAt; rw [hr]; exact hq
  have hbw : bumpW D a = (look D a).write (q : Int) (recP (lastN D a + 1)) := by unfold bumpW; rw [hba]
  have HBW := Lib.hid hbw
  clear hba hbw
  obtain ⟨m, hmm⟩ : ∃ m : Nat, lastN D a = m := ⟨_, rfl⟩
  rw [hmm] at hm hr
  have hm3 : ¬ (m : Int) = 4294967295 := by omega
  obtain ⟨k, hk⟩ : ∃ k : Nat, m + 1 = k := ⟨_, rfl⟩
  have hki : (m : Int) + 1 = (k : Int) := by omega
  have hk1 : k < 4294967296 := by omega
  have hk2 : (k : Int) < 4294967296 := by omega
  have hr3 : (k : Int) % 2 = (r : Int) := by omega
  have hr4 : (k : Int).tmod 2 = (r : Int) := by rw [Int.tmod_eq_emod_of_nonneg (by omega)]; exact hr3
  have HK1 := Lib.hid hk1
  have HMM := Lib.hid hmm
  have HKK := Lib.hid hk
  clear hr hk hk1 hm hmm
  have HC := Lib.hid (fun w => c_record k HK1.out w)
  have hb1 : ((m : Int) == 4294967295) = false := beq_eq_false_iff_ne.2 hm3
  have hb2 : decide ((m : Int) = 4294967295) = false := decide_eq_false hm3
  clear hm3
  have hw5 : IntKind.i64.wrap ((a : Int) + 1) = (a : Int) + 1 := IntWalk.i64_in _ (by omega)
  have hw6 : IntKind.i64.wrap ((a : Int) + 1 - (r : Int)) = (q : Int) := by rw [hq]; exact IntWalk.i64_in _ (by omega)
  have hw7 : IntKind.i64.wrap (r : Int) = (r : Int) := IntWalk.i64_in _ (by omega)
  have hq1 : q ≤ 1001 := by omega
  clear hq
  go_enter Try.func51, Try.ntmps51
  go_upto_region 2 with (go_at_call 53; (with_reducible refine HL.out.mono ?_); rintro e w1 ⟨rfl, hi1, hd1⟩; rw [HMM.out])
  clear HL
  go_upto_region 5 with fail
  clear hb1 hb2 hki
  go_wp2_with (first | (go_at_call 59; (with_reducible refine (HC.out _).mono ?_); rintro e w2 ⟨v2, rfl, ho2, hb2⟩; have hi2 := hi1.below hb2; have hd2 := hd1.trans (DR.of_below (S := dTy) hb2 hi1.le)) | (go_at_call 19; (with_reducible refine (i_write hi2 (by omega) HG.out (q : Int) v2 (recP k) (wf_i64 (by omega) (by omega)) (BytesAt.of_own ho2)).mono ?_); rintro e w3 ⟨rfl, hi3, hd3⟩; rw [← HKK.out, ← HMM.out, ← HBW.out] at hi3) | (go_at_call 21; (with_reducible refine (i_flush hi3 (by omega) HG4.out).mono ?_); rintro e w4 ⟨rfl, hi4, hd4⟩))
  go_ret2
  exact ⟨by rw [HMM.out, HKK.out]; rfl, hi4, (hd2.trans hd3).trans hd4⟩
end Go.Proofs.Ytlbpmboknmbcgaa
