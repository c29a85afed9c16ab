/- The walks of package flot, of the document's own answers for it, and of those functions of package math that they call. -/
import Derived.Test.YtldeohbfhigagaaLe
import Derived.Test.YtldeohbfhigagaaFltP
set_option linter.unusedVariables false
set_option linter.unusedSimpArgs false
namespace Go.Proofs.Ytldeohbfhigagaa
open Go.RowKit Flo

theorem ret_bool {a b : Bool} (h : a = b) : Ending.returned (.bool a) = .returned (.bool b) := by rw [h]
theorem ret_float {a b : Nat} (h : a = b) : Ending.returned (.float .f64 a) = .returned (.float .f64 b) := by rw [h]
theorem r_frombits (n : Nat) (w : World) : (callFunc 26 #[.int .u64 (n : Int)]).run Try.prog w = .ok (.value (.float .f64 n)) w := by kernel_rfl
theorem fb_nan (w : World) : (callFunc 26 #[.int .u64 9221120237041090560]).run Try.prog w = .ok (.value (.float .f64 nanB)) w := by kernel_rfl
theorem fb_nan1 (w : World) : (callFunc 26 #[.int .u64 9221120237041090561]).run Try.prog w = .ok (.value (.float .f64 9221120237041090561)) w := by kernel_rfl
theorem fb_inf (w : World) : (callFunc 26 #[.int .u64 9218868437227405312]).run Try.prog w = .ok (.value (.float .f64 9218868437227405312)) w := by kernel_rfl
theorem fb_minf (w : World) : (callFunc 26 #[.int .u64 18442240474082181120]).run Try.prog w = .ok (.value (.float .f64 18442240474082181120)) w := by kernel_rfl
theorem fb_mzero (w : World) : (callFunc 26 #[.int .u64 9223372036854775808]).run Try.prog w = .ok (.value (.float .f64 9223372036854775808)) w := by kernel_rfl
theorem b_zero (w : World) : (callFunc 28 #[.float .f64 0]).run Try.prog w = .ok (.value (.int .u64 0)) w := by kernel_rfl
theorem b_mone (w : World) : (callFunc 28 #[.float .f64 13830554455654793216]).run Try.prog w = .ok (.value (.int .u64 13830554455654793216)) w := by kernel_rfl
theorem r_bits (n : Nat) (w : World) : (callFunc 28 #[.float .f64 n]).run Try.prog w = .ok (.value (.int .u64 (n : Int))) w := by kernel_rfl
theorem fmt64 : FloatKind.f64.format = Ieee.double := rfl

set_option maxHeartbeats 400000 in
theorem c_isnan (b : Nat) (w : World) :
    Calls Try.prog 48 #[.float .f64 b] w fun e w' => e = .returned (.bool (isNaN b)) ∧ w = w' := by
  go_enter Try.func48, Try.ntmps48
  go_wp2
  go_ret
  exact ⟨ret_bool (ne_self b), rfl⟩
set_option maxHeartbeats 400000 in
theorem c_one (b : Nat) (w : World) :
    Calls Try.prog 45 #[.float .f64 b] w fun e w' => e = .returned (.float .f64 (oneB b)) ∧ w = w' := by
  have hf := fb_nan
  cases hN : isNaN b
  · go_enter Try.func45, Try.ntmps45
    go_wp2_with (go_at_call 48; refine (c_isnan _ _).mono ?_; rintro e w' ⟨rfl, rfl⟩)
    go_ret
    exact ⟨ret_float (oneB_num hN).symm, rfl⟩
  · go_enter Try.func45, Try.ntmps45
    go_wp2_with (go_at_call 48; refine (c_isnan _ _).mono ?_; rintro e w' ⟨rfl, rfl⟩)
    go_ret
    exact ⟨ret_float (oneB_nan hN).symm, rfl⟩
set_option maxHeartbeats 400000 in
theorem c_rOne (b : Nat) (w : World) :
    Calls Try.prog 20 #[.float .f64 b] w fun e w' => e = .returned (.float .f64 (oneB b)) ∧ w = w' := by
  have hf := fb_nan
  have hs := ne_self b
  rw [← fmt64] at hs
  cases hN : isNaN b
  · rw [hN] at hs
    go_enter Try.func20, Try.ntmps20
    go_wp2
    go_ret
    exact ⟨ret_float (oneB_num hN).symm, rfl⟩
  · rw [hN] at hs
    go_enter Try.func20, Try.ntmps20
    go_wp2
    go_ret
    exact ⟨ret_float (oneB_nan hN).symm, rfl⟩
theorem neg_sgn {b : Nat} (h : b < 18446744073709551616) : decide (wrap64 (b : Int) < 0) = sgn b := by
  rw [← sgn_ge h]
  unfold wrap64
  rw [decide_eq_decide]; omega
set_option maxHeartbeats 400000 in
theorem c_signbit (b : Nat) (w : World) (h : b < 18446744073709551616) :
    Calls Try.prog 49 #[.float .f64 b] w fun e w' => e = .returned (.bool (sgn b)) ∧ w = w' := by
  have hf := r_bits b
  go_enter Try.func49, Try.ntmps49
  go_wp2
  go_ret
  exact ⟨ret_bool (neg_sgn h), rfl⟩
set_option maxHeartbeats 400000 in
theorem c_nan (w : World) :
    Calls Try.prog 15 #[] w fun e w' => e = .returned (.float .f64 9221120237041090561) ∧ w = w' := by
  have hf := fb_nan1
  go_enter Try.func15, Try.ntmps15
  go_wp2
  go_ret
  exact ⟨rfl, rfl⟩
set_option maxHeartbeats 400000 in
theorem c_inf (n : Int) (w : World) :
    Calls Try.prog 16 #[.int .i64 n] w fun e w' => e = .returned (.float .f64 (if 0 ≤ n then 9218868437227405312 else 18442240474082181120)) ∧ w = w' := by
  have hf := fb_inf
  have hg := fb_minf
  by_cases h : 0 ≤ n
  · go_enter Try.func16, Try.ntmps16
    go_wp2
    go_ret
    exact ⟨rfl, rfl⟩
  · go_enter Try.func16, Try.ntmps16
    go_wp2
    go_ret
    exact ⟨rfl, rfl⟩
set_option maxHeartbeats 400000 in
/-- Copysign(0, -1) -/
theorem c_minus (w : World) :
    Calls Try.prog 17 #[.float .f64 0, .float .f64 13830554455654793216] w fun e w' => e = .returned (.float .f64 9223372036854775808) ∧ w = w' := by
  have hf := fb_mzero
  have hg := b_zero
  have hh := b_mone
  have k1 : bits BinOp.andNot IntKind.u64 0 9223372036854775808 = 0 := by decide +kernel
  have k2 : bits BinOp.and IntKind.u64 13830554455654793216 9223372036854775808 = 9223372036854775808 := by decide +kernel
  have k3 : bits BinOp.or IntKind.u64 0 9223372036854775808 = 9223372036854775808 := by decide +kernel
  go_enter Try.func17, Try.ntmps17
  go_wp2
  go_ret
  exact ⟨rfl, rfl⟩
set_option maxHeartbeats 400000 in
theorem c_alike (x y : Nat) (w : World) :
    Calls Try.prog 18 #[.float .f64 x, .float .f64 y] w fun e w' => e = .returned (.bool (decide (x = y))) ∧ w = w' := by
  have hf := r_bits x
  have hg := r_bits y
  go_enter Try.func18, Try.ntmps18
  go_wp2
  go_ret
  exact ⟨ret_bool (by rw [Bool.eq_iff_iff, beq_iff_eq, decide_eq_true_iff]; omega), rfl⟩
set_option maxHeartbeats 400000 in
theorem c_bytes (b : Nat) (w : World) :
    Calls Try.prog 22 #[.float .f64 b] w fun e w' => ∃ v, e = .returned v ∧ OwnB w' w.heap.size 5 v (leP (oneB b) 8) ∧ Below w.heap.size w w' := by
  have hg := r_bits (oneB b)
  go_enter Try.func22, Try.ntmps22
  go_wp2_with (first | (go_at_call 45; refine (c_one _ _).mono ?_; rintro e w' ⟨rfl, rfl⟩) | (go_at_call 47; refine (c_lePut (oneB b) 8 _ (by omega)).mono ?_; rintro e w' ⟨v, rfl, ho, hb⟩))
  go_ret
  exact ⟨v, rfl, ho, hb⟩
set_option maxHeartbeats 400000 in
theorem c_rBytes (b : Nat) (w : World) :
    Calls Try.prog 31 #[.float .f64 b] w fun e w' => ∃ v, e = .returned v ∧ OwnB w' w.heap.size 5 v (leP (oneB b) 8) ∧ Below w.heap.size w w' := by
  have hg := r_bits (oneB b)
  go_enter Try.func31, Try.ntmps31
  go_wp2_with (first | (go_at_call 20; refine (c_rOne _ _).mono ?_; rintro e w' ⟨rfl, rfl⟩) | (go_at_call 29; refine (c_rPut (oneB b) 8 _ (by omega)).mono ?_; rintro e w' ⟨v, rfl, ho, hb⟩))
  go_ret
  exact ⟨v, rfl, ho, hb⟩

set_option maxHeartbeats 400000 in
theorem c_of (A : Option Addr) (n c : Nat) (xs : List UInt8) (w : World) (hR : RdB w A n xs) (hm : n ≤ maxLen) :
    Calls Try.prog 21 #[.slice A n c] w fun e w' => e = .returned (.float .f64 (ofB xs)) ∧ w = w' := by
  have hl := RdB.len hR
  have hf := r_frombits (leN xs)
  by_cases h8 : n = 8
  · subst h8
    have e1 : ofB xs = oneB (leN xs) := by unfold ofB; rw [if_pos hl]
    have ht : xs.take 8 = xs := List.take_of_length_le (by omega)
    have G := c_leGet A 8 c xs w hR hm
    rw [ht] at G
    rw [e1]
    clear e1 ht hl
    go_enter Try.func21, Try.ntmps21
    go_wp2_with (first | (go_at_call 46; refine G.mono ?_; rintro e w' ⟨rfl, rfl⟩) | (go_at_call 45; refine (c_one _ _).mono ?_; rintro e w' ⟨rfl, rfl⟩))
    go_ret
    exact ⟨rfl, rfl⟩
  · have e1 : ofB xs = 0 := by unfold ofB; rw [if_neg (by omega)]
    rw [e1]
    clear e1 hl
    have hd : ((n : Int) != 8) = true := by simp; omega
    go_enter Try.func21, Try.ntmps21
    go_wp2
    go_ret
    exact ⟨rfl, rfl⟩
set_option maxHeartbeats 400000 in
theorem c_rOf (A : Option Addr) (n c : Nat) (xs : List UInt8) (w : World) (hR : RdB w A n xs) (hm : n ≤ maxLen) :
    Calls Try.prog 32 #[.slice A n c] w fun e w' => e = .returned (.float .f64 (ofB xs)) ∧ w = w' := by
  have hl := RdB.len hR
  have hf := r_frombits (leN xs)
  by_cases h8 : n = 8
  · subst h8
    have e1 : ofB xs = oneB (leN xs) := by unfold ofB; rw [if_pos hl]
    have ht : xs.take 8 = xs := List.take_of_length_le (by omega)
    have G := c_rGet A 8 c xs w hR hm
    rw [ht] at G
    rw [e1]
    clear e1 ht hl
    go_enter Try.func32, Try.ntmps32
    go_wp2_with (first | (go_at_call 27; refine G.mono ?_; rintro e w' ⟨rfl, rfl⟩) | (go_at_call 20; refine (c_rOne _ _).mono ?_; rintro e w' ⟨rfl, rfl⟩))
    go_ret
    exact ⟨rfl, rfl⟩
  · have e1 : ofB xs = 0 := by unfold ofB; rw [if_neg (by omega)]
    rw [e1]
    clear e1 hl
    have hd : ((n : Int) != 8) = true := by simp; omega
    go_enter Try.func32, Try.ntmps32
    go_wp2
    go_ret
    exact ⟨rfl, rfl⟩

theorem run_add_none {P : Program} (w : World) (t : TypeId) (x y : Nat) (h : Ieee.double.add x y = none) :
    ∃ r, (binOp .add t (.float .f64 x) (.float .f64 y)).run P w = .ok (.float .f64 r) w.drew ∧ isNaN r = true := by
  refine ⟨_, ?_, nan_pick (w.tape w.drawn (.nanBits .f64 x y))⟩
  have h' : FloatKind.f64.format.add x y = none := h
  simp only [binOp, Op.floatArith, h']
  rfl
theorem run_add_some {P : Program} (w : World) (t : TypeId) (x y r : Nat) (h : Ieee.double.add x y = some r) :
    (binOp .add t (.float .f64 x) (.float .f64 y)).run P w = .ok (.float .f64 r) w :=
  run_float_arith w .add t .f64 x y r h
set_option maxHeartbeats 400000 in
theorem c_add (x y : Nat) (w : World) :
    Calls Try.prog 19 #[.float .f64 x, .float .f64 y] w fun e w' => e = .returned (.float .f64 (addB x y)) ∧ ∃ k, w.drewN k = w' := by
  cases h : Ieee.double.add x y with
  | some r =>
    have hr := run_add_some (P := Try.prog) w 22 x y r h
    have e1 : addB x y = oneB r := by unfold addB; rw [h]
    clear h
    rw [e1]
    clear e1
    go_enter Try.func19, Try.ntmps19
    go_wp2_with (go_at_call 45; refine (c_one _ _).mono ?_; rintro e w' ⟨rfl, rfl⟩)
    go_ret
    exact ⟨rfl, 0, rfl⟩
  | none =>
    obtain ⟨r, hr, hn⟩ := run_add_none (P := Try.prog) w 22 x y h
    have e1 : addB x y = oneB r := by unfold addB; rw [h, oneB_nan hn]
    clear h hn
    rw [e1]
    clear e1
    go_enter Try.func19, Try.ntmps19
    go_wp2_with (go_at_call 45; refine (c_one _ _).mono ?_; rintro e w' ⟨rfl, rfl⟩)
    go_ret
    exact ⟨rfl, 1, rfl⟩
set_option maxHeartbeats 400000 in
theorem c_rAdd (x y : Nat) (w : World) :
    Calls Try.prog 33 #[.float .f64 x, .float .f64 y] w fun e w' => e = .returned (.float .f64 (addB x y)) ∧ ∃ k, w.drewN k = w' := by
  cases h : Ieee.double.add x y with
  | some r =>
    have hr := run_add_some (P := Try.prog) w 22 x y r h
    have e1 : addB x y = oneB r := by unfold addB; rw [h]
    clear h
    rw [e1]
    clear e1
    go_enter Try.func33, Try.ntmps33
    go_wp2_with (go_at_call 20; refine (c_rOne _ _).mono ?_; rintro e w' ⟨rfl, rfl⟩)
    go_ret
    exact ⟨rfl, 0, rfl⟩
  | none =>
    obtain ⟨r, hr, hn⟩ := run_add_none (P := Try.prog) w 22 x y h
    have e1 : addB x y = oneB r := by unfold addB; rw [h, oneB_nan hn]
    clear h hn
    rw [e1]
    clear e1
    go_enter Try.func33, Try.ntmps33
    go_wp2_with (go_at_call 20; refine (c_rOne _ _).mono ?_; rintro e w' ⟨rfl, rfl⟩)
    go_ret
    exact ⟨rfl, 1, rfl⟩

/-- a word of 64 bits -/
def W64 (x : Nat) : Prop := x < 18446744073709551616
theorem c_sign (b : Nat) (w : World) (h : W64 b) :
    Calls Try.prog 49 #[.float .f64 b] w fun e w' => e = .returned (.bool (sgn b)) ∧ w = w' := c_signbit b w h
set_option maxHeartbeats 800000 in
theorem c_less (x y : Nat) (w : World) (hx : W64 x) (hy : W64 y) :
    Calls Try.prog 24 #[.float .f64 x, .float .f64 y] w fun e w' => e = .returned (.bool (lessB x y)) ∧ w = w' := by
  cases nx : isNaN x
  · cases ny : isNaN y
    · have he := eq_key nx ny
      have hl := lt_key nx ny
      rw [← fmt64] at he hl
      by_cases hk : key x = key y
      · rw [less_eq nx ny hk]
        simp only [hk, decide_true] at he
        clear hl hk
        cases hs : sgn x
        · go_enter Try.func24, Try.ntmps24
          go_wp2_with (first | (go_at_call 48; refine (c_isnan _ _).mono ?_; rintro e w' ⟨rfl, rfl⟩) | (go_at_call 49; refine (c_sign _ _ (by assumption)).mono ?_; rintro e w' ⟨rfl, rfl⟩))
          go_ret
          exact ⟨rfl, rfl⟩
        · go_enter Try.func24, Try.ntmps24
          go_wp2_with (first | (go_at_call 48; refine (c_isnan _ _).mono ?_; rintro e w' ⟨rfl, rfl⟩) | (go_at_call 49; refine (c_sign _ _ (by assumption)).mono ?_; rintro e w' ⟨rfl, rfl⟩))
          go_ret
          exact ⟨rfl, rfl⟩
      · rw [less_ne nx ny hk]
        simp only [hk, decide_false] at he
        clear hk
        go_enter Try.func24, Try.ntmps24
        go_wp2_with (first | (go_at_call 48; refine (c_isnan _ _).mono ?_; rintro e w' ⟨rfl, rfl⟩))
        go_ret
        exact ⟨rfl, rfl⟩
    · rw [less_nan_r nx ny]
      go_enter Try.func24, Try.ntmps24
      go_wp2_with (first | (go_at_call 48; refine (c_isnan _ _).mono ?_; rintro e w' ⟨rfl, rfl⟩))
      go_ret
      exact ⟨rfl, rfl⟩
  · rw [less_nan_l nx]
    go_enter Try.func24, Try.ntmps24
    go_wp2_with (first | (go_at_call 48; refine (c_isnan _ _).mono ?_; rintro e w' ⟨rfl, rfl⟩))
    go_ret
    exact ⟨rfl, rfl⟩

set_option maxHeartbeats 800000 in
theorem c_rLess (x y : Nat) (w : World) (hx : W64 x) (hy : W64 y) :
    Calls Try.prog 34 #[.float .f64 x, .float .f64 y] w fun e w' => e = .returned (.bool (lessB x y)) ∧ w = w' := by
  have hnx := ne_self x
  have hny := ne_self y
  rw [← fmt64] at hnx hny
  cases nx : isNaN x
  · rw [nx] at hnx
    cases ny : isNaN y
    · rw [ny] at hny
      have hl := lt_key nx ny
      have hzx := eq_key nx (show isNaN 0 = false by decide)
      have hzy := eq_key ny (show isNaN 0 = false by decide)
      rw [show key 0 = 0 by decide, ← fmt64] at hzx hzy
      rw [← fmt64] at hl
      by_cases hz : key x = 0
      · simp only [hz, decide_true] at hzx
        by_cases hy0 : key y = 0
        · simp only [hy0, decide_true] at hzy
          rw [less_eq nx ny (hz.trans hy0.symm)]
          clear hl hz hy0 nx ny
          cases hs : sgn x
          · go_enter Try.func34, Try.ntmps34
            go_wp2_with (go_at_call 49; refine (c_sign _ _ (by assumption)).mono ?_; rintro e w' ⟨rfl, rfl⟩)
            go_ret
            exact ⟨rfl, rfl⟩
          · go_enter Try.func34, Try.ntmps34
            go_wp2_with (go_at_call 49; refine (c_sign _ _ (by assumption)).mono ?_; rintro e w' ⟨rfl, rfl⟩)
            go_ret
            exact ⟨rfl, rfl⟩
        · simp only [hy0, decide_false] at hzy
          rw [less_ne nx ny (by omega)]
          clear hz hy0 nx ny
          go_enter Try.func34, Try.ntmps34
          go_wp2
          go_ret
          exact ⟨ret_bool (by first | rfl | exact hl), rfl⟩
      · simp only [hz, decide_false] at hzx
        have hne : lessB x y = decide (key x < key y) := by
          by_cases e : key x = key y
          · rw [less_eq nx ny e]
            have : sgn x = sgn y := by
              unfold key at e hz
              cases a : sgn x <;> cases b : sgn y <;> simp [a, b] at e hz ⊢ <;> omega
            rw [this, e]; simp
          · exact less_ne nx ny e
        rw [hne]
        clear hz nx ny hne
        go_enter Try.func34, Try.ntmps34
        go_wp2
        go_ret
        exact ⟨ret_bool (by first | rfl | exact hl), rfl⟩
    · rw [ny] at hny
      rw [less_nan_r nx ny]
      clear nx ny
      go_enter Try.func34, Try.ntmps34
      go_wp2
      go_ret
      exact ⟨rfl, rfl⟩
  · rw [nx] at hnx
    rw [less_nan_l nx]
    clear nx
    go_enter Try.func34, Try.ntmps34
    go_wp2
    go_ret
    exact ⟨rfl, rfl⟩

theorem lt_parts (n k f : Nat) : (FloatKind.f64.format.order (RR 1074 (val (rI k) * val f)) (floatOfInt .f64 (n : Int)) == some .lt) = !enB n f k := by
  rw [ofInt_eq, fmt64, lt_key (nan_small _ (RR_le _ _)) (nan_small _ (rI_le n)), key_small _ (RR_le _ _), key_small _ (rI_le n)]
  unfold enB
  rw [← decide_not, decide_eq_decide]
  omega
/-- k parts f, against n: the product, and what the tests say of it -/
theorem run_parts {P : Program} (t : TypeId) (n k f : Nat) (hk : k ≤ big) (hf : f ≤ 4607182418800017408) :
    ∃ r : Nat, (∀ w, (binOp .mul t (.float .f64 (floatOfInt .f64 (k : Int))) (.float .f64 f)).run P w = .ok (.float .f64 r) w) ∧
      (FloatKind.f64.format.order r (floatOfInt .f64 (n : Int)) == some .gt || FloatKind.f64.format.order r (floatOfInt .f64 (n : Int)) == some .eq) = enB n f k ∧
      (FloatKind.f64.format.order r (floatOfInt .f64 (n : Int)) == some .lt) = !enB n f k := by
  refine ⟨RR 1074 (val (rI k) * val f), fun w => run_float_arith w .mul t .f64 _ f _ ?_, ?_, lt_parts n k f⟩
  · show Ieee.double.mul _ _ = _
    rw [ofInt_eq]
    exact mul_pos _ _ (rI_fin hk) (by unfold infR; omega)
  · rw [ofInt_eq, fmt64]
    exact ge_small (RR_le _ _) (rI_le n)
set_option maxHeartbeats 400000 in
theorem c_enough (k n f : Nat) (bf bn : Nat) (w : World) (hk : k ≤ big) (hf : f ≤ 4607182418800017408) (cf : w.cell? ⟨bf, 0, none⟩ = some (.float .f64 f)) (cn : w.cell? ⟨bn, 0, none⟩ = some (.int .i64 (n : Int))) :
    Calls Try.prog 50 #[.int .i64 (k : Int), .pointer (some ⟨bf, 0, none⟩), .pointer (some ⟨bn, 0, none⟩)] w fun e w' => e = .returned (.bool (enB n f k)) ∧ w = w' := by
  obtain ⟨r, hm, hg, _⟩ := run_parts (P := Try.prog) 22 n k f hk hf
  clear hk hf
  go_enter Try.func50, Try.ntmps50
  go_wp2
  go_ret
  exact ⟨rfl, rfl⟩
end Go.Proofs.Ytldeohbfhigagaa
