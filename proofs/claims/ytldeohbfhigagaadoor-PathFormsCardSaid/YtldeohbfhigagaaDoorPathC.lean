/- Contracts of path.Meet, path.On. -/
import Derived.Test.YtldeohbfhigagaaDoorPathB
import Derived.Lib.Small
set_option linter.unusedVariables false
set_option linter.unusedSimpArgs false
namespace Go.Proofs.YtldeohbfhigagaaDoor
open Go.RowKit

theorem len8_at (i : Nat) (h : i < Lib.len8tab.size) : ((Lib.len8tab[i]).toNat : Int) = (Lib.bitLen i : Nat) := by
  rw [Lib.len8tab_size] at h
  have e := Lib.len8_of (i : Int) (by omega) (by omega)
  unfold Lib.len8 at e
  rw [show ((i : Int)).toNat = i by omega, getElem?_pos Lib.len8tab i (by rw [Lib.len8tab_size]; exact h)] at e
  exact e
set_option maxRecDepth 100000 in
theorem c_len64 (x : Int) (w : World) (h0 : 0 ≤ x) (h1 : x ≤ 65535) :
    Calls Tryd.prog 29 #[.int .u64 x] w fun e w' => e = .returned (.int .i64 (Lib.bitLen x.toNat)) ∧ w = w' := by
  by_cases q : x ≤ 255
  · have l := Lib.bitLen_le8' x (by omega) (by omega)
    go_enter Tryd.func29, Tryd.ntmps29
    go_wp2
    go_ret
    refine ⟨congrArg Ending.returned (congrArg (Value.int IntKind.i64) ?_), rfl⟩
    first | rw [len8_at] | rw [Lib.len8_of x (by omega) (by omega)]
    simp only [wrap64]
    omega
  · have l := Lib.bitLen_le8' (x / 256) (by omega) (by omega)
    have s := Lib.bitLen_shift8 x.toNat (by omega) (by omega)
    have q3 : 0 ≤ x / 256 := by omega
    have q4 : x / 256 < 256 := by omega
    go_enter Tryd.func29, Tryd.ntmps29
    go_wp2
    go_ret
    refine ⟨congrArg Ending.returned (congrArg (Value.int IntKind.i64) ?_), rfl⟩
    first | rw [len8_at] | rw [Lib.len8_of (x / 256) (by omega) (by omega)]
    rw [show (x / 256).toNat = x.toNat / 256 by omega] at *
    simp only [wrap64]
    omega
theorem c_len (x : Int) (w : World) (h0 : 0 ≤ x) (h1 : x ≤ 65535) :
    Calls Tryd.prog 24 #[.int .u64 x] w fun e w' => e = .returned (.int .i64 (Lib.bitLen x.toNat)) ∧ w = w' := by
  have hc := c_len64 x w h0 h1
  go_enter Tryd.func24, Tryd.ntmps24
  go_wp2_with (go_at_call 29; refine hc.mono ?_; rintro e w' ⟨rfl, rfl⟩)
  go_ret
  exact ⟨rfl, rfl⟩
theorem meF_no {n a b : Int} (h : hasB n a = false ∨ hasB n b = false) : meF n a b = -1 := by
  unfold meF
  unfold hasB lvB at h
  cases hd : dpN n with
  | none => rfl
  | some k =>
    rw [hd] at h
    simp only [Option.isSome_some, Bool.true_and, Bool.and_eq_false_iff, decide_eq_false_iff_not] at h ⊢
    rw [if_neg]
    omega
theorem bitLen_le (x : Nat) (h : x < 65536) : Lib.bitLen x ≤ 16 := by
  rcases Nat.lt_or_ge x 256 with c | c
  · have := Lib.bitLen_le8 ⟨x, c⟩; simp only at this; omega
  · have s := Lib.bitLen_shift8 x c (by omega)
    have := Lib.bitLen_le8 ⟨x / 256, by omega⟩; simp only at this; omega
theorem hasB_yes {n a : Int} (h : hasB n a = true) : ∃ k x : Nat, dpN n = some k ∧ k < 17 ∧ n = ((2 ^ k : Nat) : Int) ∧ a = (x : Int) ∧ x < 2 ^ k ∧ x < 65536 := by
  unfold hasB lvB at h
  cases hd : dpN n with
  | none => rw [hd] at h; cases h
  | some k =>
    rw [hd] at h
    simp only [Option.isSome_some, Bool.true_and, Bool.and_eq_true, decide_eq_true_iff] at h
    obtain ⟨hk, hn⟩ := dpN_some hd
    have := pow17 hk
    exact ⟨k, a.toNat, rfl, hk, hn, by omega, by omega, by omega⟩
theorem c_meet (n a b : Int) (w : World) (h : I64 n) (hT : TabW w) :
    Calls Tryd.prog 9 #[.int .i64 n, .int .i64 a, .int .i64 b] w fun e w' => e = .returned (.int .i64 (meF n a b)) ∧ w = w' := by
  have hd := c_dep n w h hT
  cases ha : hasB n a with
  | false =>
    have hh := c_has n a w false h ha
    rw [meF_no (.inl ha)]
    clear ha hd h
    go_enter Tryd.func9, Tryd.ntmps9
    go_wp2_with (go_at_call 23; refine hh.mono ?_; rintro e w' ⟨rfl, rfl⟩)
    go_ret
    exact ⟨rfl, rfl⟩
  | true =>
    have hh := c_has n a w true h ha
    cases hb : hasB n b with
    | false =>
      have hh2 := c_has n b w false h hb
      rw [meF_no (.inr hb)]
      clear ha hb hd h
      go_enter Tryd.func9, Tryd.ntmps9
      go_upto_region 1 with (fail)
      go_wp2_with fail
      refine hh.mono ?_
      rintro e w' ⟨rfl, rfl⟩
      go_wp2_with fail
      refine hh2.mono ?_
      rintro e w' ⟨rfl, rfl⟩
      go_wp2
      go_ret
      exact ⟨rfl, rfl⟩
    | true =>
      have hh2 := c_has n b w true h hb
      obtain ⟨k, x, e1, hk, hn, rfl, hx, hx6⟩ := hasB_yes ha
      obtain ⟨k', y, e2, hk', hn', rfl, hy, hy6⟩ := hasB_yes hb
      rw [e1] at e2
      cases e2
      have e3 : meF n (x : Int) (y : Int) = (k : Int) - (Lib.bitLen (x ^^^ y) : Nat) := by
        unfold meF
        rw [e1]
        simp only
        rw [if_pos (by omega)]
        simp
      rw [e3]
      unfold dpF at hd
      rw [e1] at hd
      simp only at hd
      obtain ⟨ex, hxy⟩ := xor_i64 x y hx6 hy6
      have hl := c_len ((x ^^^ y : Nat) : Int) w (by omega) (by omega)
      rw [show (((x ^^^ y : Nat) : Int)).toNat = x ^^^ y by omega] at hl
      have hbl := bitLen_le (x ^^^ y) hxy
      have HX := Lib.hid ex
      generalize x ^^^ y = z at *
      generalize Lib.bitLen z = bl at *
      have hz0 : 0 ≤ (z : Int) ∧ (z : Int) < 65536 := by omega
      obtain ⟨hz0, hz1⟩ := hz0
      clear ex e1 e3 ha hb hn hn' h hx hy
      go_enter Tryd.func9, Tryd.ntmps9
      go_wp2_with fail
      refine hh.mono ?_
      rintro e w' ⟨rfl, rfl⟩
      go_wp2_with fail
      refine hh2.mono ?_
      rintro e w' ⟨rfl, rfl⟩
      go_wp2_with fail
      refine hd.mono ?_
      rintro e w' ⟨rfl, rfl⟩
      go_wp2_with (simp only [HX.out])
      refine hl.mono ?_
      rintro e w' ⟨rfl, rfl⟩
      go_wp2
      go_ret
      exact ⟨rfl, rfl⟩
end Go.Proofs.YtldeohbfhigagaaDoor
