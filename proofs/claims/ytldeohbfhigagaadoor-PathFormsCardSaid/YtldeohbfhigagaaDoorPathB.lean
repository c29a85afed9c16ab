/- Contracts of path: Depth, Buckets, has, At, Meet. -/
import Derived.Test.YtldeohbfhigagaaDoorPathA
import Derived.Deep.Cut
import Derived.Lib.ItoaNum
set_option linter.unusedVariables false
set_option linter.unusedSimpArgs false
namespace Go.Proofs.YtldeohbfhigagaaDoor
open Go.RowKit

def tzI (k : Nat) : Nat := (2 ^ k * 285870213051353865 % 18446744073709551616) / 288230376151711744
theorem tz_key : ∀ k, k < 17 → IntKind.u64.wrap (bits BinOp.and IntKind.u64 ((2 ^ k : Nat) : Int) (IntKind.u64.wrap (-((2 ^ k : Nat) : Int))) * 285870213051353865) / 288230376151711744 = (tzI k : Int) ∧ tzI k < 64 ∧ (((2 ^ k : Nat) : Int) == 0) = false := by decide +kernel
/-- the library's table, where powers of two look -/
structure TabW (w : World) : Prop where
  cell : ∀ k, k < 17 → w.cell? ⟨1, tzI k, none⟩ = some (.int .u8 (k : Int))
  lt : 1 < w.heap.size
theorem TabW.below {w w' : World} {B : Nat} (h : TabW w) (hb : Below B w w') (hB : w.heap.size ≤ B) : TabW w' :=
  ⟨fun k hk => (hb.cell (p := ⟨1, tzI k, none⟩) (by have := h.lt; show 1 < B; omega)).trans (h.cell k hk), by have := h.lt; have := hb.size; omega⟩
theorem TabW.alloc {w : World} (h : TabW w) (o : Obj) : TabW (w.alloc o) := h.below (below_alloc (Below.refl _ _) _) (Nat.le_refl _)
theorem tz64_core (x : Int) (k idx : Nat) (w : World) (hx0 : (x == 0) = false)
    (key : IntKind.u64.wrap (bits BinOp.and IntKind.u64 x (IntKind.u64.wrap (-x)) * 285870213051353865) / 288230376151711744 = (idx : Int))
    (hi : idx < 64) (hk : k < 64) (hcell : w.cell? ⟨1, idx, none⟩ = some (.int .u8 k)) :
    Calls Tryd.prog 31 #[.int .u64 x] w fun e w' => e = .returned (.int .i64 (k : Int)) ∧ w = w' := by
  go_enter Tryd.func31, Tryd.ntmps31
  go_wp2_with (simp only [key])
  go_ret
  exact ⟨rfl, rfl⟩
theorem c_tz (k : Nat) (hk : k < 17) (w : World) (hT : TabW w) : Calls Tryd.prog 26 #[.int .u64 ((2 ^ k : Nat) : Int)] w fun e w' => e = .returned (.int .i64 (k : Int)) ∧ w = w' := by
  obtain ⟨key, hi, hz⟩ := tz_key k hk
  have hc := tz64_core _ k _ w hz key hi (by omega) (hT.cell k hk)
  have hp := pow17 hk
  obtain ⟨x, hx⟩ : ∃ x : Int, ((2 ^ k : Nat) : Int) = x := ⟨_, rfl⟩
  rw [hx] at hc ⊢
  have hx1 : 0 ≤ x ∧ x ≤ 65536 := by omega
  obtain ⟨hx0, hx1⟩ := hx1
  clear key hi hz hx hp
  go_enter Tryd.func26, Tryd.ntmps26
  go_wp2_with (go_at_call 31; refine hc.mono ?_; rintro e w' ⟨rfl, rfl⟩)
  go_ret
  exact ⟨rfl, rfl⟩
theorem c_dep (n : Int) (w : World) (h : I64 n) (hT : TabW w) : Calls Tryd.prog 10 #[.int .i64 n] w fun e w' => e = .returned (.int .i64 (dpF n)) ∧ w = w' := by
  have hl := c_lv n w h
  unfold lvB at hl
  unfold dpF
  cases hd : dpN n with
  | none =>
    rw [hd] at hl
    clear hd
    go_enter Tryd.func10, Tryd.ntmps10
    go_wp2_with (go_at_call 25; refine hl.mono ?_; rintro e w' ⟨rfl, rfl⟩)
    go_ret
    exact ⟨rfl, rfl⟩
  | some k =>
    rw [hd] at hl
    obtain ⟨hk, rfl⟩ := dpN_some hd
    clear hd
    have ht := c_tz k hk w hT
    have hp := pow17 hk
    obtain ⟨x, hx⟩ : ∃ x : Int, ((2 ^ k : Nat) : Int) = x := ⟨_, rfl⟩
    rw [hx] at hl ht ⊢
    have hx1 : 0 ≤ x ∧ x ≤ 65536 := by omega
    obtain ⟨hx0, hx1⟩ := hx1
    clear hx h hT
    go_enter Tryd.func10, Tryd.ntmps10
    go_wp2_with (first | (go_at_call 25; refine hl.mono ?_; rintro e w' ⟨rfl, rfl⟩) | (go_at_call 26; refine ht.mono ?_; rintro e w' ⟨rfl, rfl⟩))
    go_ret
    exact ⟨rfl, rfl⟩
theorem c_buc (n : Int) (w : World) (h : I64 n) : Calls Tryd.prog 15 #[.int .i64 n] w fun e w' => e = .returned (.int .i64 (buF n)) ∧ w = w' := by
  have hl := c_lv n w h
  unfold lvB at hl
  unfold buF
  cases hd : dpN n with
  | none =>
    rw [hd] at hl
    clear hd
    go_enter Tryd.func15, Tryd.ntmps15
    go_wp2_with (go_at_call 25; refine hl.mono ?_; rintro e w' ⟨rfl, rfl⟩)
    go_ret
    exact ⟨rfl, rfl⟩
  | some k =>
    rw [hd] at hl
    obtain ⟨hk, hx⟩ := dpN_some hd
    clear hd
    have hp := pow17 hk
    have hx1 : 0 ≤ n ∧ n ≤ 65536 := by omega
    obtain ⟨hx0, hx1⟩ := hx1
    clear hx h
    go_enter Tryd.func15, Tryd.ntmps15
    go_wp2_with (go_at_call 25; refine hl.mono ?_; rintro e w' ⟨rfl, rfl⟩)
    go_ret
    exact ⟨rfl, rfl⟩
def hasB (n leaf : Int) : Bool := lvB n && (decide (0 ≤ leaf) && decide (leaf < n))
theorem c_has (n leaf : Int) (w : World) (r : Bool) (h : I64 n) (hr : hasB n leaf = r) : Calls Tryd.prog 23 #[.int .i64 n, .int .i64 leaf] w fun e w' => e = .returned (.bool r) ∧ w = w' := by
  have hl := c_lv n w h
  unfold hasB at hr
  cases hb : lvB n with
  | false =>
    rw [hb] at hl hr
    obtain rfl : false = r := hr
    go_enter Tryd.func23, Tryd.ntmps23
    go_wp2_with (go_at_call 25; refine hl.mono ?_; rintro e w' ⟨rfl, rfl⟩)
    go_ret
    exact ⟨rfl, rfl⟩
  | true =>
    rw [hb] at hl hr
    clear hb
    by_cases q1 : 0 ≤ leaf
    · by_cases q2 : leaf < n
      · obtain rfl : true = r := by rw [← hr]; simp [q1, q2]
        clear hr
        go_enter Tryd.func23, Tryd.ntmps23
        go_wp2_with (go_at_call 25; refine hl.mono ?_; rintro e w' ⟨rfl, rfl⟩)
        go_ret
        exact ⟨rfl, rfl⟩
      · obtain rfl : false = r := by rw [← hr]; simp [q1, q2]
        clear hr
        have q3 : decide (leaf < n) = false := by simp; omega
        go_enter Tryd.func23, Tryd.ntmps23
        go_wp2_with (go_at_call 25; refine hl.mono ?_; rintro e w' ⟨rfl, rfl⟩)
        go_ret
        exact ⟨rfl, rfl⟩
    · obtain rfl : false = r := by rw [← hr]; simp [q1]
      clear hr
      have q2 : decide (0 ≤ leaf) = false := by simp [q1]
      have q3 : leaf < 0 := by omega
      go_enter Tryd.func23, Tryd.ntmps23
      go_wp2_with (go_at_call 25; refine hl.mono ?_; rintro e w' ⟨rfl, rfl⟩)
      go_ret
      exact ⟨rfl, rfl⟩
theorem atF_no {n leaf level : Int} (h : (atF n leaf level).2 = false) : atF n leaf level = (0, false) := by
  unfold atF at h ⊢
  cases hd : dpN n with
  | none => rfl
  | some k =>
    rw [hd] at h
    simp only at h ⊢
    split
    · rename_i q
      rw [if_pos q] at h
      cases h
    · rfl
theorem buk_w (k leaf level : Nat) (hk : k < 17) (hl : leaf < 2 ^ k) (hv : level ≤ k) :
    wrap64 (wrap64 (wrap64 (2 ^ level) - 1) + (leaf : Int) / 2 ^ (k - level)) = ((2 ^ level - 1 + leaf / 2 ^ (k - level) : Nat) : Int) := by
  have hp := pow17 hk
  have hpl := pow17 (show level < 17 by omega)
  have e1 : (2 : Int) ^ level = ((2 ^ level : Nat) : Int) := (Int.natCast_pow 2 level).symm
  have e2 : (2 : Int) ^ (k - level) = ((2 ^ (k - level) : Nat) : Int) := (Int.natCast_pow 2 _).symm
  have h1 := Nat.div_le_self leaf (2 ^ (k - level))
  have h2 : leaf < 65536 := by omega
  rw [e1, e2, ← Int.natCast_ediv]
  clear e1 e2
  generalize leaf / 2 ^ (k - level) = d at h1 ⊢
  generalize 2 ^ level = p at hpl ⊢
  clear hp hl hv hk
  simp only [wrap64]
  omega
theorem c_atYes (k leaf level : Nat) (w : World) (hT : TabW w) (hk : k < 17) (hl : leaf < 2 ^ k) (hv : level ≤ k) :
    Calls Tryd.prog 8 #[.int .i64 ((2 ^ k : Nat) : Int), .int .i64 (leaf : Int), .int .i64 (level : Int)] w fun e w' => e = .returned (.tuple #[.int .i64 (buk k leaf level), .bool true]) ∧ ∃ q, w.drewN q = w' := by
  have hp := pow17 hk
  have hpl := pow17 (show level < 17 by omega)
  have hd := c_dep ((2 ^ k : Nat) : Int) w ⟨by omega, by omega⟩ hT
  have hh := c_has ((2 ^ k : Nat) : Int) (leaf : Int) w true ⟨by omega, by omega⟩ (by unfold hasB lvB; rw [dpN_pow hk]; simp only [Option.isSome_some, Bool.true_and, Bool.and_eq_true, decide_eq_true_iff]; omega)
  unfold dpF at hd
  rw [dpN_pow hk] at hd
  simp only at hd
  unfold buk
  go_enter Tryd.func8, Tryd.ntmps8
  go_wp2_with (first | (go_at_call 10; refine hd.mono ?_; rintro e w' ⟨rfl, rfl⟩) | (go_at_call 23; refine hh.mono ?_; rintro e w' ⟨rfl, rfl⟩))
  go_quiet (fail)
  go_wp2
  go_ret2
  refine ⟨congrArg (fun v => Ending.returned (.tuple #[.int .i64 v, .bool true])) ?_, _, rfl⟩
  exact buk_w k leaf level hk hl hv
theorem c_atNo (n leaf level : Int) (w : World) (h : I64 n) (hT : TabW w) (hr : (atF n leaf level).2 = false) :
    Calls Tryd.prog 8 #[.int .i64 n, .int .i64 leaf, .int .i64 level] w fun e w' => e = .returned (.tuple #[.int .i64 0, .bool false]) ∧ ∃ q, w.drewN q = w' := by
  have hd := c_dep n w h hT
  cases hb : hasB n leaf with
  | false =>
    have hh := c_has n leaf w false h hb
    generalize dpF n = d at hd
    clear hb hr h
    go_enter Tryd.func8, Tryd.ntmps8
    go_wp2_with (first | (go_at_call 10; refine hd.mono ?_; rintro e w' ⟨rfl, rfl⟩) | (go_at_call 23; refine hh.mono ?_; rintro e w' ⟨rfl, rfl⟩))
    go_ret2
    exact ⟨rfl, 0, rfl⟩
  | true =>
    have hh := c_has n leaf w true h hb
    unfold hasB lvB at hb
    unfold atF at hr
    unfold dpF at hd
    cases hn : dpN n with
    | none => rw [hn] at hb; cases hb
    | some k =>
      rw [hn] at hr hb hd
      simp only [Option.isSome_some, Bool.true_and, Bool.and_eq_true, decide_eq_true_iff] at hb hd
      simp only at hr
      have hx : ¬ (0 ≤ level ∧ level ≤ k) := by
        intro hq
        rw [if_pos ⟨hb.1, hb.2, hq⟩] at hr
        cases hr
      obtain ⟨hk, -⟩ := dpN_some hn
      have hk0 : 0 ≤ (k : Int) ∧ (k : Int) < 17 := by omega
      obtain ⟨hk0, hk1⟩ := hk0
      clear hr hb hn h hk
      by_cases q1 : level < 0
      · clear hx
        go_enter Tryd.func8, Tryd.ntmps8
        go_wp2_with (first | (go_at_call 10; refine hd.mono ?_; rintro e w' ⟨rfl, rfl⟩) | (go_at_call 23; refine hh.mono ?_; rintro e w' ⟨rfl, rfl⟩))
        go_ret2
        exact ⟨rfl, 0, rfl⟩
      · have q2 : (k : Int) < level := by omega
        clear hx
        go_enter Tryd.func8, Tryd.ntmps8
        go_wp2_with (first | (go_at_call 10; refine hd.mono ?_; rintro e w' ⟨rfl, rfl⟩) | (go_at_call 23; refine hh.mono ?_; rintro e w' ⟨rfl, rfl⟩))
        go_ret2
        exact ⟨rfl, 0, rfl⟩
theorem atF_yes {n leaf level : Int} (h : (atF n leaf level).2 = true) : ∃ k lf lv : Nat, k < 17 ∧ lf < 2 ^ k ∧ lv ≤ k ∧ n = ((2 ^ k : Nat) : Int) ∧ leaf = (lf : Int) ∧ level = (lv : Int) ∧ atF n leaf level = (buk k lf lv, true) := by
  unfold atF at h ⊢
  cases hd : dpN n with
  | none => rw [hd] at h; cases h
  | some k =>
    rw [hd] at h
    obtain ⟨hk, hn⟩ := dpN_some hd
    simp only at h ⊢
    split
    · rename_i q
      exact ⟨k, leaf.toNat, level.toNat, hk, by omega, by omega, hn, by omega, by omega, rfl⟩
    · rename_i q
      rw [if_neg q] at h
      cases h
theorem c_at (n leaf level : Int) (w : World) (h : I64 n) (hT : TabW w) :
    Calls Tryd.prog 8 #[.int .i64 n, .int .i64 leaf, .int .i64 level] w fun e w' => e = .returned (.tuple #[.int .i64 (atF n leaf level).1, .bool (atF n leaf level).2]) ∧ ∃ q, w.drewN q = w' := by
  cases hb : (atF n leaf level).2 with
  | false =>
    rw [atF_no hb]
    exact c_atNo n leaf level w h hT hb
  | true =>
    obtain ⟨k, lf, lv, hk, hl, hv, rfl, rfl, rfl, e⟩ := atF_yes hb
    rw [e]
    exact c_atYes k lf lv w hT hk hl hv
end Go.Proofs.YtldeohbfhigagaaDoor
