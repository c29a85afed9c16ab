/- The walk of FlotFills. -/
import Derived.Test.YtldeohbfhigagaaLawParts
import Derived.Test.YtldeohbfhigagaaFills
set_option linter.unusedVariables false
set_option linter.unusedSimpArgs false
namespace Go.Proofs.Ytldeohbfhigagaa
open Go.RowKit Flo

/-- Part of a number and one of the thousand -/
theorem c_partT (n i : Nat) (w : World) (hn : n ≤ 65535) (hi : i < 1000) :
    Calls Try.prog 25 #[.int .i64 (n : Int), .float .f64 (tblF i)] w fun e w' => ∃ k : Int, e = .returned (.tuple #[.int .i64 k, .bool true]) ∧ PartIs n (tblF i) k true ∧ Below w.heap.size w w' :=
  (c_part n (tblF i) w (tbl_w hi) ⟨by omega, by omega⟩).mono fun e w' ⟨k, ok, he, hp, hb⟩ => by
    have := tbl_true hn hi hp
    subst this
    exact ⟨k, he, hp, hb⟩
theorem c_part1 (n : Nat) (w : World) (hn : n ≤ 65535) :
    Calls Try.prog 25 #[.int .i64 (n : Int), .float .f64 4607182418800017408] w fun e w' => e = .returned (.tuple #[.int .i64 (n : Int), .bool true]) ∧ Below w.heap.size w w' :=
  (c_part n 4607182418800017408 w (by unfold W64; decide) ⟨by omega, by omega⟩).mono fun e w' ⟨k, ok, he, hp, hb⟩ => by
    obtain ⟨rfl, rfl⟩ := part_one hn hp
    exact ⟨he, hb⟩
theorem c_partNo (n : Int) (f : Nat) (w : World) (hn : -9223372036854775808 ≤ n ∧ n ≤ 9223372036854775807) (hf : W64 f) (hb : partOk n f = false) :
    Calls Try.prog 25 #[.int .i64 n, .float .f64 f] w fun e w' => e = .returned (.tuple #[.int .i64 0, .bool false]) ∧ Below w.heap.size w w' :=
  (c_part n f w hf hn).mono fun e w' ⟨k, ok, he, hp, hb'⟩ => by
    obtain ⟨rfl, rfl⟩ := part_none hp hb
    exact ⟨he, hb'⟩
theorem c_partM1 (w : World) : Calls Try.prog 25 #[.int .i64 (-1), .float .f64 4607182418800017408] w fun e w' => e = .returned (.tuple #[.int .i64 0, .bool false]) ∧ Below w.heap.size w w' :=
  c_partNo _ _ w (by decide) (by unfold W64; decide) (by decide)
theorem c_partF (w : World) : Calls Try.prog 25 #[.int .i64 1000001, .float .f64 4607182418800017408] w fun e w' => e = .returned (.tuple #[.int .i64 0, .bool false]) ∧ Below w.heap.size w w' :=
  c_partNo _ _ w (by decide) (by unfold W64; decide) (by decide)
theorem c_partThin (w : World) : Calls Try.prog 25 #[.int .i64 1000000, .float .f64 103582791429521408] w fun e w' => e = .returned (.tuple #[.int .i64 0, .bool false]) ∧ Below w.heap.size w w' :=
  (c_part 1000000 103582791429521408 w (by unfold W64; decide) (by decide)).mono fun e w' ⟨k, ok, he, hp, hb'⟩ => by
    obtain ⟨rfl, rfl⟩ := part_far hp thin_no
    exact ⟨he, hb'⟩
/-- the Fills that are none -/
def noFills : List Nat := [9221120237041090561, 9218868437227405312, 18442240474082181120, 0, 9223372036854775808, 13826050856027422720, 4607182419250377371]
theorem noFills_no : ∀ z ∈ noFills, z < 18446744073709551616 ∧ ¬ (0 < z ∧ z ≤ 4607182418800017408) := by decide
def fv (zs : List Nat) : List Value := zs.map fun z => .float .f64 z

theorem fv_get {zs : List Nat} {k : Nat} {v : Value} (h : (fv zs)[k]? = some v) : ∃ z ∈ zs, v = .float .f64 z := by
  unfold fv at h
  rw [List.getElem?_map] at h
  cases hz : zs[k]? with
  | none => rw [hz] at h; cases h
  | some z => rw [hz] at h; cases h; exact ⟨z, List.mem_of_getElem? hz, rfl⟩
theorem ord_lt {i j : Nat} (h : i < j) (hj : j < 1000) : FloatKind.f64.format.order (tblF i) (tblF j) = some .lt := by
  rw [fmt64]; exact tbl_lt h hj
theorem ord_gt {i j : Nat} (h : j < i) (hi : i < 1000) : FloatKind.f64.format.order (tblF i) (tblF j) = some .gt := by
  rw [fmt64]; exact tbl_gt h hi
theorem ord_eq {i : Nat} (hi : i < 1000) : FloatKind.f64.format.order (tblF i) (tblF i) = some .eq := by
  rw [fmt64]; exact tbl_eq hi
theorem run_max_lt {P : Program} (t t' : TypeId) (x y : Nat) (w : World) (ho : FloatKind.f64.format.order x y = some .lt) :
    (Builtin.max_ #[t, t] t' #[.float .f64 x, .float .f64 y]).run P w = .ok (.float .f64 y) w := by
  simp [Builtin.max_, Builtin.max2, ho]
theorem run_max_eq {P : Program} (t t' : TypeId) (x : Nat) (w : World) (ho : FloatKind.f64.format.order x x = some .eq) :
    (Builtin.max_ #[t, t] t' #[.float .f64 x, .float .f64 x]).run P w = .ok (.float .f64 x) w := by
  simp [Builtin.max_, Builtin.max2, ho]
theorem run_max_gt {P : Program} (t t' : TypeId) (x y : Nat) (w : World) (ho : FloatKind.f64.format.order x y = some .gt) :
    (Builtin.max_ #[t, t] t' #[.float .f64 x, .float .f64 y]).run P w = .ok (.float .f64 x) w := by
  simp [Builtin.max_, Builtin.max2, ho]
theorem run_min_lt {P : Program} (t t' : TypeId) (x y : Nat) (w : World) (ho : FloatKind.f64.format.order x y = some .lt) :
    (Builtin.min_ #[t, t] t' #[.float .f64 x, .float .f64 y]).run P w = .ok (.float .f64 x) w := by
  simp [Builtin.min_, Builtin.min2, ho]
theorem run_min_eq {P : Program} (t t' : TypeId) (x : Nat) (w : World) (ho : FloatKind.f64.format.order x x = some .eq) :
    (Builtin.min_ #[t, t] t' #[.float .f64 x, .float .f64 x]).run P w = .ok (.float .f64 x) w := by
  simp [Builtin.min_, Builtin.min2, ho]
theorem run_min_gt {P : Program} (t t' : TypeId) (x y : Nat) (w : World) (ho : FloatKind.f64.format.order x y = some .gt) :
    (Builtin.min_ #[t, t] t' #[.float .f64 x, .float .f64 y]).run P w = .ok (.float .f64 y) w := by
  simp [Builtin.min_, Builtin.min2, ho]
theorem run_fmax {P : Program} (t t' : TypeId) (i j : Nat) (hi : i < 1000) (hj : j < 1000) (w : World) :
    (Builtin.max_ #[t, t] t' #[.float .f64 (tblF i), .float .f64 (tblF j)]).run P w = .ok (.float .f64 (tblF (max i j))) w := by
  by_cases h : i < j
  · rw [Nat.max_eq_right (Nat.le_of_lt h)]
    exact run_max_lt t t' _ _ w (ord_lt h hj)
  · by_cases h2 : j < i
    · rw [Nat.max_eq_left (Nat.le_of_lt h2)]
      exact run_max_gt t t' _ _ w (ord_gt h2 hi)
    · have e : i = j := by omega
      subst e
      rw [Nat.max_self]
      exact run_max_eq t t' _ w (ord_eq hi)
theorem run_fmin {P : Program} (t t' : TypeId) (i j : Nat) (hi : i < 1000) (hj : j < 1000) (w : World) :
    (Builtin.min_ #[t, t] t' #[.float .f64 (tblF i), .float .f64 (tblF j)]).run P w = .ok (.float .f64 (tblF (min i j))) w := by
  by_cases h : i < j
  · rw [Nat.min_eq_left (Nat.le_of_lt h)]
    exact run_min_lt t t' _ _ w (ord_lt h hj)
  · by_cases h2 : j < i
    · rw [Nat.min_eq_right (Nat.le_of_lt h2)]
      exact run_min_gt t t' _ _ w (ord_gt h2 hi)
    · have e : i = j := by omega
      subst e
      rw [Nat.min_self]
      exact run_min_eq t t' _ w (ord_eq hi)
theorem fills_le {nn mm i j : Nat} {ka kb : Int} (n1 : Int) (n2 : Int) (h : n1 ≤ n2) (hn : 0 ≤ n1 ∧ n1 ≤ 65535) (hi : i < 1000) (hj : j < 1000) (pa : PartIs n1 (tblF (max i j)) ka true) (pb : PartIs n2 (tblF (min i j)) kb true) : ka ≤ kb := by
  obtain ⟨m, rfl⟩ := Int.eq_ofNat_of_zero_le hn.1
  exact (pb.le pa (ok_tbl m (max i j) (by omega) (by omega)).1 h (tbl_mono (by omega) (by omega))).2

set_option maxHeartbeats 8000000 in
theorem w_fills0 (n m : Int) (f g : Nat) (w : World) (nn mm i j : Nat) (hn : bits BinOp.and IntKind.i64 n 65535 = (nn : Int)) (hm : bits BinOp.and IntKind.i64 m 65535 = (mm : Int)) (h1 : nn ≤ 65535) (h2 : mm ≤ 65535)
    (hi : i < 1000) (hj : j < 1000) (hf : f % 1000 = i) (hg : g % 1000 = j) (hc : nn < mm ∨ mm < nn ∨ mm = nn) :
    Calls Try.prog 5 #[.int .i64 n, .int .i64 m, .int .u64 (f : Int), .int .u64 (g : Int)] w fun e w' => e = .returned (.bool true) ∧ Below w.heap.size w w' := by
  have hd1 := run_tbl (P := Try.prog) 22 f
  have hd2 := run_tbl (P := Try.prog) 22 g
  rw [hf] at hd1
  rw [hg] at hd2
  have hmx := fun W => run_fmax (P := Try.prog) 22 22 i j hi hj W
  have hmn := fun W => run_fmin (P := Try.prog) 22 22 i j hi hj W
  have hi1 : max i j < 1000 := by omega
  have hj1 : min i j < 1000 := by omega
  have HI : Hid (i < 1000 ∧ j < 1000) := ⟨hi, hj⟩
  clear hf hg hi hj
  generalize hI : max i j = I at *
  generalize hJ : min i j = J at *
  have HIJ : Hid (max i j = I ∧ min i j = J) := ⟨hI, hJ⟩
  clear hI hJ
  have hbnd : -9223372036854775808 ≤ (nn : Int) ∧ (nn : Int) ≤ 9223372036854775807 := ⟨by omega, by omega⟩
  have HN : Hid (∀ z ∈ noFills, partOk (nn : Int) z = false) := fun z hz => by
    have hzz := noFills_no z hz
    unfold partOk; rw [decide_eq_false_iff_not]; intro h; exact hzz.2 h.2.2
  rcases hc with hlt | hlt | rfl
  all_goals
    go_enter Try.func5, Try.ntmps5
    go_wp2_with (go_at_call 25; fail)
    refine (c_partT _ _ _ (by assumption) hi1).mono ?_
    rintro e w1 ⟨ka, rfl, hpa, hb1⟩
    go_wp2_with (go_at_call 25; fail)
    refine (c_partT _ _ _ (by assumption) hj1).mono ?_
    rintro e w2 ⟨kb, rfl, hpb, hb2⟩
    go_wp2_with (go_at_call 25; fail)
    refine (c_part1 _ _ (by assumption)).mono ?_
    rintro e w3 ⟨rfl, hb3⟩
    have hle : ka ≤ kb := by
      rw [← HIJ.out.1] at hpa
      rw [← HIJ.out.2] at hpb
      exact fills_le (nn := 0) (mm := 0) _ _ (by omega) ⟨by omega, by omega⟩ HI.out.1 HI.out.2 hpa hpb
    have hB3 : Below w.heap.size w w3 := below3 hb1 hb2 hb3
    clear hpa hpb hb1 hb2 hb3 hmx hmn hd1 hd2
    go_wp2_with (first | (go_at_call 15; refine (c_nan _).mono ?_; rintro e w' ⟨rfl, rfl⟩) | (go_at_call 16; refine (c_inf _ _).mono ?_; rintro e w' ⟨rfl, rfl⟩) | (go_at_call 17; refine (c_minus _).mono ?_; rintro e w' ⟨rfl, rfl⟩))
    have hrd := rd_lit w3 (fv noFills) 22 (0, 0) 7 rfl
    have hB4 : Below w.heap.size w (w3.alloc (.cells (fv noFills).toArray 22)) := below_alloc hB3 _
    have HE : Hid (w3.alloc (.cells (fv noFills).toArray 22) = w3.alloc (.cells #[.float .f64 9221120237041090561, .float .f64 9218868437227405312, .float .f64 18442240474082181120, .float .f64 0, .float .f64 9223372036854775808, .float .f64 13826050856027422720, .float .f64 4607182419250377371] 22)) := rfl
    generalize w3.alloc (.cells (fv noFills).toArray 22) = w4 at hrd hB4 HE
    rw [← HE.out]
    go_loopw [72] (fun s72 wr => ∃ k : Nat, k ≤ 7 ∧ s72 = .int .i64 (k : Int) ∧ Below w4.heap.size w4 wr) (fun i _ => 7 - (intOf i).toNat)
    case atStart => exact ⟨0, by omega, rfl, Below.refl _ _⟩
    case round =>
      obtain ⟨k, hk, rfl, hB⟩ := hrel
      by_cases hlt7 : k < 7
      · obtain ⟨ad, v, e, hv, hcell⟩ := (hrd.below hB (Nat.le_refl _)).at_ hlt7
        cases e
        rw [ad_none, Nat.zero_add] at hcell
        obtain ⟨z, hz, rfl⟩ := fv_get hv
        have hw : W64 z := (noFills_no z hz).1
        have hno := HN.out z hz
        have hk0 : (0 : Int) ≤ (k : Int) := by omega
        have hk7 : (k : Int) < 7 := by omega
        clear hz hv
        go_wp2_with (go_at_call 25; refine (c_partNo _ _ _ hbnd hw hno).mono ?_; rintro e w5 ⟨rfl, hb5⟩)
        go_roundw
        case rel => exact ⟨k + 1, by omega, by go_num, below_two hB hb5⟩
        case measure => simp [intOf]; omega
      · go_wp2_with (first | (go_at_call 25; (first | (with_reducible refine (c_partM1 _).mono ?_) | (with_reducible refine (c_partF _).mono ?_) | (with_reducible refine (c_partThin _).mono ?_)); rintro e w5 ⟨rfl, hb5⟩) | (go_at_call 23; refine (c_awake5 _).mono ?_; rintro e w1 ⟨rfl, hb⟩))
        go_ret
        refine ⟨rfl, ?_⟩
        refine below_two (below_two hB4 hB) ?_
        (repeat (first | exact Below.refl _ _ | exact ⟨rfl, rfl, rfl, Nat.le_refl _, fun _ _ => rfl⟩ | refine below_alloc ?_ _ | refine below_drewN ?_ _ | refine below_drew ?_ | refine below_two ?_ (by assumption)))
theorem w_FlotFills (a0 a1 a2 a3 : Int) (w : World) (w0 : (Lit.int .i64 a0).wf = true) (w1 : (Lit.int .i64 a1).wf = true) (w2 : (Lit.int .u64 a2).wf = true) (w3 : (Lit.int .u64 a3).wf = true) :
    Calls Try.prog 5 #[.int .i64 a0, .int .i64 a1, .int .u64 a2, .int .u64 a3] w fun e w' => e = .returned (.bool true) ∧ Below w.heap.size w w' := by
  obtain ⟨f, rfl, hf⟩ := of_wf_u64 w2
  obtain ⟨g, rfl, hg⟩ := of_wf_u64 w3
  have e0 := m65535 a0
  have e1 := m65535 a1
  rw [show a0 % 65536 = ((a0 % 65536).toNat : Int) by omega] at e0
  rw [show a1 % 65536 = ((a1 % 65536).toNat : Int) by omega] at e1
  have h0 : (a0 % 65536).toNat ≤ 65535 := by omega
  have h1 : (a1 % 65536).toNat ≤ 65535 := by omega
  generalize (a0 % 65536).toNat = nn at *
  generalize (a1 % 65536).toNat = mm at *
  rcases Nat.lt_trichotomy nn mm with h | h | h
  · exact w_fills0 a0 a1 f g w nn mm _ _ e0 e1 h0 h1 (Nat.mod_lt _ (by decide)) (Nat.mod_lt _ (by decide)) rfl rfl (.inl h)
  · exact w_fills0 a0 a1 f g w nn mm _ _ e0 e1 h0 h1 (Nat.mod_lt _ (by decide)) (Nat.mod_lt _ (by decide)) rfl rfl (.inr (.inr h.symm))
  · exact w_fills0 a0 a1 f g w nn mm _ _ e0 e1 h0 h1 (Nat.mod_lt _ (by decide)) (Nat.mod_lt _ (by decide)) rfl rfl (.inr (.inl h))
end Go.Proofs.Ytldeohbfhigagaa
