/- The walks of the law's own Number and awake. -/
import Derived.Test.YtldeohbfhigagaaFlt2
import Derived.Lib.SlBytesConst
set_option linter.unusedVariables false
set_option linter.unusedSimpArgs false
namespace Go.Proofs.Ytldeohbfhigagaa
open Go.RowKit Flo

/-- the law's number of bits; edges often -/
def numD (n d q : Nat) : Nat :=
  match d with
  | 0 => 9221120237041090561
  | 1 => 9218868437227405312
  | 2 => 18442240474082181120
  | 3 => 9223372036854775808
  | 4 => 0
  | 5 => floatOfInt .f64 ((q : Int) - 30000)
  | 6 => 9218868437227405311
  | _ => n
theorem numD_big (n d q : Nat) (h : 6 < d) : numD n d q = n := by
  unfold numD; split <;> first | omega | rfl
def numB (n : Nat) : Nat := numD n (n % 16) (n / 16 % 65536)
theorem numB_lt (n : Nat) (h : W64 n) : W64 (numB n) := by
  unfold numB numD W64 at *
  split
  · decide
  · decide
  · decide
  · decide
  · decide
  · exact ofInt_lt _
  · decide
  · exact h
theorem and15 (n : Nat) (h : W64 n) : bits BinOp.and IntKind.u64 (n : Int) 15 = ((n % 16 : Nat) : Int) := by
  rw [show (15 : Int) = ((15 : Nat) : Int) from rfl, u64_and_nat n 15 h (by decide), nat_mask4]
theorem shr4 (n : Nat) (h : W64 n) : bits BinOp.and IntKind.u64 ((n : Int) / 16) 65535 = ((n / 16 % 65536 : Nat) : Int) := by
  have e : (n : Int) / 16 = ((n / 16 : Nat) : Int) := by omega
  unfold W64 at h
  rw [e, show (65535 : Int) = ((65535 : Nat) : Int) from rfl, u64_and_nat (n / 16) 65535 (by omega) (by decide), nat_mask16]
theorem r_fbn (n : Nat) (w : World) : (callFunc 26 #[.int .u64 (n : Int)]).run Try.prog w = .ok (.value (.float .f64 n)) w := r_frombits n w

set_option maxHeartbeats 1600000 in
theorem c_number (n : Nat) (w : World) (hn : W64 n) :
    Calls Try.prog 30 #[.int .u64 (n : Int)] w fun e w' => e = .returned (.float .f64 (numB n)) ∧ w = w' := by
  have ha := and15 n hn
  have hs := shr4 n hn
  have hf := r_fbn n
  clear hn
  unfold numB
  have hq : n / 16 % 65536 ≤ 65535 := by omega
  generalize n / 16 % 65536 = q at *
  generalize hd : n % 16 = d at *
  clear hd
  by_cases h0 : d = 0
  · subst h0
    go_enter Try.func30, Try.ntmps30
    go_wp2_with (go_at_call 15; refine (c_nan _).mono ?_; rintro e w' ⟨rfl, rfl⟩)
    go_ret
    exact ⟨rfl, rfl⟩
  by_cases h1 : d = 1
  · subst h1
    clear h0
    go_enter Try.func30, Try.ntmps30
    go_wp2_with (go_at_call 16; refine (c_inf _ _).mono ?_; rintro e w' ⟨rfl, rfl⟩)
    go_ret
    exact ⟨rfl, rfl⟩
  by_cases h2 : d = 2
  · subst h2
    clear h0 h1
    go_enter Try.func30, Try.ntmps30
    go_wp2_with (go_at_call 16; refine (c_inf _ _).mono ?_; rintro e w' ⟨rfl, rfl⟩)
    go_ret
    exact ⟨rfl, rfl⟩
  by_cases h3 : d = 3
  · subst h3
    clear h0 h1 h2
    go_enter Try.func30, Try.ntmps30
    go_wp2_with (go_at_call 17; refine (c_minus _).mono ?_; rintro e w' ⟨rfl, rfl⟩)
    go_ret
    exact ⟨rfl, rfl⟩
  by_cases h4 : d = 4
  · subst h4
    clear h0 h1 h2 h3
    go_enter Try.func30, Try.ntmps30
    go_wp2
    go_ret
    exact ⟨rfl, rfl⟩
  by_cases h5 : d = 5
  · subst h5
    clear h0 h1 h2 h3 h4
    go_enter Try.func30, Try.ntmps30
    go_wp2
    go_ret
    exact ⟨rfl, rfl⟩
  by_cases h6 : d = 6
  · subst h6
    clear h0 h1 h2 h3 h4 h5
    go_enter Try.func30, Try.ntmps30
    go_wp2
    go_ret
    exact ⟨rfl, rfl⟩
  · have k0 : ((d : Int) == 0) = false := by simp; omega
    have k1 : ((d : Int) == 1) = false := by simp; omega
    have k2 : ((d : Int) == 2) = false := by simp; omega
    have k3 : ((d : Int) == 3) = false := by simp; omega
    have k4 : ((d : Int) == 4) = false := by simp; omega
    have k5 : ((d : Int) == 5) = false := by simp; omega
    have k6 : ((d : Int) == 6) = false := by simp; omega
    have hm := numD_big n d q (by omega)
    rw [hm]
    clear hm h0 h1 h2 h3 h4 h5 h6 hs
    go_enter Try.func30, Try.ntmps30
    go_wp2
    go_ret
    exact ⟨rfl, rfl⟩

theorem of_wf_u64 {a : Int} (h : (Lit.int .u64 a).wf = true) : ∃ n : Nat, a = (n : Int) ∧ W64 n := by
  simp [Lit.wf, IntKind.min, IntKind.max, IntKind.bits, IntKind.signed] at h
  exact ⟨a.toNat, by omega, by unfold W64; omega⟩
theorem of_wf_i64 {a : Int} (h : (Lit.int .i64 a).wf = true) : -9223372036854775808 ≤ a ∧ a ≤ 9223372036854775807 := by
  simp [Lit.wf, IntKind.min, IntKind.max, IntKind.bits, IntKind.signed] at h
  omega
/-! ### awake -/
def half : Nat := 4602678819172646912
def oneF : Nat := 4607182418800017408
theorem part6 : PartIs 3 half 6 true := by
  refine ⟨?_⟩
  unfold PartIs0
  have h : (partOk 3 half = true ∧ enB (Int.toNat 3) half big = true) := by decide +kernel
  rw [if_pos h]
  decide +kernel
theorem c_part6 (w : World) : Calls Try.prog 25 #[.int .i64 3, .float .f64 4602678819172646912] w fun e w' => e = .returned (.tuple #[.int .i64 6, .bool true]) ∧ Below w.heap.size w w' :=
  (c_part 3 half w (by unfold W64; decide) (by omega)).mono fun e w' ⟨k, ok, he, hp, hb⟩ => by
    obtain ⟨rfl, rfl⟩ := hp.same part6
    exact ⟨he, hb⟩
theorem c_partNaN (w : World) : Calls Try.prog 25 #[.int .i64 3, .float .f64 9221120237041090561] w fun e w' => e = .returned (.tuple #[.int .i64 0, .bool false]) ∧ Below w.heap.size w w' :=
  (c_part 3 9221120237041090561 w (by unfold W64; decide) (by omega)).mono fun e w' ⟨k, ok, he, hp, hb⟩ => by
    obtain ⟨rfl, rfl⟩ := hp.same (PartIs.no (by decide))
    exact ⟨he, hb⟩
theorem c_bytesOne (w : World) : Calls Try.prog 22 #[.float .f64 4607182418800017408] w fun e w' =>
    ∃ A c, e = .returned (.slice A 8 c) ∧ (convert 31 9 (.slice A 8 c)).run Try.prog w' = .ok (.string ⟨#[0, 0, 0, 0, 0, 0, 240, 63]⟩) w' ∧ Below w.heap.size w w' :=
  (c_bytes oneF w).mono fun e w' ⟨v, he, ho, hb⟩ => by
    obtain ⟨A, c, rfl, _, _, hr⟩ := ho.form
    refine ⟨A, c, he, ?_, hb⟩
    have := run_str (P := Try.prog) w' 31 5 Try.underlying31 Try.underlying5 A _ c _ hr 9 Try.underlying9
    exact this
theorem c_ofShort (fr : Nat × Nat) (c : Nat) (w : World) : Calls Try.prog 21 #[.slice (some ⟨w.heap.size, 0, none⟩) 5 c] (w.alloc (.cells #[.int .u8 115, .int .u8 104, .int .u8 111, .int .u8 114, .int .u8 116] 5 fr)) fun e w' =>
    e = .returned (.float .f64 0) ∧ (w.alloc (.cells #[.int .u8 115, .int .u8 104, .int .u8 111, .int .u8 114, .int .u8 116] 5 fr)) = w' :=
  (c_of _ 5 c _ _ (rd_lit w (bv [115, 104, 111, 114, 116]) 5 fr 5 rfl) (by decide)).mono fun e w' ⟨he, hw⟩ => ⟨he, hw⟩
theorem c_addL (x y r : Nat) (h : addB x y = r) (w : World) : Calls Try.prog 19 #[.float .f64 x, .float .f64 y] w fun e w' => e = .returned (.float .f64 r) ∧ ∃ k, w.drewN k = w' := h ▸ c_add x y w
theorem add_z1 : addB 0 9223372036854775808 = 0 := by decide +kernel
theorem add_z2 : addB 9223372036854775808 9223372036854775808 = 9223372036854775808 := by decide +kernel
theorem add_z3 : addB 9218868437227405312 18442240474082181120 = 9221120237041090560 := by decide +kernel
theorem one_z : oneB 9221120237041090561 = 9221120237041090560 := by decide +kernel
theorem less_z1 : lessB 9223372036854775808 0 = true := by decide +kernel
theorem less_z2 : lessB 4607182418800017408 9221120237041090561 = true := by decide +kernel

set_option maxHeartbeats 4000000 in
set_option maxRecDepth 100000 in
theorem c_awake5 (w : World) :
    Calls Try.prog 23 #[] w fun e w' => e = .returned (.bool true) ∧ Below w.heap.size w w' := by
  have hz : (FloatKind.f64.format.order 0 0 == some Ordering.eq) = true := by decide
  have hcv := fun (w : World) (C : Array Value) (n c : Nat) => Lib.run_convert_bytes_const (P := Try.prog) w 31 5 C n c Try.underlying31 Try.underlying5
  have m1 : W64 9223372036854775808 := by unfold W64; decide
  have m2 : W64 0 := by unfold W64; decide
  have m3 : W64 4607182418800017408 := by unfold W64; decide
  have m4 : W64 9221120237041090561 := by unfold W64; decide
  have q1 := add_z1
  have q2 := add_z2
  have q3 := add_z3
  have q4 := one_z
  have q5 := less_z1
  have q6 := less_z2
  go_enter Try.func23, Try.ntmps23
  go_wp2_with (first
    | (go_at_call 25; (first | (with_reducible refine (c_part6 _).mono ?_) | (with_reducible refine (c_partNaN _).mono ?_)); rintro e w1 ⟨rfl, hb⟩)
    | (go_at_call 15; refine (c_nan _).mono ?_; rintro e w' ⟨rfl, rfl⟩)
    | (go_at_call 16; refine (c_inf _ _).mono ?_; rintro e w' ⟨rfl, rfl⟩)
    | (go_at_call 17; refine (c_minus _).mono ?_; rintro e w' ⟨rfl, rfl⟩)
    | (go_at_call 22; refine (c_bytesOne _).mono ?_; rintro e w1 ⟨A, c, rfl, hs, hb⟩)
    | (go_at_call 21; refine (c_ofShort _ _ _).mono ?_; rintro e w' ⟨rfl, rfl⟩)
    | (go_at_call 19; refine (c_add _ _ _).mono ?_; rintro e w' ⟨rfl, k, rfl⟩)
    | (go_at_call 18; refine (c_alike _ _ _).mono ?_; rintro e w' ⟨rfl, rfl⟩)
    | (go_at_call 20; refine (c_rOne _ _).mono ?_; rintro e w' ⟨rfl, rfl⟩)
    | (go_at_call 24; refine (c_less _ _ _ (by assumption) (by assumption)).mono ?_; rintro e w' ⟨rfl, rfl⟩))
  go_ret
  exact ⟨rfl, below_drewN (below_alloc (below3 (by assumption) (by assumption) (by assumption)) _) _⟩
end Go.Proofs.Ytldeohbfhigagaa
