/- The walks of flot.Part and of the document's own. -/
import Derived.Test.YtldeohbfhigagaaFlt
set_option linter.unusedVariables false
set_option linter.unusedSimpArgs false
namespace Go.Proofs.Ytldeohbfhigagaa
open Go.RowKit Flo

/-- the pair that Part answers -/
def PartAns (n : Int) (f : Nat) (w : World) (e : Ending) (w' : World) : Prop :=
  ∃ (k : Int) (ok : Bool), e = .returned (.tuple #[.int .i64 k, .bool ok]) ∧ PartIs n f k ok ∧ Below w.heap.size w w'
theorem PartIs.no {n : Int} {f : Nat} (h : partOk n f = false) : PartIs n f 0 false := by
  refine ⟨?_⟩
  unfold PartIs0; rw [if_neg (by rw [h]; simp)]; exact ⟨rfl, rfl⟩
theorem PartIs.few {n : Int} {f : Nat} (h : enB n.toNat f big = false) : PartIs n f 0 false := by
  refine ⟨?_⟩
  unfold PartIs0; rw [if_neg (by rw [h]; simp)]; exact ⟨rfl, rfl⟩
theorem PartIs.yes {n f k : Nat} (h : partOk n f = true) (hb : enB n f big = true) (hk : k ≤ big) (h1 : enB n f k = true) (h2 : k = 0 ∨ enB n f (k - 1) = false) : PartIs n f k true := by
  refine ⟨?_⟩
  unfold PartIs0
  rw [if_pos ⟨h, by simpa using hb⟩]
  refine ⟨rfl, by omega, by omega, by simpa using h1, ?_⟩
  rcases h2 with h | h
  · left; omega
  · right; simpa using h

theorem part_arms {n : Int} {f : Nat} {a b : Bool} (hok : partOk n f = false) (h1 : ¬ n < 0) (h2 : ¬ 1000000 < n) (hg : (a && b) = decide (0 < f ∧ f ≤ 4607182418800017408)) : a = false ∨ a = true ∧ b = false := by
  unfold partOk at hok
  rw [decide_eq_false_iff_not] at hok
  have : ¬ (0 < f ∧ f ≤ 4607182418800017408) := fun h => hok ⟨by omega, by omega, h⟩
  rw [decide_eq_false this] at hg
  cases a <;> cases b <;> simp_all
theorem part_both {n : Int} {f : Nat} {a b : Bool} (hok : partOk n f = true) (hg : (a && b) = decide (0 < f ∧ f ≤ 4607182418800017408)) : a = true ∧ b = true := by
  unfold partOk at hok
  rw [decide_eq_true_iff] at hok
  rw [decide_eq_true hok.2.2] at hg
  cases a <;> cases b <;> simp_all
theorem below2 (w : World) (a b : Obj) : Below w.heap.size w ((w.alloc a).alloc b) := below_alloc (below_alloc (Below.refl _ _) a) b

set_option maxHeartbeats 1600000 in
theorem c_part (n : Int) (f : Nat) (w : World) (hf : W64 f) (hn : -9223372036854775808 ≤ n ∧ n ≤ 9223372036854775807) :
    Calls Try.prog 25 #[.int .i64 n, .float .f64 f] w (PartAns n f w) := by
  have hg := gt_zero f hf
  rw [← fmt64] at hg
  have hmf : ∀ (fn : Fn) (first cap : Array Value) (w : World), (Instr.makeFunc fn first cap).run Try.prog w = .ok (.func fn first cap) w := fun _ _ _ _ => rfl
  clear hf
  cases hok : partOk n f
  · have fin : ∀ (W : World), Below w.heap.size w W → PartAns n f w (.returned (.tuple #[.int .i64 0, .bool false])) W := fun W hW => ⟨0, false, rfl, PartIs.no hok, hW⟩
    by_cases h1 : n < 0
    · clear hg hok
      go_enter Try.func25, Try.ntmps25
      go_wp2
      go_ret2
      exact fin _ (below2 _ _ _)
    · by_cases h2 : 1000000 < n
      · clear hg hok
        go_enter Try.func25, Try.ntmps25
        go_wp2
        go_ret2
        exact fin _ (below2 _ _ _)
      · rcases part_arms hok h1 h2 hg with ha | ⟨ha, hb⟩
        · clear hg hok
          go_enter Try.func25, Try.ntmps25
          go_wp2
          go_ret2
          exact fin _ (below2 _ _ _)
        · clear hg hok
          go_enter Try.func25, Try.ntmps25
          go_wp2
          go_ret2
          exact fin _ (below2 _ _ _)
  · obtain ⟨ha, hb⟩ := part_both hok hg
    have hr : 0 ≤ n ∧ n ≤ 1000000 ∧ f ≤ 4607182418800017408 := by
      unfold partOk at hok
      rw [decide_eq_true_iff] at hok
      exact ⟨hok.1, hok.2.1, hok.2.2.2⟩
    obtain ⟨h0, h1, hfm⟩ := hr
    obtain ⟨m, rfl⟩ := Int.eq_ofNat_of_zero_le h0
    have YES : ∀ k : Nat, enB m f big = true → k ≤ big → enB m f k = true → (k = 0 ∨ enB m f (k - 1) = false) → PartIs m f k true := fun k a b c d => PartIs.yes hok a b c d
    have NO : enB m f big = false → PartIs m f 0 false := fun a => PartIs.few a
    clear hok
    have EN : ∀ (k : Nat) (W : World), k ≤ big → W.cell? ⟨w.heap.size + 1, 0, none⟩ = some (.float .f64 f) → W.cell? ⟨w.heap.size, 0, none⟩ = some (.int .i64 (m : Int)) →
        Calls Try.prog 50 #[.int .i64 (k : Int), .pointer (some ⟨w.heap.size + 1, 0, none⟩), .pointer (some ⟨w.heap.size, 0, none⟩)] W fun e w' => e = .returned (.bool (enB m f k)) ∧ W = w' :=
      fun k W hk c1 c2 => c_enough k m f _ _ W hk hfm c1 c2
    have E0 : ∀ (W : World), W.cell? ⟨w.heap.size + 1, 0, none⟩ = some (.float .f64 f) → W.cell? ⟨w.heap.size, 0, none⟩ = some (.int .i64 (m : Int)) →
        Calls Try.prog 50 #[.int .i64 1099511627776, .pointer (some ⟨w.heap.size + 1, 0, none⟩), .pointer (some ⟨w.heap.size, 0, none⟩)] W fun e w' => e = .returned (.bool (enB m f big)) ∧ W = w' :=
      fun W c1 c2 => EN big W (Nat.le_refl _) c1 c2
    clear hg
    generalize enB m f = g at *
    cases hB : g big
    · have fin : ∀ (W : World), Below w.heap.size w W → PartAns m f w (.returned (.tuple #[.int .i64 0, .bool false])) W := fun W hW => ⟨0, false, rfl, NO hB, hW⟩
      clear YES NO EN
      go_enter Try.func25, Try.ntmps25
      go_wp2_with (go_at_call 50; refine (E0 _ ?_ ?_).mono ?_; go_simp; go_simp; rintro e w' ⟨rfl, rfl⟩)
      go_ret2
      exact fin _ (below2 _ _ _)
    · have fin : ∀ (k : Nat) (W : World), k ≤ big → g k = true → (k = 0 ∨ g (k - 1) = false) → Below w.heap.size w W → PartAns m f w (.returned (.tuple #[.int .i64 (k : Int), .bool true])) W :=
        fun k W h1 h2 h3 hW => ⟨k, true, rfl, YES k hB h1 h2 h3, hW⟩
      clear YES NO
      have e40 : (1099511627776 : Int) = ((big : Nat) : Int) := rfl
      have HB : Hid (g big = true) := hB
      go_enter Try.func25, Try.ntmps25
      go_wp2_with (go_at_call 50; refine (E0 _ ?_ ?_).mono ?_; go_simp; go_simp; rintro e w' ⟨rfl, rfl⟩)
      clear hB
      go_loop [7, 8, 9] (fun lo hi _ => ∃ a b : Nat, a ≤ b ∧ b ≤ big ∧ g b = true ∧ (a = 0 ∨ g (a - 1) = false) ∧ lo = .int .i64 (a : Int) ∧ hi = .int .i64 (b : Int)) (fun lo hi _ => (intOf hi - intOf lo).toNat)
      case atStart => exact ⟨0, big, Nat.zero_le _, Nat.le_refl _, HB.out, .inl rfl, rfl, rfl⟩
      case round =>
        obtain ⟨a, b, hab, hbb, hgb, hga, rfl, rfl⟩ := hrel
        have Hgb : Hid (g b = true) := hgb
        have Hga : Hid (a = 0 ∨ g (a - 1) = false) := hga
        have hbb' : b ≤ 1099511627776 := hbb
        clear hgb hga hbb e40
        by_cases hlt : a < b
        · have hmid : ((a : Int) + b) / 2 = ((a + b) / 2 : Nat) := by omega
          have hm1 : a ≤ (a + b) / 2 ∧ (a + b) / 2 < b := by omega
          generalize hM : (a + b) / 2 = M at *
          clear hM
          cases hgM : g M
          · go_wp2_with (go_at_call 50; refine (EN M _ (by unfold big; omega) ?_ ?_).mono ?_; go_simp; go_simp; rintro e w' ⟨rfl, rfl⟩)
            go_round
            case rel => exact ⟨M + 1, b, by omega, hbb', Hgb.out, .inr (by simpa using hgM), by go_num, rfl⟩
            case measure => simp [intOf]; omega
          · go_wp2_with (go_at_call 50; refine (EN M _ (by unfold big; omega) ?_ ?_).mono ?_; go_simp; go_simp; rintro e w' ⟨rfl, rfl⟩)
            go_round
            case rel => exact ⟨a, M, by omega, by unfold big; omega, hgM, Hga.out, rfl, rfl⟩
            case measure => simp [intOf]; omega
        · obtain rfl : a = b := by omega
          go_wp2
          go_ret2
          exact fin _ _ hbb' Hgb.out Hga.out (below2 _ _ _)

theorem run_big {P : Program} (t : TypeId) (n f : Nat) (hf : f ≤ 4607182418800017408) :
    ∃ r : Nat, (∀ w, (binOp .mul t (.float .f64 4787326403894837248) (.float .f64 f)).run P w = .ok (.float .f64 r) w) ∧
      (FloatKind.f64.format.order r (floatOfInt .f64 (n : Int)) == some .lt) = !enB n f big := by
  obtain ⟨r, h1, _, h3⟩ := run_parts (P := P) t n big f (Nat.le_refl _) hf
  rw [ofInt_eq big, rI_big] at h1
  exact ⟨r, h1, h3⟩

set_option maxHeartbeats 1600000 in
theorem c_rPart (n : Int) (f : Nat) (w : World) (hf : W64 f) (hn : -9223372036854775808 ≤ n ∧ n ≤ 9223372036854775807) :
    Calls Try.prog 35 #[.int .i64 n, .float .f64 f] w (PartAns n f w) := by
  have hg := gt_zero f hf
  rw [← fmt64] at hg
  clear hf
  cases hok : partOk n f
  · have fin : PartAns n f w (.returned (.tuple #[.int .i64 0, .bool false])) w := ⟨0, false, rfl, PartIs.no hok, Below.refl _ _⟩
    by_cases h1 : n < 0
    · clear hg hok
      go_enter Try.func35, Try.ntmps35
      go_wp2
      go_ret2
      exact fin
    · by_cases h2 : 1000000 < n
      · clear hg hok
        go_enter Try.func35, Try.ntmps35
        go_wp2
        go_ret2
        exact fin
      · rcases part_arms hok h1 h2 hg with ha | ⟨ha, hb⟩
        · clear hg hok
          go_enter Try.func35, Try.ntmps35
          go_wp2
          go_ret2
          exact fin
        · clear hg hok
          go_enter Try.func35, Try.ntmps35
          go_wp2
          go_ret2
          exact fin
  · obtain ⟨ha, hb⟩ := part_both hok hg
    have hr : 0 ≤ n ∧ n ≤ 1000000 ∧ f ≤ 4607182418800017408 := by
      unfold partOk at hok
      rw [decide_eq_true_iff] at hok
      exact ⟨hok.1, hok.2.1, hok.2.2.2⟩
    obtain ⟨h0, h1, hfm⟩ := hr
    obtain ⟨m, rfl⟩ := Int.eq_ofNat_of_zero_le h0
    have YES : ∀ k : Nat, enB m f big = true → k ≤ big → enB m f k = true → (k = 0 ∨ enB m f (k - 1) = false) → PartIs m f k true := fun k a b c d => PartIs.yes hok a b c d
    have NO : enB m f big = false → PartIs m f 0 false := fun a => PartIs.few a
    clear hok hg
    have MUL := fun (k : Nat) (hk : k ≤ big) => run_parts (P := Try.prog) 22 m k f hk hfm
    obtain ⟨rb, hrb, hrl⟩ := run_big (P := Try.prog) 22 m f hfm
    generalize enB m f = g at *
    have HM : Hid (∀ (k : Nat), k ≤ big → ∃ r : Nat, (∀ w, (binOp .mul 22 (.float .f64 (floatOfInt .f64 (k : Int))) (.float .f64 f)).run Try.prog w = .ok (.float .f64 r) w) ∧
      (FloatKind.f64.format.order r (floatOfInt .f64 (m : Int)) == some .gt || FloatKind.f64.format.order r (floatOfInt .f64 (m : Int)) == some .eq) = g k ∧
      (FloatKind.f64.format.order r (floatOfInt .f64 (m : Int)) == some .lt) = !g k) := MUL
    clear MUL
    cases hB : g big
    · have fin : PartAns m f w (.returned (.tuple #[.int .i64 0, .bool false])) w := ⟨0, false, rfl, NO hB, Below.refl _ _⟩
      rw [hB] at hrl
      clear YES NO HM
      go_enter Try.func35, Try.ntmps35
      go_wp2
      go_ret2
      exact fin
    · have fin : ∀ (k : Nat), k ≤ big → g k = true → (k = 0 ∨ g (k - 1) = false) → PartAns m f w (.returned (.tuple #[.int .i64 (k : Int), .bool true])) w :=
        fun k h1 h2 h3 => ⟨k, true, rfl, YES k hB h1 h2 h3, Below.refl _ _⟩
      rw [hB] at hrl
      have HB : Hid (g big = true) := hB
      clear YES NO hB
      have e40 : (1099511627776 : Int) = ((big : Nat) : Int) := rfl
      go_enter Try.func35, Try.ntmps35
      go_wp2
      clear hrb hrl
      go_loop [6, 7, 8] (fun lo hi _ => ∃ a b : Nat, a ≤ b ∧ b ≤ big ∧ g b = true ∧ (a = 0 ∨ g (a - 1) = false) ∧ lo = .int .i64 (a : Int) ∧ hi = .int .i64 (b : Int)) (fun lo hi _ => (intOf hi - intOf lo).toNat)
      case atStart => exact ⟨0, big, Nat.zero_le _, Nat.le_refl _, HB.out, .inl rfl, rfl, rfl⟩
      case round =>
        obtain ⟨a, b, hab, hbb, hgb, hga, rfl, rfl⟩ := hrel
        have Hgb : Hid (g b = true) := hgb
        have Hga : Hid (a = 0 ∨ g (a - 1) = false) := hga
        have hbb' : b ≤ 1099511627776 := hbb
        clear hgb hga hbb e40
        by_cases hlt : a < b
        · have hmid : ((a : Int) + b) / 2 = ((a + b) / 2 : Nat) := by omega
          have hm1 : a ≤ (a + b) / 2 ∧ (a + b) / 2 < b := by omega
          generalize hM : (a + b) / 2 = M at *
          clear hM
          obtain ⟨r, hr1, hr2, _⟩ := HM.out M (by unfold big; omega)
          cases hgM : g M
          · rw [hgM] at hr2
            go_wp2
            go_round
            case rel => exact ⟨M + 1, b, by omega, hbb', Hgb.out, .inr (by simpa using hgM), by go_num, rfl⟩
            case measure => simp [intOf]; omega
          · rw [hgM] at hr2
            go_wp2
            go_round
            case rel => exact ⟨a, M, by omega, by unfold big; omega, hgM, Hga.out, rfl, by first | rfl | rw [hmid]⟩
            case measure => simp [intOf]; omega
        · obtain rfl : a = b := by omega
          go_wp2
          go_ret2
          exact fin _ hbb' Hgb.out Hga.out
end Go.Proofs.Ytldeohbfhigagaa
