/- Contracts of node, buck, draw, path that conf asks. -/
import Derived.Test.YtldeohbfhigagaaConf
set_option linter.unusedVariables false
set_option linter.unusedSimpArgs false
namespace Go.Proofs.Ytldeohbfhigagaa
open Go.RowKit Flo

theorem c_msgLong (k v c f m l n x z : Int) (fl : Nat) (w : World) (hk : 0 ≤ k ∧ k ≤ 1000) (hv : 0 ≤ v ∧ v ≤ 1000) :
    Calls Try.prog 54 #[.agg #[.int .i64 k, .int .i64 v, .int .i64 c, .int .i64 f, .int .i64 m, .int .i64 l, .int .i64 n, .int .i64 x, .int .i64 z, .float .f64 fl]] w fun e w' => e = .returned (.int .i64 (k + v + 5)) ∧ Below w.heap.size w w' := by
  go_enter Try.func54, Try.ntmps54
  go_wp2
  go_ret
  exact ⟨by rw [show k + v + 5 = 1 + k + 2 + v + 2 by omega]; rfl, below_alloc (Below.refl _ _) _⟩
theorem c_buckLong (z s : Int) (w : World) (hz : 0 ≤ z ∧ z ≤ 65536) (hs : 0 ≤ s ∧ s ≤ 65536) :
    Calls Try.prog 43 #[.int .i64 z, .int .i64 s] w fun e w' => e = .returned (.int .i64 (z * (8 + s))) ∧ w = w' := by
  have h0 : 0 ≤ z * (8 + s) := Int.mul_nonneg hz.1 (by omega)
  have h1 : z * (8 + s) ≤ 65536 * 65544 := Int.mul_le_mul hz.2 (by omega) (by omega) (by decide)
  have hw : IntKind.i64.wrap (z * (8 + s)) = z * (8 + s) := IntWalk.i64_in _ ⟨by omega, by omega⟩
  go_enter Try.func43, Try.ntmps43
  go_wp2
  go_ret
  exact ⟨rfl, rfl⟩
theorem pow_and : ∀ i, i < 17 → bits BinOp.and IntKind.i64 ((2 ^ i : Nat) : Int) (((2 ^ i : Nat) : Int) - 1) = 0 ∧ 1 ≤ 2 ^ i ∧ 2 ^ i ≤ 65536 := by decide +kernel
/-- a power of two up to the most -/
structure Pow2 (y : Int) : Prop where mk :: (out : ∃ i : Nat, i < 17 ∧ y = ((2 ^ i : Nat) : Int))
theorem Pow2.fits {y : Int} (h : Pow2 y) : bits BinOp.and IntKind.i64 y (y - 1) = 0 ∧ 1 ≤ y ∧ y ≤ 65536 := by
  obtain ⟨i, hi, rfl⟩ := h.out
  obtain ⟨h1, h2, h3⟩ := pow_and i hi
  exact ⟨h1, by omega, by omega⟩
theorem c_leaves2 (y : Int) (w : World) (h : Pow2 y) :
    Calls Try.prog 58 #[.int .i64 y] w fun e w' => e = .returned (.bool true) ∧ w = w' := by
  obtain ⟨h1, h2, h3⟩ := h.fits
  go_enter Try.func58, Try.ntmps58
  go_wp2
  go_ret
  exact ⟨rfl, rfl⟩
theorem c_buckets2 (y : Int) (w : World) (h : Pow2 y) :
    Calls Try.prog 44 #[.int .i64 y] w fun e w' => e = .returned (.int .i64 (2 * y - 1)) ∧ w = w' := by
  obtain ⟨h1, h2, h3⟩ := h.fits
  go_enter Try.func44, Try.ntmps44
  go_wp2_with (go_at_call 58; refine (c_leaves2 _ _ h).mono ?_; rintro e w' ⟨rfl, rfl⟩)
  go_ret
  exact ⟨rfl, rfl⟩
def cfgL (k v c f m l n x z : Int) : List Int := [k, v, c, f, m, l, n, x, z]
theorem c_nodeOk (k v c f m l n x z : Int) (fl : Nat) (w : World) (h : ∀ y ∈ cfgL k v c f m l n x z, 0 ≤ y ∧ y ≤ 1000) :
    Calls Try.prog 57 #[.agg #[.int .i64 k, .int .i64 v, .int .i64 c, .int .i64 f, .int .i64 m, .int .i64 l, .int .i64 n, .int .i64 x, .int .i64 z, .float .f64 fl]] w fun e w' => e = .returned (.bool true) ∧ Below w.heap.size w w' := by
  go_enter Try.func57, Try.ntmps57
  go_wp2
  have hB1 : Below w.heap.size w (w.alloc (.cells #[.int .i64 k, .int .i64 v, .int .i64 c, .int .i64 f, .int .i64 m, .int .i64 l, .int .i64 n, .int .i64 x, .int .i64 z, .float .f64 fl] 50)) := below_alloc (Below.refl _ _) _
  have hsz : (w.alloc (.cells #[.int .i64 k, .int .i64 v, .int .i64 c, .int .i64 f, .int .i64 m, .int .i64 l, .int .i64 n, .int .i64 x, .int .i64 z, .float .f64 fl] 50)).heap.size = w.heap.size + 1 := by simp
  generalize w.alloc (.cells #[.int .i64 k, .int .i64 v, .int .i64 c, .int .i64 f, .int .i64 m, .int .i64 l, .int .i64 n, .int .i64 x, .int .i64 z, .float .f64 fl] 50) = w1 at hB1 hsz ⊢
  have hrd := rd_lit w1 ((cfgL k v c f m l n x z).map (.int .i64)) 3 (0, 0) 9 rfl
  have hB2 : Below w.heap.size w (w1.alloc (.cells ((cfgL k v c f m l n x z).map (.int .i64)).toArray 3)) := below_alloc hB1 _
  have HE : Hid (w1.alloc (.cells ((cfgL k v c f m l n x z).map (.int .i64)).toArray 3) = w1.alloc (.cells #[.int .i64 k, .int .i64 v, .int .i64 c, .int .i64 f, .int .i64 m, .int .i64 l, .int .i64 n, .int .i64 x, .int .i64 z] 3)) := rfl
  generalize w1.alloc (.cells ((cfgL k v c f m l n x z).map (.int .i64)).toArray 3) = w2 at hrd hB2 HE
  rw [← HE.out]
  rw [hsz] at hrd
  have hl : (cfgL k v c f m l n x z).length = 9 := rfl
  generalize cfgL k v c f m l n x z = L at *
  clear HE
  go_loopw [4, 25] (fun s4 s25 wr => ∃ i : Nat, i ≤ 9 ∧ s25 = .int .i64 (i : Int) ∧ wr = w2) (fun _ i _ => 9 - (intOf i).toNat)
  case atStart => exact ⟨0, by omega, rfl, rfl⟩
  case round =>
    obtain ⟨i, hi, rfl, rfl⟩ := hrel
    by_cases hlt : i < 9
    · obtain ⟨ad, u, e, hv, hc⟩ := hrd.at_ hlt
      cases e
      rw [List.getElem?_map, List.getElem?_eq_getElem (by omega)] at hv
      have hb := h L[i] (List.getElem_mem _)
      generalize L[i] = y at hv hb
      cases hv
      rw [ad_none, Nat.zero_add] at hc
      obtain ⟨hb1, hb2⟩ := hb
      go_wp2
      go_roundw
      case rel => exact ⟨i + 1, by omega, by go_num, by first | trivial | rfl⟩
      case measure => simp [intOf]; omega
    · have : i = 9 := by omega
      subst this
      go_wp2
      go_ret
      exact ⟨rfl, hB2⟩
end Go.Proofs.Ytldeohbfhigagaa
