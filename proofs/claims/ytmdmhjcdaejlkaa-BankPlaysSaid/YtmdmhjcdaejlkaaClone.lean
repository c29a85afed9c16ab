/- slices.Clone of bytes; an empty slice literal. -/
import Derived.Test.YtmdmhjcdaejlkaaMem
import Derived.Test.YtmdmhjcdaejlkaaLe
set_option linter.unusedVariables false
set_option linter.unusedSimpArgs false
set_option maxRecDepth 100000
namespace Go.Proofs.Ytmdmhjcdaejlkaa
open Go.RowKit

theorem own_empty (W : World) (e : TypeId) : OwnB (W.alloc (.cells #[] e)) W.heap.size e (.slice (some ⟨W.heap.size, 0, none⟩) 0 0) [] :=
  ⟨rfl, .inr ⟨W.heap.size, 0, #[], rfl, Nat.le_refl _, heap_alloc_new W _, Nat.le_refl _, by unfold maxLen; omega, rfl, rfl⟩⟩
set_option maxHeartbeats 1000000 in
theorem c_clone (A : Option Addr) (n c : Nat) (xs : List UInt8) (W : World) (hr : RdB W A n xs) (hn : n ≤ 1000000) :
    Calls Try.prog 63 #[.slice A n c] W fun e w' => ∃ v, e = .returned v ∧ OwnB w' W.heap.size 5 v xs ∧ Below W.heap.size W w' := by
  cases A with
  | none =>
    have hx : xs = [] := by
      have hl := hr.len
      rcases Nat.eq_zero_or_pos n with h | h
      · exact List.eq_nil_of_length_eq_zero (by omega)
      · obtain ⟨ad, e, _⟩ := hr.2 h; cases e
    subst hx
    have heq := fun W : World => Lib.run_eql_slice_nil (P := Try.prog) W 24 5 none n c 0 0 Try.underlying24
    go_enter Try.func63, Try.ntmps63
    go_wp2
    go_ret
    exact ⟨_, rfl, OwnB.nil_ _ _ _, Below.refl _ _⟩
  | some ad =>
    have heq := fun W : World => Lib.run_eql_slice_nil (P := Try.prog) W 24 5 (some ad) n c 0 0 Try.underlying24
    have HO := own_empty W 5
    have hB : Below W.heap.size W (W.alloc (.cells #[] 5)) := below_alloc (Below.refl _ _) _
    have hr1 := hr.below hB (Nat.le_refl _)
    go_enter Try.func63, Try.ntmps63
    go_wp2_with (at_builtin; refine wpl_cat rfl _ _ 24 rfl W.heap.size 5 Try.underlying24 info_u8 HO rfl hr1 rfl hB (by simp) (by simp; omega) ?_; intro v1 w1 ho1 hb1 hg1 _)
    go_ret
    exact ⟨_, rfl, by simpa using ho1, hb1⟩
end Go.Proofs.Ytmdmhjcdaejlkaa
