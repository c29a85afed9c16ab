/- Maps from int to slices, each value reading as itself. -/
import Derived.Test.YtlbpmboknmbcgaaProg
import Derived.Test.YtlbpmboknmbcgaaLinT
import Derived.Maps.Own
import Derived.Maps.OwnSet
import Derived.Maps.Views
import Derived.Maps.Ext
import Derived.Maps.RangeWalk
set_option linter.unusedVariables false
set_option linter.unusedSimpArgs false
namespace Go.Proofs.Ytlbpmboknmbcgaa
open Go.RowKit

/-- each value reads as itself -/
def selfR (v : Value) : Option (DataW Value × List MemPlace) := some (.held v, [])
def kI (i : Int) : Lit := .int .i64 i
/-- block b is a map from int: at i stands f i (nil where nothing stands); n stores at most -/
structure MapI (W : World) (b n : Nat) (f : Int → Value) : Prop where
  mk :: (out : ∃ D, W.ownsMap Try.prog 3 selfR b n D ∧ ∀ i, D.atKey (kI i) (.held (.slice none 0 0)) = .held (f i))
theorem MapI.below {W W' : World} {b n : Nat} {f : Int → Value} (h : MapI W b n f) (he : W'.heap[b]? = W.heap[b]?) : MapI W' b n f := by
  obtain ⟨D, ⟨es, clock, hb, r⟩, hD⟩ := h.out
  exact ⟨D, ⟨es, clock, he.trans hb, r⟩, hD⟩
theorem MapI.lt {W : World} {b n : Nat} {f : Int → Value} (h : MapI W b n f) : b < W.heap.size := by
  obtain ⟨D, ho, _⟩ := h.out
  exact ho.lt
theorem MapI.new (w : World) : MapI (w.alloc (.map #[] 0)) w.heap.size 0 (fun _ => .slice none 0 0) :=
  ⟨_, World.ownsMap_made w _ _ _, fun _ => rfl⟩
theorem key_i64 (i : Int) (hi : (Lit.int .i64 i).wf = true) : keyOf Try.prog 3 (.int .i64 i) = some (kI i) := Maps.keyOf_int_mk Try.underlying3 hi
theorem run_look {W : World} {b n : Nat} {f : Int → Value} (h : MapI W b n f) (i : Int) (hi : (Lit.int .i64 i).wf = true) : (Instr.lookup 79 (.map (some b)) (.int .i64 i) false).run Try.prog W = .ok (f i) W := by
  obtain ⟨D, ho, hD⟩ := h.out
  obtain ⟨v, ps, hrun, hv⟩ := ho.lookup (Maps.int_keyed Try.underlying3) Try.underlying79 (z := .slice none 0 0) (by kernel_rfl) (zd := .held (.slice none 0 0)) (zp := []) rfl (key_i64 i hi)
  rw [hD i] at hv
  simp only [selfR, Option.some.injEq, Prod.mk.injEq, DataW.held.injEq] at hv
  rw [hrun, hv.1]
/-- a function with one place turned -/
def updI (f : Int → Value) (i : Int) (v : Value) : Int → Value := fun j => if j = i then v else f j
theorem run_put {W : World} {b n : Nat} {f : Int → Value} (h : MapI W b n f) (hn : n < maxLen) (i : Int) (hi : (Lit.int .i64 i).wf = true) (v : Value) :
    ∃ W', (Instr.mapUpdate 79 (.map (some b)) (.int .i64 i) v).run Try.prog W = .ok () W' ∧ MapI W' b (n + 1) (updI f i v) ∧ W.grownBy W' (some b) := by
  obtain ⟨D, ho, hD⟩ := h.out
  obtain ⟨W', hrun, ho', hg⟩ := ho.update (Maps.int_keyed Try.underlying3) Try.underlying79 hn (key_i64 i hi) (val := v) (d := .held v) (ps := []) rfl
  refine ⟨W', hrun, ⟨_, ho', fun j => ?_⟩, hg⟩
  unfold updI
  by_cases hj : j = i
  · subst hj
    rw [if_pos rfl, Maps.atKey_put_same ho.isMap (by constructor)]
  · rw [if_neg hj, Maps.atKey_put_other (fun e => hj (by unfold kI at e; cases e; rfl)), hD]
end Go.Proofs.Ytlbpmboknmbcgaa
