/- A slice literal of one element, a struct. -/
import Derived.Test.YtlbpmboknmbcgaaMem
import Derived.Great.BuildSlice
set_option linter.unusedVariables false
namespace Go.Proofs.Ytlbpmboknmbcgaa
open Go.RowKit

theorem take_set (L : List Value) (k : Nat) (c : Value) (h : k < L.length) : (L.set k c).take (k + 1) = L.take k ++ [c] := by
  rw [List.take_add_one, List.take_set_of_le (Nat.le_refl k), List.getElem?_set_self h]
  rfl
theorem lay_list : ∀ (l : List Value) (k : Nat) (a : Array Value), a.size = k + l.length → (l.zipIdx k).foldl (fun cs x => cs.setIfInBounds (0 + x.2) x.1) a = (a.toList.take k ++ l).toArray
  | [], k, a, h => by
    simp only [List.zipIdx_nil, List.foldl_nil, List.append_nil]
    rw [List.take_of_length_le (by simp at h; simp; omega)]
  | c :: l, k, a, h => by
    simp only [List.zipIdx_cons, List.foldl_cons]
    rw [lay_list l (k + 1) _ (by simp at h ⊢; omega), Nat.zero_add, Array.toList_setIfInBounds, take_set _ _ _ (by simp at h ⊢; omega)]
    simp
theorem fill_one (cs : Array Value) (n : Nat) (init : Array Value) (hi : init.size = n) (hn : cs.size = n) : Instr.fill (fun i => some (i * n, n)) init [(0, .agg cs)] = some cs := by
  have hc : (Value.agg cs).cells = cs := rfl
  unfold Instr.fill
  simp only [hc, Nat.zero_mul, Nat.zero_add]
  subst hn
  rw [if_neg (by rw [hi]; simp)]
  unfold Instr.fill
  congr 1
  have e := lay_list cs.toList 0 init (by simp; omega)
  simp only [Nat.zero_add] at e
  have e2 : Array.foldl (fun cs x => cs.setIfInBounds x.2 x.1) init cs.zipIdx = List.foldl (fun cs x => cs.setIfInBounds x.2 x.1) init (cs.toList.zipIdx 0) := by
    rw [← Array.foldl_toList, Array.toList_zipIdx]
  rw [e2, e]
  simp
theorem wp_buildOne {P : Program} {o : Oper} {a : Act} {w : World} {K : Act → World → Prop} {Q : Exit → Act → World → Prop} {t e : TypeId} {x : Operand} {vs : List Value} {z : Value} {size : Nat} (ho : o.op = .buildSlice t 1 #[(0, x)])
    (hu : P.underlying t = some (.slice e)) (hi : (P.info? e).map (fun i => (i.zero, i.size)) = some (some z, size)) (hs : 0 < size ∧ size < 1000000) (hx : a.eval x = .agg vs.toArray) (hl : vs.length = size)
    (h : K (a.put o.dst (.slice (some ⟨w.heap.size, 0, none⟩) 1 1)) (w.alloc (.cells vs.toArray e))) : o.wp P a w K Q := by
  obtain ⟨i, hi1, hi2⟩ := Option.map_eq_some_iff.1 hi
  simp only [Prod.mk.injEq] at hi2
  obtain ⟨z0, z1⟩ := hi2
  refine wp_buildSlice t e 1 _ ho vs.toArray i z hu hi1 z0 (by rw [z1]; omega) (by rw [z1]; omega) ?_ h
  have e1 : ((#[(0, x)] : Array (Nat × Operand)).map fun (i, x) => (i, a.eval x)).toList = [(0, .agg vs.toArray)] := by simp [hx]
  rw [e1, z1]
  exact fill_one _ _ _ (by simp) (by simp [hl])
end Go.Proofs.Ytlbpmboknmbcgaa
