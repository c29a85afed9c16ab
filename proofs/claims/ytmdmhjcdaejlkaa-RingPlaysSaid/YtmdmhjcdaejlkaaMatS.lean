/- A slice of slices of bytes that came in, each of a length that memory holds. -/
import Derived.Test.YtmdmhjcdaejlkaaMat
import Derived.SizedLaws
import Derived.Deep.Matrix
set_option linter.unusedVariables false
namespace Go.Proofs.Ytmdmhjcdaejlkaa
open Go.RowKit

theorem weightsAll_mem {H : Type} {P : Program} {e : TypeId} : ∀ {ds : List (DataW H)} {r : Nat} {d : DataW H}, ds[r]? = some d → ∀ n ∈ d.weights P e, n ∈ DataW.weightsAll P e ds
  | d0 :: ds, 0, d, hd, n, hn => by
    simp only [List.getElem?_cons_zero, Option.some.injEq] at hd
    subst hd
    simp only [DataW.weightsAll, List.mem_append]
    exact Or.inl hn
  | d0 :: ds, r + 1, d, hd, n, hn => by
    simp only [List.getElem?_cons_succ] at hd
    simp only [DataW.weightsAll, List.mem_append]
    exact Or.inr (weightsAll_mem hd n hn)
  | [], _, _, hd, _, _ => by simp at hd
/-- a row within a row that was read -/
theorem sized_inner {H : Type} {P : Program} {ts : List TypeId} {ds : List (DataW H)} (h : (DataW.weightsEach P ts ds).all (· ≤ reachBytes) = true) {j r : Nat} {t e q : TypeId} {elems spare es sp : List (DataW H)} (ht : ts[j]? = some t) (hd : ds[j]? = some (.slice elems spare)) (hu : P.underlying t = some (.slice e)) (he : P.underlying e = some (.slice q)) (hr : elems[r]? = some (.slice es sp)) :
    (es.length + sp.length) * P.bytesOf q ≤ reachBytes := by
  have hm : (es.length + sp.length) * P.bytesOf q ∈ DataW.weights P t (.slice elems spare) := by
    simp only [DataW.weights, hu, List.mem_cons, List.mem_append]
    exact Or.inr (Or.inl (weightsAll_mem hr _ (by simp [DataW.weights, he])))
  have := List.all_eq_true.1 h _ (DataW.weights_mem_each ht hd _ hm)
  simpa using this
def IsMatS (k : IntKind) (w : World) (a : Option Addr) (len cap : Nat) : Prop :=
  (a = none ∧ len = 0 ∧ cap = 0) ∨
  ∃ (x : Addr) (A : Nat → Option Addr) (L C : Nat → Nat) (Z : Nat → List Int), a = some x ∧ len ≤ cap ∧ cap ≤ maxLen ∧ (∀ r, r < cap → w.cell? (x.add r) = some (.slice (A r) (L r) (C r)) ∧ L r ≤ C r ∧ C r ≤ maxLen ∧ (Z r).length = C r ∧ (∀ n ∈ Z r, (Lit.int k n).wf = true) ∧ (A r = none → C r = 0) ∧
    ∀ a', A r = some a' → ∀ c, c < C r → w.cell? (a'.add c) = some (.int k ((Z r).getD c 0))) ∧ ∀ r, r < len → L r ≤ 140737488351232
theorem mat_bytesS {w : World} {a : Option Addr} {len cap : Nat} (h : IsMatS .u8 w a len cap) : ∃ xss, Mat w a len xss ∧ ∀ xs ∈ xss, xs.length ≤ 140737488351232 := by
  rcases h with ⟨rfl, rfl, rfl⟩ | ⟨x, A, L, C, Z, rfl, hl, hm, hr, hS⟩
  · exact ⟨[], ⟨rfl, fun i xs h => by cases h⟩, fun xs h => by cases h⟩
  · have hex : ∀ r, ∃ xs, r < cap → BytesAt w w.heap.size (.slice (A r) (L r) (C r)) xs := by
      intro r
      by_cases hrc : r < cap
      · obtain ⟨_, h1, h2, h3, h4, h5, h6⟩ := hr r hrc
        obtain ⟨xs, hx⟩ := bytes_row (row_of h1 h2 h3 h4 h5 h6)
        exact ⟨xs, fun _ => hx⟩
      · exact ⟨[], fun h => absurd h hrc⟩
    refine ⟨(List.range len).map fun r => (hex r).choose, ⟨by simp, fun i xs hi => ?_⟩, fun xs hxs => ?_⟩
    · rw [List.getElem?_map] at hi
      have hil : i < len := by
        rcases Nat.lt_or_ge i len with h | h
        · exact h
        · rw [List.getElem?_eq_none (by simpa using h)] at hi; cases hi
      rw [List.getElem?_range hil] at hi
      cases hi
      exact ⟨x, _, rfl, (hr i (by omega)).1, (hex i).choose_spec (by omega)⟩
    · obtain ⟨r, hrl, rfl⟩ := List.mem_map.1 hxs
      have hrl := List.mem_range.1 hrl
      obtain ⟨A', c', e, -⟩ := (hex r).choose_spec (by omega)
      simp only [Value.slice.injEq] at e
      have := hS r hrl
      omega
end Go.Proofs.Ytmdmhjcdaejlkaa
