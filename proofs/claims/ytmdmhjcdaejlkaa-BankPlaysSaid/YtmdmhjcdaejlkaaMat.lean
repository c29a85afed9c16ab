/- A slice of slices of bytes that came in. -/
import Derived.Test.YtmdmhjcdaejlkaaRow
import Derived.Test.YtmdmhjcdaejlkaaGA
set_option linter.unusedVariables false
namespace Go.Proofs.Ytmdmhjcdaejlkaa
open Go.RowKit

def IsMat (k : IntKind) (w : World) (a : Option Addr) (len cap : Nat) : Prop :=
  (a = none ∧ len = 0 ∧ cap = 0) ∨
  ∃ (x : Addr) (A : Nat → Option Addr) (L C : Nat → Nat) (Z : Nat → List Int), a = some x ∧ len ≤ cap ∧ cap ≤ maxLen ∧ ∀ r, r < cap → w.cell? (x.add r) = some (.slice (A r) (L r) (C r)) ∧ L r ≤ C r ∧ C r ≤ maxLen ∧ (Z r).length = C r ∧ (∀ n ∈ Z r, (Lit.int k n).wf = true) ∧ (A r = none → C r = 0) ∧
    ∀ a', A r = some a' → ∀ c, c < C r → w.cell? (a'.add c) = some (.int k ((Z r).getD c 0))
/-- rows of bytes that can be read -/
def Mat (w : World) (a : Option Addr) (len : Nat) (xss : List (List UInt8)) : Prop :=
  xss.length = len ∧ ∀ (i : Nat) xs, xss[i]? = some xs → ∃ (ad : Addr) (v : Value), a = some ad ∧ w.cell? (ad.add i) = some v ∧ BytesAt w w.heap.size v xs
theorem row_of {w : World} {A : Option Addr} {L C : Nat} {Z : List Int} (h1 : L ≤ C) (h2 : C ≤ maxLen) (h3 : Z.length = C) (h4 : ∀ n ∈ Z, (Lit.int .u8 n).wf = true) (h5 : A = none → C = 0) (h6 : ∀ a', A = some a' → ∀ c, c < C → w.cell? (a'.add c) = some (.int .u8 (Z.getD c 0))) : IsRow .u8 w A L C Z := by
  cases A with
  | none =>
    have hC := h5 rfl
    subst hC
    exact .inl ⟨rfl, by omega, rfl, List.eq_nil_of_length_eq_zero h3⟩
  | some a => exact .inr ⟨a, rfl, h1, h2, h3, fun i hi => h6 a rfl i (by omega), h4⟩
theorem bytes_row {w : World} {A : Option Addr} {L C : Nat} {Z : List Int} (h : IsRow .u8 w A L C Z) : ∃ xs, BytesAt w w.heap.size (.slice A L C) xs := by
  have hcap : L ≤ C ∧ C ≤ maxLen := by
    rcases h with ⟨_, rfl, rfl, _⟩ | ⟨x, _, h1, h2, _⟩
    · exact ⟨Nat.le_refl _, Nat.zero_le _⟩
    · exact ⟨h1, h2⟩
  obtain ⟨xs, hR, hm⟩ := row_bytes h
  have hl := RdB.len hR
  subst hl
  exact ⟨xs, A, C, rfl, hcap.1, hcap.2, hR, fun ad e h0 => .inl (Rd.block_lt (e ▸ hR) h0)⟩
theorem mat_bytes {w : World} {a : Option Addr} {len cap : Nat} (h : IsMat .u8 w a len cap) : ∃ xss, Mat w a len xss := by
  rcases h with ⟨rfl, rfl, rfl⟩ | ⟨x, A, L, C, Z, rfl, hl, hm, hr⟩
  · exact ⟨[], rfl, fun i xs h => by cases h⟩
  · have hex : ∀ r, ∃ xs, r < cap → BytesAt w w.heap.size (.slice (A r) (L r) (C r)) xs := by
      intro r
      by_cases hrc : r < cap
      · obtain ⟨_, h1, h2, h3, h4, h5, h6⟩ := hr r hrc
        obtain ⟨xs, hx⟩ := bytes_row (row_of h1 h2 h3 h4 h5 h6)
        exact ⟨xs, fun _ => hx⟩
      · exact ⟨[], fun h => absurd h hrc⟩
    refine ⟨(List.range len).map fun r => (hex r).choose, by simp, fun i xs hi => ?_⟩
    rw [List.getElem?_map] at hi
    have hil : i < len := by
      rcases Nat.lt_or_ge i len with h | h
      · exact h
      · rw [List.getElem?_eq_none (by simpa using h)] at hi; cases hi
    rw [List.getElem?_range hil] at hi
    cases hi
    exact ⟨x, _, rfl, (hr i (by omega)).1, (hex i).choose_spec (by omega)⟩
end Go.Proofs.Ytmdmhjcdaejlkaa
