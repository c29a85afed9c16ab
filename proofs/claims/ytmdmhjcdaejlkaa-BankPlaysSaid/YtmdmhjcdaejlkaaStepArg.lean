/- A slice of Steps (two numbers, bytes) that came in. -/
import Derived.Test.YtmdmhjcdaejlkaaRow
import Derived.Test.YtmdmhjcdaejlkaaMem
import Derived.Test.YtmdmhjcdaejlkaaMat
import Derived.Deep.Slices
import Derived.ChangeSlices
import Derived.ChangeArms
import Derived.ChangeShapes
set_option linter.unusedVariables false
set_option linter.unusedSimpArgs false
namespace Go.Proofs.Ytmdmhjcdaejlkaa
open Go.RowKit Go.ChangeShapes Go.WideShapes Go.Deep

def IsSteps (w : World) (a : Option Addr) (len cap : Nat) : Prop :=
  (a = none ∧ len = 0 ∧ cap = 0) ∨
  ∃ (x : Addr), a = some x ∧ len ≤ cap ∧ cap ≤ maxLen ∧ ∀ r, r < len → ∃ (k t : Int) (A : Option Addr) (L C : Nat) (Z : List Int),
    w.cell? (x.add (r * 3)) = some (.int .i64 k) ∧ w.cell? (x.add (r * 3 + 1)) = some (.int .i64 t) ∧ w.cell? (x.add (r * 3 + 2)) = some (.slice A L C) ∧ IsRow .u8 w A L C Z
section
variable {H : Type} {enc : TypeId × Value → H} {w : World} {base : Nat} {held : Bool}
set_option maxRecDepth 100000 in
theorem open_steps {fuel : Nat} {a : Option Addr} {len cap : Nat} {x : DataW H × List MemPlace} (h : DataW.trod enc Try.prog w base (fun _ => true) held fuel 79 [.slice a len cap] = some x) : IsSteps w a len cap := by
  have cu : Try.prog.cellsOf 85 = 3 := by kernel_rfl
  have c1 : Try.prog.cellsOf 3 = 1 := by kernel_rfl
  have c2 : Try.prog.cellsOf 24 = 1 := by kernel_rfl
  rcases open_slice Try.underlying79 h with ⟨hcs, _⟩ | ⟨x, l, c, m, n, D, Pl, hcs, _, hl, hm, hmm, _, hx⟩
  · cases hcs; exact .inl ⟨rfl, rfl, rfl⟩
  · cases hcs
    refine .inr ⟨x, rfl, hl, hm, fun r hr => ?_⟩
    simp only [if_true] at hmm
    obtain ⟨cs', g1, g2⟩ := hx r (by omega)
    rw [cu] at g1
    obtain ⟨_, hlen, hcell⟩ := World.cells?_some g1
    obtain ⟨ys, q, _, _, _, hyl, hf⟩ := DataW.trod_struct Try.underlying85 g2
    match ys, hyl, cs', hlen with
    | [y0, y1, y2], _, [v0, v1, v2], _ =>
      have f0 := hf 0 _ rfl
      have f1 := hf 1 _ rfl
      have f2 := hf 2 _ rfl
      simp only [c1, c2, List.drop_zero, List.drop_succ_cons, List.take_succ_cons, List.take_zero, List.getElem?_cons_zero, List.getElem?_cons_succ] at f0 f1 f2
      have e0 := hcell 0 (by omega)
      have e1 := hcell 1 (by omega)
      have e2 := hcell 2 (by omega)
      rw [add_add] at e0 e1 e2
      obtain ⟨k, h1, _, _⟩ := DataW.trod_int Try.underlying3 f0
      obtain ⟨t, h2, _, _⟩ := DataW.trod_int Try.underlying3 f1
      cases h1; cases h2
      simp only [List.getElem?_cons_zero, List.getElem?_cons_succ, Nat.add_zero] at e0 e1 e2
      rcases open_ints Try.underlying24 Try.underlying5 (by kernel_rfl) f2 with ⟨hcs, _⟩ | ⟨A, L, C, zs, hcs, _, hl2, hm2, hz, _, hcl, hw⟩
      · cases hcs
        exact ⟨k, t, none, 0, 0, [], e0, e1, e2, .inl ⟨rfl, rfl, rfl, rfl⟩⟩
      · cases hcs
        exact ⟨k, t, some A, L, C, zs, e0, e1, e2, .inr ⟨A, rfl, hl2, hm2, by simpa using hz, hcl, hw⟩⟩
end
/-- steps that can be read -/
def StepsAt (w : World) (a : Option Addr) (len : Nat) (ss : List (Int × Int × List UInt8)) : Prop :=
  ss.length = len ∧ ∀ (i : Nat) k t xs, ss[i]? = some (k, t, xs) → ∃ (b o : Nat) (A : Option Addr) (c : Nat), a = some ⟨b, o, none⟩ ∧ w.cell? ⟨b, o + i * 3, none⟩ = some (.int .i64 k) ∧ w.cell? ⟨b, o + i * 3 + 1, none⟩ = some (.int .i64 t) ∧ w.cell? ⟨b, o + i * 3 + 2, none⟩ = some (.slice A xs.length c) ∧ RdB w A xs.length xs
theorem steps_at {w : World} {a : Option Addr} {len cap : Nat} (h : IsSteps w a len cap) : ∃ ss, StepsAt w a len ss := by
  rcases h with ⟨rfl, rfl, rfl⟩ | ⟨x, rfl, hl, hm, hr⟩
  · exact ⟨[], rfl, fun i k t xs h => by simp at h⟩
  · have hex : ∀ r, ∃ s : Int × Int × List UInt8, r < len → ∃ (b o : Nat) (A : Option Addr) (c : Nat), some x = some ⟨b, o, none⟩ ∧ w.cell? ⟨b, o + r * 3, none⟩ = some (.int .i64 s.1) ∧ w.cell? ⟨b, o + r * 3 + 1, none⟩ = some (.int .i64 s.2.1) ∧ w.cell? ⟨b, o + r * 3 + 2, none⟩ = some (.slice A s.2.2.length c) ∧ RdB w A s.2.2.length s.2.2 := by
      intro r
      by_cases hrl : r < len
      · obtain ⟨k, t, A, L, C, Z, e0, e1, e2, hrow⟩ := hr r hrl
        obtain ⟨xs, hR, _⟩ := row_bytes hrow
        have hxl := hR.len
        subst hxl
        refine ⟨(k, t, xs), fun _ => ?_⟩
        obtain ⟨_, _, _, _, _, _, z0, _⟩ := hr 0 (by omega)
        have hsp : (x.add (0 * 3)).spot = none := World.cell?_spot z0
        obtain ⟨b, o, p⟩ := x
        have hp : p = none := hsp
        subst hp
        rw [ad_none] at e0 e1 e2
        exact ⟨b, o, A, C, rfl, e0, e1, e2, hR⟩
      · exact ⟨(0, 0, []), fun h => absurd h hrl⟩
    obtain ⟨f, hf⟩ := Classical.axiomOfChoice hex
    refine ⟨(List.range len).map f, by simp, fun i k t xs hi => ?_⟩
    rw [List.getElem?_map] at hi
    have hil : i < len := by
      rcases Nat.lt_or_ge i len with h | h
      · exact h
      · rw [List.getElem?_eq_none (by simpa using h)] at hi; cases hi
    rw [List.getElem?_range hil] at hi
    have hc := hf i hil
    simp only [Option.map_some, Option.some.injEq] at hi
    rw [hi] at hc
    exact hc
end Go.Proofs.Ytmdmhjcdaejlkaa
