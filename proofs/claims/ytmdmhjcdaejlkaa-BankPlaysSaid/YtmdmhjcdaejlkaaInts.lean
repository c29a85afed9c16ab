/- Ints of the call's own; a slice that reads as ints. -/
import Derived.Test.YtmdmhjcdaejlkaaProg
import Derived.Test.YtmdmhjcdaejlkaaMem
import Derived.OwnWalk
set_option linter.unusedVariables false
set_option linter.unusedSimpArgs false
namespace Go.Proofs.Ytmdmhjcdaejlkaa
open Go.RowKit

def iv (xs : List Int) : List Value := xs.map (.int .i64)
theorem iv_length (xs : List Int) : (iv xs).length = xs.length := by simp [iv]
theorem iv_append (xs ys : List Int) : iv (xs ++ ys) = iv xs ++ iv ys := by simp [iv]
theorem iv_get (xs : List Int) (j : Nat) : (iv xs)[j]? = xs[j]?.map (.int .i64) := by simp [iv]
theorem Rd.int_at {w : World} {A : Option Addr} {n : Nat} {xs : List Int} (h : Rd w A n (iv xs)) {j : Nat} (hj : j < n) :
    ∃ ad, A = some ad ∧ w.cell? (ad.add j) = some (.int .i64 (xs[j]?.getD 0)) := by
  obtain ⟨ad, v, e, hv, hc⟩ := Rd.at_ h hj
  refine ⟨ad, e, ?_⟩
  rw [iv_get] at hv
  cases hx : xs[j]? with
  | none => rw [hx] at hv; cases hv
  | some b => rw [hx] at hv; cases hv; exact hc
theorem Rd.int_cell {w : World} {ad : Addr} {n : Nat} {xs : List Int} (h : Rd w (some ad) n (iv xs)) {j : Nat} (hj : j < n) : w.cell? (ad.add j) = some (.int .i64 (xs[j]?.getD 0)) := by
  obtain ⟨ad', e, hc⟩ := h.int_at hj
  cases e
  exact hc
theorem Rd.drew {w : World} {A : Option Addr} {n q : Nat} {vs : List Value} (h : Rd w A n vs) : Rd (w.drewN q) A n vs := h.keep fun _ _ _ _ => rfl
/-- one byte of the call's own turned -/
theorem OwnB.set {w : World} {B : Nat} {e : TypeId} {g n c : Nat} {xs : List UInt8} (h : OwnB w B e (.slice (some ⟨g, 0, none⟩) n c) xs) {k : Nat} (hk : k < xs.length) (y : UInt8) :
    OwnB (w.setCell ⟨g, k, none⟩ (.int .u8 (y.toNat : Int))) B e (.slice (some ⟨g, 0, none⟩) n c) (xs.set k y) := by
  rcases h.2 with ⟨h0, _⟩ | ⟨g', cap, cur, hv, hB, hh, h1, h2, h3, h4⟩
  · cases h0
  · simp only [Value.slice.injEq, Option.some.injEq, Addr.mk.injEq, and_true] at hv
    obtain ⟨rfl, rfl, rfl⟩ := hv
    refine ⟨by simp [bv_length], .inr ⟨g, c, cur.setIfInBounds k (.int .u8 (y.toNat : Int)), by rw [List.length_set], hB, heap_setCell_same _ _ _ _ _ _ hh, by rw [List.length_set]; exact h1, h2, by simp [h3], ?_⟩⟩
    rw [List.length_set, Array.toList_setIfInBounds, List.take_set, h4]
    simp [bv, List.map_set]
theorem OwnB.cell {w : World} {B : Nat} {e : TypeId} {g n c : Nat} {xs : List UInt8} (h : OwnB w B e (.slice (some ⟨g, 0, none⟩) n c) xs) {k : Nat} (hk : k < xs.length) : w.cell? ⟨g, k, none⟩ = some (.int .u8 ((xs[k]?.getD 0).toNat : Int)) ∧ w.frozen? ⟨g, k, none⟩ = false := by
  rcases h.2 with ⟨h0, _⟩ | ⟨g', cap, cur, hv, hB, hh, h1, h2, h3, h4⟩
  · cases h0
  · simp only [Value.slice.injEq, Option.some.injEq, Addr.mk.injEq, and_true] at hv
    obtain ⟨rfl, rfl, rfl⟩ := hv
    refine ⟨?_, frozen_of_row _ _ _ _ _ hh⟩
    rw [cell_of_row _ _ _ _ _ _ hh, ← Array.getElem?_toList]
    have e2 : (cur.toList.take (xs.length * 1))[k]? = (bv xs)[k]? := by rw [h4]
    rw [List.getElem?_take, if_pos (by omega), bv_get, List.getElem?_eq_getElem hk] at e2
    rw [e2, List.getElem?_eq_getElem hk]
    rfl
theorem OwnB.at_ {w : World} {B : Nat} {e : TypeId} {A : Option Addr} {n c : Nat} {xs : List UInt8} (h : OwnB w B e (.slice A n c) xs) (h0 : 0 < xs.length) : ∃ g, A = some ⟨g, 0, none⟩ ∧ B ≤ g ∧ n = xs.length := by
  rcases h.2 with ⟨_, h1⟩ | ⟨g', cap, cur, hv, hB, hh, h1, h2, h3, h4⟩
  · omega
  · simp only [Value.slice.injEq] at hv
    exact ⟨g', hv.1, hB, hv.2.1⟩
end Go.Proofs.Ytmdmhjcdaejlkaa
