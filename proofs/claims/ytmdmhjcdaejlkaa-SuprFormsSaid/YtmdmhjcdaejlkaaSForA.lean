/- SuprForms: the row of texts, made in whatever order; plain facts. -/
import Derived.Test.YtmdmhjcdaejlkaaInvB
import Derived.Test.YtmdmhjcdaejlkaaMkB
import Derived.Test.YtmdmhjcdaejlkaaBlank10
import Derived.Test.YtmdmhjcdaejlkaaRow
import Derived.Test.YtmdmhjcdaejlkaaMask
import Derived.Lib.QuoteBits
set_option linter.unusedVariables false
set_option linter.unusedSimpArgs false
namespace Go.Proofs.Ytmdmhjcdaejlkaa
open Go.RowKit

/-- a slice that reads as these bytes -/
def RdV (w : World) (v : Value) (xs : List UInt8) : Prop := ∃ A n c, v = .slice A n c ∧ RdB w A n xs
theorem rdv_nil (w : World) : RdV w (.slice none 0 0) [] := ⟨none, 0, 0, rfl, by simp [bv], fun h => absurd h (by decide)⟩
theorem rdv_lit {B : Nat} {w : World} {v : Value} {xs : List UInt8} (h : LitAt B w v xs) : RdV w v xs := by
  obtain ⟨g, e, _, hr⟩ := h.rd
  exact ⟨_, _, _, e, hr⟩
theorem rdv_own {B : Nat} {w : World} {v : Value} {xs : List UInt8} (h : OwnB w B 5 v xs) : RdV w v xs := by
  obtain ⟨A, c, e, _, _, hr⟩ := h.form
  exact ⟨_, _, _, e, hr⟩
theorem rdv_rd {w : World} {A : Option Addr} {n c : Nat} {xs : List UInt8} (h : RdB w A n xs) : RdV w (.slice A n c) xs := ⟨_, _, _, rfl, h⟩
def RdVs (w : World) (vs : List Value) (xss : List (List UInt8)) : Prop := ∀ (k : Nat) (u : Value), vs[k]? = some u → ∃ xs, xss[k]? = some xs ∧ RdV w u xs
theorem rdv_cons {w : World} {v : Value} {xs : List UInt8} {vs : List Value} {xss : List (List UInt8)} (h : RdV w v xs) (hs : RdVs w vs xss) : RdVs w (v :: vs) (xs :: xss) := by
  intro k u hk
  cases k with
  | zero =>
    rw [List.getElem?_cons_zero] at hk
    cases hk
    exact ⟨xs, rfl, h⟩
  | succ k =>
    rw [List.getElem?_cons_succ] at hk
    exact hs k u hk
theorem rdvs_nil (w : World) : RdVs w [] [] := fun k u h => by simp at h
theorem RX.rdv {B sm lim : Nat} {w w' : World} (h : RX B sm lim false w w') {v : Value} {xs : List UInt8} (hr : RdV w v xs) : RdV w' v xs := by
  obtain ⟨A, n, c, e, hr⟩ := hr
  exact ⟨A, n, c, e, h.rd hr fun ad _ => .inr (.inl rfl)⟩
/-- a row of slices that read as these -/
def RowsAt (B : Nat) (w : World) (v : Value) (xss : List (List UInt8)) : Prop := ∃ (g : Nat) (vs : List Value), v = .slice (some ⟨g, 0, none⟩) xss.length xss.length ∧ B ≤ g ∧ Row w g vs.toArray 24 ∧ vs.length = xss.length ∧ RdVs w vs xss
theorem rows_new {B : Nat} (w : World) {vs : List Value} {xss : List (List UInt8)} (hB : B ≤ w.heap.size) (hl : vs.length = xss.length) (h : RdVs w vs xss) :
    RowsAt B (w.alloc (.cells vs.toArray 24)) (.slice (some ⟨w.heap.size, 0, none⟩) xss.length xss.length) xss :=
  ⟨_, vs, rfl, hB, Row.new w _ _, hl, fun k u hk => by
    obtain ⟨xs, e, A, n, c, e2, hr⟩ := h k u hk
    exact ⟨xs, e, A, n, c, e2, Rd.below hr (below_alloc (Below.refl _ _) _) (Nat.le_refl _)⟩⟩
theorem RX.rows {B sm lim B0 : Nat} {w w' : World} (h : RX B sm lim false w w') {v : Value} {xss : List (List UInt8)} (hr : RowsAt B0 w v xss) (hs : sm < xss.length) : RowsAt B0 w' v xss := by
  obtain ⟨g, vs, e, hg, hrow, hl, hv⟩ := hr
  obtain ⟨C', fr', e1, e2, e3, e4⟩ := h.2 _ _ _ _ hrow
  have : C' = vs.toArray := Array.ext_getElem? fun j => e3 j (.inr rfl)
  subst this
  rcases e4 with rfl | e4
  · exact ⟨g, vs, e, hg, e1, hl, fun k u hk => by
      obtain ⟨xs, e5, hx⟩ := hv k u hk
      exact ⟨xs, e5, h.rdv hx⟩⟩
  · rw [List.size_toArray] at e4
    omega
/-- the texts -/
def textsF (n n7 m : List UInt8) : List (List UInt8) := [[], [101, 112, 111, 99, 104], [101, 112, 111, 99, 104] ++ n7, [101, 112, 111, 99, 104] ++ n ++ [0], [69, 112, 111, 99, 104] ++ n, [101, 112, 111, 99, 104] ++ m, n, List.replicate 13 0]
theorem own_rd8 {w : World} {B c : Nat} {A : Option Addr} {m : List UInt8} (h : OwnB w B 5 (.slice A 8 c) m) (hm : m.length = 8) : RdB w A 8 m := by
  obtain ⟨A', c', e, _, _, hr⟩ := h.form
  rw [hm] at e hr
  cases e
  exact hr
/-- what holds of each operation's slot -/
def gSF (B : Nat) (A9 A5 : Option Addr) (c9 E : Nat) (n n7 m : List UInt8) : Nat → Value → World → Prop
  | 0, v, w => LitAt B w v [101, 112, 111, 99, 104]
  | 1, v, w => LitAt B w v [101, 112, 111, 99, 104]
  | 2, v, w => LitAt B w v [101, 112, 111, 99, 104]
  | 3, v, w => LitAt B w v [101, 112, 111, 99, 104]
  | 4, v, w => v = .slice A9 8 c9
  | 5, v, w => v = .slice A5 7 c9
  | 6, v, w => OwnB w B 5 v ([101, 112, 111, 99, 104] ++ n7)
  | 7, v, w => LitAt B w v [101, 112, 111, 99, 104]
  | 8, v, w => LitAt B w v [101, 112, 111, 99, 104]
  | 9, v, w => v = .slice A9 8 c9
  | 10, v, w => OwnB w B 5 v ([101, 112, 111, 99, 104] ++ n)
  | 11, v, w => LitAt B w v [0]
  | 12, v, w => OwnB w B 5 v ([101, 112, 111, 99, 104] ++ n ++ [0])
  | 13, v, w => LitAt B w v [69, 112, 111, 99, 104]
  | 14, v, w => LitAt B w v [69, 112, 111, 99, 104]
  | 15, v, w => v = .slice A9 8 c9
  | 16, v, w => OwnB w B 5 v ([69, 112, 111, 99, 104] ++ n)
  | 17, v, w => LitAt B w v [101, 112, 111, 99, 104]
  | 18, v, w => LitAt B w v [101, 112, 111, 99, 104]
  | 19, v, w => v = .int .u64 (E : Int)
  | 20, v, w => ∃ A c, v = .slice A 8 c ∧ OwnB w B 5 v m
  | 21, v, w => OwnB w B 5 v ([101, 112, 111, 99, 104] ++ m)
  | 22, v, w => v = .slice A9 8 c9
  | 23, v, w => OwnB w B 5 v (List.replicate 13 0)
  | 24, v, w => RowsAt B w v (textsF n n7 m)
  | 25, v, w => RowsAt B w v (textsF n n7 m)
  | _, _, _ => True
theorem gSF_st {B : Nat} {A9 A5 : Option Addr} {c9 E : Nat} {n n7 m : List UInt8} (hn : n.length = 8) (h7 : n7.length = 7) (hm : m.length = 8) {w w' : World} {v : Value} {j : Nat} (b : Bool) (hb : b = true → j ≠ 12 ∧ j ≠ 24 ∧ j ≠ 25) (hR : RX B 5 13 b w w')
    (hG : gSF B A9 A5 c9 E n n7 m j v w) : gSF B A9 A5 c9 E n n7 m j v w' := by
  have hbf : ∀ k, (k = 12 ∨ k = 24 ∨ k = 25) → j = k → b = false := fun k hk hj => by
    cases b with
    | false => rfl
    | true => obtain ⟨h1, h2, h3⟩ := hb rfl; omega
  rcases (show j = 0 ∨ j = 1 ∨ j = 2 ∨ j = 3 ∨ j = 4 ∨ j = 5 ∨ j = 6 ∨ j = 7 ∨ j = 8 ∨ j = 9 ∨ j = 10 ∨ j = 11 ∨ j = 12 ∨ j = 13 ∨ j = 14 ∨ j = 15 ∨ j = 16 ∨ j = 17 ∨ j = 18 ∨ j = 19 ∨ j = 20 ∨ j = 21 ∨ j = 22 ∨ j = 23 ∨ j = 24 ∨ j = 25 ∨ 26 ≤ j by omega) with rfl | rfl | rfl | rfl | rfl | rfl | rfl | rfl | rfl | rfl | rfl | rfl | rfl | rfl | rfl | rfl | rfl | rfl | rfl | rfl | rfl | rfl | rfl | rfl | rfl | rfl | hj
  case' inr.inr.inr.inr.inr.inr.inr.inr.inr.inr.inr.inr.inl => obtain rfl := hbf 12 (by decide) rfl; exact hR.own hG (by simp [hn]) (.inr rfl)
  case' inr.inr.inr.inr.inr.inr.inr.inr.inr.inr.inr.inr.inr.inr.inr.inr.inr.inr.inr.inr.inr.inr.inr.inr.inl => obtain rfl := hbf 24 (by decide) rfl; exact hR.rows hG (by simp [textsF])
  case' inr.inr.inr.inr.inr.inr.inr.inr.inr.inr.inr.inr.inr.inr.inr.inr.inr.inr.inr.inr.inr.inr.inr.inr.inr.inl => obtain rfl := hbf 25 (by decide) rfl; exact hR.rows hG (by simp [textsF])
  all_goals first
    | exact hG
    | exact hR.lit hG (.inl (by decide))
    | exact hR.own hG (by simp [hn, h7, hm]) (.inl (by simp [hn, h7, hm]))
    | (obtain ⟨A, c, e, ho⟩ := hG; exact ⟨A, c, e, hR.own ho (by simp [hm]) (.inl (by simp [hm]))⟩)
    | (match j, hj with
        | k + 26, _ => exact trivial)
end Go.Proofs.Ytmdmhjcdaejlkaa
