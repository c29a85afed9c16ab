/- Frame by type: what an operation on the device leaves as it was. -/
import Derived.Test.YtlbpmboknmbcgaaMapI
set_option linter.unusedVariables false
set_option linter.unusedSimpArgs false
namespace Go.Proofs.Ytlbpmboknmbcgaa
open Go.RowKit

/-- below block 'base' all is as it was; of the blocks that there were, those whose elements are of no type in S -/
structure DR (S : List TypeId) (base : Nat) (W W' : World) : Prop where
  below : Below base W W'
  typ : ∀ (k : Nat) (c : Array Value) (T : TypeId) (fr : Nat × Nat), W.heap[k]? = some (.cells c T fr) → T ∉ S → W'.heap[k]? = some (.cells c T fr)
theorem DR.refl (S : List TypeId) (base : Nat) (W : World) : DR S base W W := ⟨Below.refl _ _, fun _ _ _ _ h _ => h⟩
theorem DR.trans {S : List TypeId} {base : Nat} {a b c : World} (h1 : DR S base a b) (h2 : DR S base b c) : DR S base a c :=
  ⟨h1.below.trans h2.below, fun k x T fr h hT => h2.typ k x T fr (h1.typ k x T fr h hT) hT⟩
theorem wayD (S : List TypeId) (base : Nat) : Way (DR S base) := ⟨DR.refl S base, DR.trans, fun w => ⟨(Below.refl _ w).drew, fun _ _ _ _ h _ => h⟩⟩
theorem DR.less {S S' : List TypeId} {base : Nat} {W W' : World} (h : DR S base W W') (hS : ∀ T ∈ S, T ∈ S') : DR S' base W W' :=
  ⟨h.below, fun k c T fr hk hT => h.typ k c T fr hk (fun hm => hT (hS T hm))⟩
theorem DR.of_below {S : List TypeId} {base : Nat} {W W' : World} (h : Below W.heap.size W W') (hb : base ≤ W.heap.size) : DR S base W W' :=
  ⟨h.mono hb, fun k c T fr hk _ => (h.block k (Array.getElem?_eq_some_iff.1 hk).1).trans hk⟩
theorem DR.drew {S : List TypeId} {base : Nat} {W W' : World} (h : DR S base W W') : DR S base W W'.drew := h.trans ((wayD S base).drew W')
theorem DR.alloc {S : List TypeId} {base : Nat} {W W' : World} (h : DR S base W W') (hb : base ≤ W'.heap.size) (o : Obj) : DR S base W (W'.alloc o) :=
  h.trans (DR.of_below (below_alloc (Below.refl _ _) _) hb)
/-- one block turned, whose elements are of a type in S -/
theorem DR.of_upd {S : List TypeId} {base g : Nat} {c old : Array Value} {T : TypeId} {W W' : World} (hu : Upd g c T W W') (hr : Row W g old T) (hT : T ∈ S) (hb : base ≤ g) : DR S base W W' :=
  ⟨hu.below hb, fun k x U fr hk hU => by
    by_cases e : k = g
    · subst e
      have := hr.symm.trans hk
      simp at this
      exact absurd hT (this.2.1 ▸ hU)
    · exact (hu.rest k e).trans hk⟩
theorem upd_cell {W : World} {g j : Nat} {c : Array Value} {T : TypeId} (hr : Row W g c T) (v : Value) : Upd g (c.setIfInBounds j v) T W (W.setCell ⟨g, j, none⟩ v) :=
  ⟨hr.set j v, fun k hk => heap_setCell_other _ _ _ _ hk, by simp, rfl, rfl, rfl⟩
theorem DR.of_set {S : List TypeId} {base g : Nat} {c : Array Value} {T : TypeId} {W : World} (hr : Row W g c T) (hT : T ∈ S) (hb : base ≤ g) (j : Nat) (v : Value) : DR S base W (W.setCell ⟨g, j, none⟩ v) :=
  DR.of_upd (upd_cell hr v) hr hT hb
/-- a map's block turned -/
theorem DR.of_map {S : List TypeId} {base b : Nat} {W W' : World} (hg : W.grownBy W' (some b)) (hm : ∃ es cl, W.heap[b]? = some (.map es cl)) (hb : base ≤ b) : DR S base W W' :=
  ⟨⟨hg.os, hg.tape, hg.output, hg.size, fun k hk => hg.block k (Nat.lt_of_lt_of_le (Nat.lt_of_lt_of_le hk hb) (Nat.le_of_lt (by obtain ⟨es, cl, h⟩ := hm; exact (Array.getElem?_eq_some_iff.1 h).1))) (fun e => by cases e; omega)⟩,
   fun k c T fr hk _ => (hg.block k (Array.getElem?_eq_some_iff.1 hk).1 (fun e => by cases e; obtain ⟨es, cl, h⟩ := hm; rw [h] at hk; cases hk)).trans hk⟩
/-- a row of the call's own turned, or grown -/
theorem DR.of_own {S : List TypeId} {base n : Nat} {e : TypeId} {size : Nat} {v : Value} {xs : List Value} {W W' : World} (hg : W.grownBy W' v.ownBlock) (ho : W.ownsRow base e size v n xs) (hT : e ∈ S) (hb : base ≤ W.heap.size) : DR S base W W' := by
  rcases ho.2 with ⟨rfl, _⟩ | ⟨g, cap, cur, rfl, hbg, hh, _⟩
  · refine ⟨⟨hg.os, hg.tape, hg.output, hg.size, fun k hk => hg.block k (by omega) (by simp [Value.ownBlock])⟩, fun k c T fr hk _ => (hg.block k (Array.getElem?_eq_some_iff.1 hk).1 (by simp [Value.ownBlock])).trans hk⟩
  · refine ⟨⟨hg.os, hg.tape, hg.output, hg.size, fun k hk => hg.block k (by omega) (fun e => by simp [Value.ownBlock] at e; omega)⟩, fun k c T fr hk hU => ?_⟩
    by_cases ek : k = g
    · subst ek
      rw [hh] at hk
      simp at hk
      exact absurd hT (hk.2.1 ▸ hU)
    · exact (hg.block k (Array.getElem?_eq_some_iff.1 hk).1 (fun e => by simp [Value.ownBlock] at e; exact ek e)).trans hk

/-- bytes that stay: they lie below 'base', or in a block of bytes -/
def BytesAt (W : World) (base : Nat) (v : Value) (xs : List UInt8) : Prop :=
  ∃ A c, v = .slice A xs.length c ∧ xs.length ≤ c ∧ c ≤ maxLen ∧ RdB W A xs.length xs ∧ ∀ ad, A = some ad → 0 < xs.length → ad.block < base ∨ ∃ cs fr, W.heap[ad.block]? = some (.cells cs 5 fr)
theorem BytesAt.keep {S : List TypeId} {base : Nat} {W W' : World} {v : Value} {xs : List UInt8} (h : BytesAt W base v xs) (hd : DR S base W W') (hS : 5 ∉ S) : BytesAt W' base v xs := by
  obtain ⟨A, c, rfl, h1, h2, hr, hb⟩ := h
  refine ⟨A, c, rfl, h1, h2, hr.keep fun ad e j hj => ?_, fun ad e h0 => ?_⟩
  · have hblk : W'.heap[ad.block]? = W.heap[ad.block]? := by
      rcases hb ad e (by omega) with h | ⟨cs, fr, h⟩
      · exact hd.below.block _ h
      · rw [hd.typ _ _ _ _ h hS, h]
    unfold World.cell?
    rw [ad_block, hblk]
  · rcases hb ad e h0 with h | ⟨cs, fr, h⟩
    · exact .inl h
    · exact .inr ⟨cs, fr, hd.typ _ _ _ _ h hS⟩
theorem BytesAt.nil_ (W : World) (base : Nat) : BytesAt W base (.slice none 0 0) [] := ⟨none, 0, rfl, Nat.le_refl _, Nat.zero_le _, Rd.nil_ _ _, fun ad h => by cases h⟩
theorem BytesAt.of_own {W : World} {B base : Nat} {v : Value} {xs : List UInt8} (h : OwnB W B 5 v xs) : BytesAt W base v xs := by
  obtain ⟨A, c, rfl, h1, h2, hr⟩ := h.form
  refine ⟨A, c, rfl, h1, h2, hr, fun ad e h0 => ?_⟩
  rcases h.2 with ⟨_, h0'⟩ | ⟨g, cap, cur, hv, _, hh, _⟩
  · omega
  · simp only [Value.slice.injEq] at hv
    obtain ⟨hA, _⟩ := hv
    rw [hA] at e
    cases e
    exact .inr ⟨_, _, hh⟩
theorem BytesAt.up {W : World} {base base' : Nat} {v : Value} {xs : List UInt8} (h : BytesAt W base v xs) (hb : base ≤ base') : BytesAt W base' v xs := by
  obtain ⟨A, c, rfl, h1, h2, hr, hq⟩ := h
  exact ⟨A, c, rfl, h1, h2, hr, fun ad e h0 => (hq ad e h0).imp (fun h => by omega) id⟩
end Go.Proofs.Ytlbpmboknmbcgaa
