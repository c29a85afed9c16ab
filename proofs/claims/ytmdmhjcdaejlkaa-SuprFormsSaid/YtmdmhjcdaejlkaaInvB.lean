/- What a region's operations may turn, in whatever order: marks of small blocks, and cells behind the first of them. -/
import Derived.Test.YtmdmhjcdaejlkaaInv
import Derived.Test.YtmdmhjcdaejlkaaSuprA
set_option linter.unusedVariables false
set_option linter.unusedSimpArgs false
namespace Go.Proofs.Ytmdmhjcdaejlkaa
open Go.RowKit

/-- below B nothing; of all blocks the first lim cells stay (all, where b is false), and their marks, but of those of at most sm cells -/
def RX (B sm lim : Nat) (b : Bool) (w w' : World) : Prop := Below B w w' ∧ ∀ (k : Nat) (C : Array Value) (e : TypeId) (fr : Nat × Nat), w.heap[k]? = some (.cells C e fr) →
  ∃ (C' : Array Value) (fr' : Nat × Nat), w'.heap[k]? = some (.cells C' e fr') ∧ C'.size = C.size ∧ (∀ j, j < lim ∨ b = false → C'[j]? = C[j]?) ∧ (fr' = fr ∨ C.size ≤ sm)
theorem RX.of_below {B sm lim : Nat} {b : Bool} {w w' : World} (h : Below w.heap.size w w') (hB : B ≤ w.heap.size) : RX B sm lim b w w' :=
  ⟨h.mono hB, fun k C e fr hk => ⟨C, fr, (h.block k (Array.getElem?_eq_some_iff.1 hk).1).trans hk, rfl, fun _ _ => rfl, .inl rfl⟩⟩
theorem RX.of_grown {B sm lim : Nat} {b : Bool} {w w' : World} (h : w.grownBy w' none) (hB : B ≤ w.heap.size) : RX B sm lim b w w' :=
  RX.of_below ⟨h.os, h.tape, h.output, h.size, fun k hk => h.block k hk (by simp)⟩ hB
theorem RX.freeze {B sm lim g k : Nat} {b : Bool} {w : World} {C : Array Value} {e : TypeId} {fr : Nat × Nat} (hg : B ≤ g) (h : w.heap[g]? = some (.cells C e fr)) (hs : C.size ≤ sm) : RX B sm lim b w (w.freeze ⟨g, k, none⟩ 1) := by
  unfold World.freeze
  rw [if_neg (by decide)]
  refine ⟨⟨rfl, rfl, rfl, by simp, fun i hi => ?_⟩, fun i C' e' fr' hi => ?_⟩
  · show (w.heap.modify g _)[i]? = _
    rw [Array.getElem?_modify]
    rw [if_neg (by omega)]
  · by_cases hgi : g = i
    · subst hgi
      rw [h] at hi
      cases hi
      obtain ⟨lo, hi⟩ := fr
      refine ⟨C, if lo == hi then (k, k + 1) else (min lo k, max hi (k + 1)), ?_, rfl, fun _ _ => rfl, .inr hs⟩
      show (w.heap.modify g _)[g]? = _
      rw [Array.getElem?_modify, if_pos rfl, h]
      rfl
    · refine ⟨C', fr', ?_, rfl, fun _ _ => rfl, .inl rfl⟩
      show (w.heap.modify g _)[i]? = _
      rw [Array.getElem?_modify, if_neg hgi]
      exact hi
theorem RX.set {B sm lim g j : Nat} {w : World} {v : Value} (hg : B ≤ g) (hj : lim ≤ j) : RX B sm lim true w (w.setCell ⟨g, j, none⟩ v) := by
  refine ⟨(Below.refl B w).setCell (p := ⟨g, j, none⟩) hg v, fun i C e fr hi => ?_⟩
  by_cases hgi : g = i
  · subst hgi
    refine ⟨C.setIfInBounds j v, fr, ?_, by simp, fun k hk => ?_, .inl rfl⟩
    · unfold World.setCell
      show (w.heap.modify g _)[g]? = _
      rw [Array.getElem?_modify, if_pos rfl, hi]
      rfl
    · rcases hk with hk | hk
      · rw [Array.getElem?_setIfInBounds_ne (by omega)]
      · cases hk
  · refine ⟨C, fr, ?_, rfl, fun _ _ => rfl, .inl rfl⟩
    rw [heap_setCell_other _ _ _ _ (Ne.symm hgi)]
    exact hi
theorem RX.rd {B sm lim : Nat} {b : Bool} {w w' : World} (h : RX B sm lim b w w') {A : Option Addr} {n : Nat} {xs : List UInt8} (hr : RdB w A n xs) (hl : ∀ ad, A = some ad → (ad.spot = none ∧ ad.off + n ≤ lim) ∨ b = false ∨ ad.block < B) : RdB w' A n xs := by
  refine ⟨hr.1, fun hn => ?_⟩
  obtain ⟨ad, e, hc⟩ := hr.2 hn
  refine ⟨ad, e, fun j v hj => ?_⟩
  have h0 := hc j v hj
  have hjn : j < n := by
    rw [← hr.1]
    rcases Nat.lt_or_ge j (bv xs).length with c | c
    · exact c
    · rw [List.getElem?_eq_none c] at hj; cases hj
  unfold World.cell? at h0 ⊢
  rcases hl ad e with hl | hl | hl
  all_goals
    cases hh : w.heap[(ad.add j).block]? with
    | none => rw [hh] at h0; cases h0
    | some o =>
      cases o with
      | cells C e fr =>
        first
          | (have hbl : (ad.add j).block < B := by rw [ad_block]; exact hl
             rw [h.1.block _ hbl, hh]; rw [hh] at h0; exact h0)
          | (rw [hh] at h0
             simp only at h0
             obtain ⟨C', fr', e1, e2, e3, e4⟩ := h.2 _ _ _ _ hh
             rw [e1]
             simp only
             split at h0
             · cases h0
             · rename_i hs
               rw [if_neg hs, e3 _ ?_]
               · exact h0
               · first
                   | exact .inr hl
                   | (left
                      obtain ⟨bb, oo, ss⟩ := ad
                      obtain ⟨hs0, hl⟩ := hl
                      cases hs0
                      rw [Addr.add_lit]
                      show oo + j < lim
                      have hl : oo + n ≤ lim := hl
                      omega))
      | _ => rw [hh] at h0; cases h0
theorem RX.own {B sm lim B0 : Nat} {b : Bool} {w w' : World} (h : RX B sm lim b w w') {v : Value} {xs : List UInt8} (ho : OwnB w B0 5 v xs) (hs : sm < xs.length) (hl : xs.length ≤ lim ∨ b = false) : OwnB w' B0 5 v xs := by
  refine ⟨ho.1, ?_⟩
  rcases ho.2 with ⟨e, h0⟩ | ⟨g, cap, cur, e, hg, hh, h1, h2, h3, h4⟩
  · exact absurd h0 (by omega)
  · obtain ⟨C', fr', e1, e2, e3, e4⟩ := h.2 _ _ _ _ hh
    rcases e4 with rfl | e4
    · refine .inr ⟨g, cap, C', e, hg, e1, h1, h2, e2.trans h3, ?_⟩
      rw [← h4]
      apply List.ext_getElem?
      intro j
      rw [List.getElem?_take, List.getElem?_take]
      split
      · rename_i hj
        rw [Array.getElem?_toList, Array.getElem?_toList]
        refine e3 j ?_
        rcases hl with hl | hl
        · left; omega
        · exact .inr hl
      · rfl
    · omega
/-- a literal's row, of no room, in a block of its own -/
def LitAt (B : Nat) (w : World) (v : Value) (xs : List UInt8) : Prop := ∃ (g : Nat) (fr : Nat × Nat), v = .slice (some ⟨g, 0, none⟩) xs.length xs.length ∧ B ≤ g ∧ w.heap[g]? = some (.cells (bv xs).toArray 5 fr)
theorem RX.lit {B sm lim B0 : Nat} {b : Bool} {w w' : World} (h : RX B sm lim b w w') {v : Value} {xs : List UInt8} (ho : LitAt B0 w v xs) (hl : xs.length ≤ lim ∨ b = false) : LitAt B0 w' v xs := by
  obtain ⟨g, fr, e, hg, hh⟩ := ho
  obtain ⟨C', fr', e1, e2, e3, e4⟩ := h.2 _ _ _ _ hh
  have : C' = (bv xs).toArray := by
    apply Array.ext_getElem?
    intro j
    rcases hl with hl | hl
    · rcases Nat.lt_or_ge j lim with c | c
      · exact e3 j (.inl c)
      · have s1 : (bv xs).toArray.size = xs.length := by rw [List.size_toArray, bv_length]
        rw [Array.getElem?_eq_none (by omega), Array.getElem?_eq_none (by omega)]
    · exact e3 j (.inr hl)
  subst this
  exact ⟨g, fr', e, hg, e1⟩
theorem LitAt.rd {B : Nat} {w : World} {v : Value} {xs : List UInt8} (h : LitAt B w v xs) : ∃ g, v = .slice (some ⟨g, 0, none⟩) xs.length xs.length ∧ B ≤ g ∧ RdB w (some ⟨g, 0, none⟩) xs.length xs := by
  obtain ⟨g, fr, e, hg, hh⟩ := h
  refine ⟨g, e, hg, by rw [bv_length], fun _ => ⟨_, rfl, fun j v hj => ?_⟩⟩
  rw [ad_none, Nat.zero_add]
  unfold World.cell?
  rw [show w.heap[(⟨g, j, none⟩ : Addr).block]? = _ from hh]
  simpa using hj
theorem LitAt.new {B : Nat} (w : World) (xs : List UInt8) (hB : B ≤ w.heap.size) : LitAt B (w.alloc (.cells (bv xs).toArray 5)) (.slice (some ⟨w.heap.size, 0, none⟩) xs.length xs.length) xs :=
  ⟨_, (0, 0), rfl, hB, heap_alloc_new w _⟩
/-- a conversion of a constant: its row is marked -/
theorem LitAt.conv {B sm lim : Nat} {b : Bool} {w : World} {v : Value} {xs : List UInt8} (h : LitAt B w v xs) (hs : xs.length ≤ sm) :
    ∃ w', (convert 24 24 v).run Try.prog w = .ok v w' ∧ LitAt B w' v xs ∧ RX B sm lim b w w' := by
  obtain ⟨g, fr, rfl, hg, hh⟩ := h
  have hsz : (bv xs).toArray.size = xs.length := by rw [List.size_toArray, bv_length]
  have hsh : w.shape? g = some (5, xs.length) := by
    unfold World.shape?
    rw [hh]
    show some (_, (bv xs).toArray.size) = _
    rw [hsz]
  have hx : RX B sm lim b w (w.freeze ⟨g, xs.length, none⟩ 1) := RX.freeze hg hh (by rw [hsz]; exact hs)
  have hx' : RX B xs.length xs.length b w (w.freeze ⟨g, xs.length, none⟩ 1) := RX.freeze hg hh (by rw [hsz]; exact Nat.le_refl _)
  refine ⟨w.freeze ⟨g, xs.length, none⟩ 1, ?_, hx'.lit ⟨g, fr, rfl, hg, hh⟩ (.inl (Nat.le_refl _)), hx⟩
  simp [convert, run_underlying Try.underlying24, run_underlying Try.underlying5, markStringish, hsh]
/-- bytes behind a literal: a new row -/
theorem lit_cat {B sm lim : Nat} {b : Bool} {W : World} {v : Value} {m c : Nat} {A : Option Addr} {xs ys : List UInt8} (h1 : LitAt B W v xs) (h2 : RdB W A m ys) (hn : 0 < xs.length) (hm : 0 < m) (hs : xs.length + m ≤ 1000000) (hB : B ≤ W.heap.size) :
    ∃ v' W', (Builtin.append_ #[24, 24] 24 #[v, .slice A m c]).run Try.prog W = .ok v' W' ∧ OwnB W' B 5 v' (xs ++ ys) ∧ RX B sm lim b W W' := by
  obtain ⟨g, rfl, hg, hr⟩ := h1.rd
  obtain ⟨i, hi, hz, hss, hby⟩ := info_parts8
  obtain ⟨ad0, e0, hc0⟩ := hr.2 hn
  cases e0
  obtain ⟨ad2, e2, hc2⟩ := h2.2 hm
  subst e2
  have l2 := h2.len
  obtain ⟨v, w3, hrun, ho3, hg3⟩ := run_append_arg_grows (P := Try.prog) (w := W) 24 24 5 i (.int .u8 0) 1 1 Try.underlying24 hi hz hss hby rfl (by decide) ⟨g, 0, none⟩ xs.length xs.length (bv xs) (by rw [bv_length]; omega) hc0 ad2 m c (bv ys) (by rw [bv_length]; omega) hc2 (by omega) (by unfold maxLen; omega) (by omega)
  refine ⟨v, w3, hrun, ?_, RX.of_grown hg3 hB⟩
  refine OwnB.mono (B := W.heap.size) ?_ hB
  unfold OwnB
  rw [bv_append, List.length_append, l2]
  exact ho3
/-- a byte behind bytes of one's own: a new row, or the cell behind them -/
theorem own_put {B sm lim : Nat} {W : World} {v : Value} {xs : List UInt8} {y : UInt8} {A : Option Addr} {c : Nat} (h1 : OwnB W B 5 v xs) (h2 : RdB W A 1 [y]) (hl : lim ≤ xs.length) (hn : 0 < xs.length) (hs : xs.length + 1 ≤ 1000000) (hB : B ≤ W.heap.size) :
    ∃ v' W', (Builtin.append_ #[24, 24] 24 #[v, .slice A 1 c]).run Try.prog W = .ok v' W' ∧ OwnB W' B 5 v' (xs ++ [y]) ∧ RX B sm lim true W W' := by
  obtain ⟨i, hi, hz, hss, hby⟩ := info_parts8
  obtain ⟨ad2, e2, hc2⟩ := h2.2 (by decide)
  subst e2
  have hrd : ∀ (A : Option Addr) (c' : Nat), v = .slice A xs.length c' → RdB W A xs.length xs := fun A c' e => by
    obtain ⟨A', c2, e', _, _, hr⟩ := h1.form
    rw [e] at e'
    cases e'
    exact hr
  rcases h1.2 with ⟨e, h0⟩ | ⟨g, cap, cur, e, hg, hh, q1, q2, q3, q4⟩
  · exact absurd h0 (by omega)
  · have hr := hrd _ _ e
    subst e
    obtain ⟨ad0, e0, hc0⟩ := hr.2 hn
    cases e0
    rcases Nat.lt_or_ge xs.length cap with hc | hc
    · have hcell : ∀ j, j < cap → (W.cell? ⟨g, j, none⟩).isSome = true := fun j hj => by
        unfold World.cell?
        rw [show W.heap[(⟨g, j, none⟩ : Addr).block]? = _ from hh]
        show (cur[j]?).isSome = true
        rw [Array.getElem?_eq_getElem (by omega)]
        rfl
      have hfz : ∀ j, W.frozen? ⟨g, j, none⟩ = false := fun j => by
        unfold World.frozen?
        rw [show W.heap[(⟨g, j, none⟩ : Addr).block]? = _ from hh]
        simp
      have hrun := run_append_room_cells (P := Try.prog) (w := W) 24 24 5 i Try.underlying24 hi g 0 xs.length cap ad2 1 c (bv [y]) (by rw [hss]; rfl) hc2 (bv_cells [y]) (by omega)
        (fun j hj => by rw [hss]; exact hcell _ (by simp [bv] at hj; omega)) (fun j _ => hfz _)
      refine ⟨_, _, hrun, ?_, ?_⟩
      · have hW : W.setCells g (0 + xs.length * i.size) (bv [y]) = W.setCell ⟨g, xs.length, none⟩ (.int .u8 (y.toNat : Int)) := by
          rw [hss]
          simp [bv, World.setCells]
        rw [hW]
        refine ⟨by simp [bv], .inr ⟨g, cap, cur.setIfInBounds xs.length (.int .u8 (y.toNat : Int)), by simp, hg, ?_, by simp; omega, q2, by simpa using q3, ?_⟩⟩
        · unfold World.setCell
          show (W.heap.modify g _)[g]? = _
          rw [Array.getElem?_modify, if_pos rfl, hh]
          rfl
        · apply List.ext_getElem?
          intro j
          rw [List.getElem?_take, Array.getElem?_toList]
          simp only [List.length_append, List.length_singleton, Nat.mul_one]
          have hq : ∀ j, j < xs.length → cur[j]? = (bv xs)[j]? := fun j hj => by
            rw [← q4, List.getElem?_take, if_pos (by omega), Array.getElem?_toList]
          rw [bv_append]
          split
          · rename_i hj
            rcases Nat.lt_or_ge j xs.length with c | c
            · rw [Array.getElem?_setIfInBounds_ne (by omega), hq j c, List.getElem?_append_left (by rw [bv_length]; exact c)]
            · have hjx : j = xs.length := by omega
              subst hjx
              rw [Array.getElem?_setIfInBounds_self_of_lt (by omega), List.getElem?_append_right (by rw [bv_length]; omega), bv_length, Nat.sub_self]
              rfl
          · rename_i hj
            rw [List.getElem?_eq_none (by rw [List.length_append, bv_length]; simp [bv]; omega)]
      · have hW : W.setCells g (0 + xs.length * i.size) (bv [y]) = W.setCell ⟨g, xs.length, none⟩ (.int .u8 (y.toNat : Int)) := by
          rw [hss]
          simp [bv, World.setCells]
        rw [hW]
        exact RX.set hg hl
    · obtain ⟨v, w3, hrun, ho3, hg3⟩ := run_append_arg_grows (P := Try.prog) (w := W) 24 24 5 i (.int .u8 0) 1 1 Try.underlying24 hi hz hss hby rfl (by decide) ⟨g, 0, none⟩ xs.length cap (bv xs) (by rw [bv_length]; omega) hc0 ad2 1 c (bv [y]) rfl hc2 (by omega) (by unfold maxLen; omega) (by omega)
      refine ⟨v, w3, hrun, ?_, RX.of_grown hg3 hB⟩
      refine OwnB.mono (B := W.heap.size) ?_ hB
      unfold OwnB
      rw [bv_append, List.length_append]
      exact ho3
theorem wp_appRun {o : Oper} {a : Act} {Q : Exit → Act → World → Prop} {K : Act → World → Prop} {W w1 : World} {s x : Operand} {v y v1 : Value} {t u : TypeId}
    (ho : o.op = .call { callee := .builtin .append, args := #[s, x], argTypes := #[t, u] }) (hs : a.eval s = v) (hx : a.eval x = y) (hrun : (Builtin.append_ #[t, u] o.type #[v, y]).run Try.prog W = .ok v1 w1)
    (hK : K (a.put o.dst v1) w1) : o.wp Try.prog a W K Q := by
  unfold Oper.wp execOp
  simp only [ho, resolve, invoke, builtin, Sem.run_bind, Sem.run_pure, Result.andThen_ok, List.map_toArray, List.map_cons, List.map_nil, hs, hx, hrun]
  exact hK
theorem wp_convRun {o : Oper} {a : Act} {Q : Exit → Act → World → Prop} {K : Act → World → Prop} {W w1 : World} {x : Operand} {v v1 : Value} {t u : TypeId}
    (ho : o.op = .convert t u x) (hx : a.eval x = v) (hrun : (convert t u v).run Try.prog W = .ok v1 w1) (hK : K (a.put o.dst v1) w1) : o.wp Try.prog a W K Q := by
  unfold Oper.wp execOp
  simp only [ho, Sem.run_bind, Sem.run_pure, Result.andThen_ok, hx, hrun]
  exact hK
end Go.Proofs.Ytmdmhjcdaejlkaa
