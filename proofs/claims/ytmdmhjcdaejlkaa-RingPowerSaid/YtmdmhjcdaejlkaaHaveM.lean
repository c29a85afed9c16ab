/- Rows of bytes gathered from what came in. -/
import Derived.Test.YtmdmhjcdaejlkaaGT
set_option linter.unusedVariables false
set_option linter.unusedSimpArgs false
namespace Go.Proofs.Ytmdmhjcdaejlkaa
open Go.RowKit

/-- bytes that came in: their block lies below -/
def LowAt (W : World) (base : Nat) (v : Value) (xs : List UInt8) : Prop := ∃ A d, v = .slice A xs.length d ∧ xs.length ≤ d ∧ RdB W A xs.length xs ∧ ∀ ad, A = some ad → 0 < xs.length → ad.block < base
theorem rd_base {W W' : World} {A : Option Addr} {n base : Nat} {xs : List UInt8} (h : RdB W A n xs) (hb : Below base W W') (hlow : ∀ ad, A = some ad → 0 < n → ad.block < base) : RdB W' A n xs := by
  refine ⟨h.1, fun h0 => ?_⟩
  obtain ⟨ad, e, hc⟩ := h.2 h0
  refine ⟨ad, e, fun j v hv => ?_⟩
  exact (hb.cell (p := ad.add j) (by rw [ad_block]; exact hlow ad e h0)).trans (hc j v hv)
theorem LowAt.base {W W' : World} {base : Nat} {v : Value} {xs : List UInt8} (h : LowAt W base v xs) (hb : Below base W W') : LowAt W' base v xs := by
  obtain ⟨A, d, e, l, r, hl⟩ := h
  exact ⟨A, d, e, l, rd_base r hb hl, hl⟩
def HaveM (W : World) (base B : Nat) (v : Value) (xss : List (List UInt8)) : Prop :=
  ∃ vs : List Value, vs.length = xss.length ∧ (∀ (j : Nat) (u : Value) (xs : List UInt8), vs[j]? = some u → xss[j]? = some xs → LowAt W base u xs) ∧ W.ownsRow B 24 1 v xss.length vs
variable {W W' : World} {base B : Nat} {v : Value} {xss : List (List UInt8)}
theorem HaveM.nil_ (W : World) (base B : Nat) : HaveM W base B (.slice none 0 0) [] := ⟨[], rfl, fun j u xs h => by simp at h, by simp, .inl ⟨rfl, rfl⟩⟩
theorem HaveM.form (h : HaveM W base B v xss) : ∃ A c, v = .slice A xss.length c := by
  obtain ⟨vs, -, -, h3⟩ := h
  obtain ⟨A, c, e, -, -⟩ := own_form h3
  exact ⟨A, c, e⟩
theorem row_type {W : World} {g : Nat} {c c' : Array Value} {T T' : TypeId} (h : Row W g c T) (h' : Row W g c' T') : T = T' := by
  have e := h.symm.trans h'
  simp only [Option.some.injEq, Obj.cells.injEq] at e
  exact e.2.1
theorem HaveM.px {X : List Nat} (h : HaveM W base B v xss) (hp : PX X base W W') (hX : ∀ x ∈ X, ∃ c T, Row W x c T ∧ T ≠ 24) : HaveM W' base B v xss := by
  obtain ⟨vs, h1, h2, h3⟩ := h
  refine ⟨vs, h1, fun j u xs hu hx => (h2 j u xs hu hx).base hp.1, h3.1, ?_⟩
  rcases h3.2 with h | ⟨g, cap, cur, hv, hg, hh, r⟩
  · exact .inl h
  · refine .inr ⟨g, cap, cur, hv, hg, hp.2 g cur 24 hh (by decide) (fun hx => ?_), r⟩
    obtain ⟨c, T, hr, hT⟩ := hX g hx
    exact hT (row_type hr hh)
theorem HaveM.below (h : HaveM W base B v xss) (hb : Below W.heap.size W W') (hbase : base ≤ W.heap.size) : HaveM W' base B v xss := h.px (PX.of_below (X := []) hb hbase) (fun x hx => by cases hx)
theorem HaveM.elem (h : HaveM W base B v xss) {j : Nat} {xs : List UInt8} (hx : xss[j]? = some xs) : ∃ g c A d, v = .slice (some ⟨g, 0, none⟩) xss.length c ∧ W.cell? ⟨g, j, none⟩ = some (.slice A xs.length d) ∧ xs.length ≤ d ∧ RdB W A xs.length xs := by
  obtain ⟨vs, h1, h2, h3⟩ := h
  have hj : j < xss.length := (List.getElem?_eq_some_iff.1 hx).1
  rcases h3.2 with ⟨_, h0⟩ | ⟨g, cap, cur, rfl, hg, hh, hn, hm, hs, ht⟩
  · omega
  · have hu : vs[j]? = some vs[j] := List.getElem?_eq_getElem (by omega)
    obtain ⟨A, d, e, l, r, -⟩ := h2 j _ xs hu hx
    have hc := World.ownsRow.cells h3 (g := g) rfl j _ hu
    rw [e] at hc
    rw [ad_none, Nat.zero_add] at hc
    exact ⟨g, cap, A, d, rfl, hc, l, r⟩
theorem wpl_pushH {ops : Array Oper} {rest : List Oper} {o : Oper} {a : Act} {Q : Exit → Act → World → Prop} {s x : Operand} {A : Option Addr} {n d : Nat} {xs : List UInt8} (hgd : o.guard = none)
    (ho : o.op = .call { callee := .builtin .append, args := #[s, x], argTypes := #[40, 40] }) (HO : HaveM W base B v xss) (hu : LowAt W base (.slice A n d) xs) (hs : a.eval s = v) (hx : a.eval x = .slice (some ⟨W.heap.size, 0, none⟩) 1 1)
    (hB : B ≤ W.heap.size) (hbB : base ≤ B) (hl : xss.length ≤ 1000000)
    (h : ∀ v1 w1, HaveM w1 base B v1 (xss ++ [xs]) → FR [24] [] base W w1 → Below B W w1 → wpList Try.prog ops Q rest (a.put o.dst v1) w1) :
    wpList Try.prog ops Q (o :: rest) a (W.alloc (.cells #[.slice A n d] 24)) := by
  obtain ⟨vs, h1, h2, h3⟩ := HO
  have hb0 := below_alloc (Below.refl W.heap.size W) (.cells #[.slice A n d] 24)
  have h3' := World.ownsRow.alloc h3 (.cells #[.slice A n d] 24)
  refine wpl_appOne (base := B) (v := v) (n := xss.length) (news := [.slice A n d]) hgd ho Try.underlying40 info_bytes rfl (by decide) (by decide) hs hx h3' rfl (fun j v hj => cell_one_new _ _ _ j v hj) (by simp [Value.oneCell']) hl (by simp; omega) ?_
  intro v1 w1 ho1 hg1
  have hfr : ∀ b', b' ≤ B → FR [24] [] b' W w1 := fun b' hb' => (FR.of_below hb0 (Nat.le_trans hb' hB)).trans (FR.of_own hg1 (own_mono h3' hb') (by simp) (by simp; omega))
  refine h v1 w1 ⟨vs ++ [.slice A n d], by simp [h1], fun j u ys hju hjx => ?_, by rw [List.length_append]; exact ho1⟩ (hfr base hbB) (hfr B (Nat.le_refl _)).dr.below
  rcases Nat.lt_or_ge j vs.length with hj | hj
  · rw [List.getElem?_append_left hj] at hju
    rw [List.getElem?_append_left (by omega)] at hjx
    exact (h2 j u ys hju hjx).base (hfr base hbB).dr.below
  · rw [List.getElem?_append_right hj] at hju
    rw [List.getElem?_append_right (by omega)] at hjx
    have e0 : j - vs.length = 0 := by
      rcases Nat.eq_zero_or_pos (j - vs.length) with h | h
      · exact h
      · rw [List.getElem?_eq_none (by simp; omega)] at hju; cases hju
    rw [e0] at hju
    rw [← h1, e0] at hjx
    cases hju
    cases hjx
    exact hu.base (hfr base hbB).dr.below
/-- texts of epochs whose last places are below i, and nothing else -/
structure Rq (key : List UInt8) (D : Dk) (i : Nat) : Prop where
  fr : Free D
  sz : D.size = ((80 : Nat) : Int)
  bl : D.blocks = 8
  old : ∀ j t, txA key D 2 j = some t → ∃ e x, e % 16 < i ∧ e < 18446744073709551616 ∧ t = rhL e j ++ x
/-- within epoch e: what was added stands, and behind it what is older -/
structure Rp (key : List UInt8) (D : Dk) (e : Nat) (L : List (List UInt8)) : Prop where
  fr : Free D
  sz : D.size = ((80 : Nat) : Int)
  bl : D.blocks = 8
  el : e < 18446744073709551616
  cur : ∀ j x, L[j]? = some x → txA key D 2 j = some (rhL e j ++ x)
  old : ∀ j t, L.length ≤ j → txA key D 2 j = some t → ∃ e' x, e' % 16 < e % 16 ∧ e' < 18446744073709551616 ∧ t = rhL e' j ++ x
theorem rq_new {key : List UInt8} (hb : openL key (List.replicate 80 0) = none) : Rq key (dkNew 8 80) 0 :=
  ⟨⟨rfl, rfl⟩, rfl, rfl, fun j t h => by
    have h2 := txA_fresh (key := key) (bl := 8) (s := 80) (by decide) hb 2 j
    simp only [show ((80 : Nat) : Int) = 80 from rfl] at h2
    rw [h2] at h; cases h⟩
theorem Rq.start {key : List UInt8} {D : Dk} {i e : Nat} (h : Rq key D i) (he : e < 18446744073709551616) (hi : e % 16 = i) : Rp key D e [] :=
  ⟨h.fr, h.sz, h.bl, he, fun j x hx => by simp at hx, fun j t _ ht => by rw [hi]; exact h.old j t ht⟩
theorem Rp.add {key : List UInt8} {D : Dk} {e : Nat} {L : List (List UInt8)} (h : Rp key D e L) (hn : L.length ≤ 5) (boot seq : Nat) (rec : List UInt8) (hr : fitsB (12 + rec.length) D.size = true) : Rp key (addWr D key boot seq 2 L.length e rec).flush e (L ++ [rec]) := by
  have hh : D.has ((2 + L.length : Nat) : Int) = true := has_true (by omega) (by rw [h.bl]; omega)
  have ht := fun i => txA_add (key := key) (boot := boot) (seq := seq) (at_ := 2) (n := L.length) (epoch := e) h.sz (by decide) hr hh i
  refine ⟨add_free h.fr, by rw [add_size]; exact h.sz, by rw [add_blocks]; exact h.bl, h.el, fun j x hj => ?_, fun j t hj htx => ?_⟩
  · rw [ht]
    rcases Nat.lt_or_ge j L.length with q | q
    · rw [List.getElem?_append_left q] at hj
      rw [if_neg (by omega)]
      exact h.cur j x hj
    · rw [List.getElem?_append_right q] at hj
      have e0 : j - L.length = 0 := by
        rcases Nat.eq_zero_or_pos (j - L.length) with h | h
        · exact h
        · rw [List.getElem?_eq_none (by simp; omega)] at hj; cases hj
      rw [e0] at hj
      cases hj
      rw [if_pos (by omega), show L.length = j by omega]
  · rw [List.length_append, List.length_singleton] at hj
    rw [ht, if_neg (by omega)] at htx
    exact h.old j t (by omega) htx
theorem Rp.load {key : List UInt8} {D : Dk} {e : Nat} {L : List (List UInt8)} (h : Rp key D e L) {size : Nat} (hs : L.length ≤ size) (hs5 : size ≤ 5) : loadN key D ((2 : Nat) : Int) e size = L := by
  have := load_pre (key := key) (D := D) (at_ := 2) (e := e) (l := L) (fun j x hj => by
    have hjl : j < L.length := (List.getElem?_eq_some_iff.1 hj).1
    rw [recA_tx, h.cur j x hj]
    exact (recN_rh h.el h.el (by omega) (by omega) _).trans (if_pos ⟨rfl, rfl⟩)) (by
      rw [recA_tx]
      cases hx : txA key D 2 L.length with
      | none => rfl
      | some t =>
        obtain ⟨e', x, h1, h2, rfl⟩ := h.old _ t (Nat.le_refl _) hx
        exact (recN_rh h2 h.el (by omega) (by omega) _).trans (if_neg (fun q => by have := q.1; subst this; omega))) size
  rw [this, List.take_of_length_le hs]
theorem Rp.other {key : List UInt8} {D : Dk} {e : Nat} {L : List (List UInt8)} (h : Rp key D e L) {e2 : Nat} (he2 : e2 < 18446744073709551616) (h16 : e2 % 16 = e % 16) (hne : e2 ≠ e) (size : Nat) : loadN key D ((2 : Nat) : Int) e2 size = [] := by
  have := load_pre (key := key) (D := D) (at_ := 2) (e := e2) (l := []) (fun j x hj => by simp at hj) (by
      rw [recA_tx]
      show (txA key D 2 0).bind _ = none
      cases hL : L[0]? with
      | some x =>
        rw [h.cur 0 x hL]
        exact (recN_rh h.el he2 (by decide) (by decide) _).trans (if_neg (fun q => hne q.1.symm))
      | none =>
        have hl0 : L.length ≤ 0 := by
          rcases Nat.eq_zero_or_pos L.length with q | q
          · omega
          · rw [List.getElem?_eq_getElem q] at hL; cases hL
        cases hx : txA key D 2 0 with
        | none => rfl
        | some t =>
          obtain ⟨e', x, h1, h2, rfl⟩ := h.old 0 t hl0 hx
          exact (recN_rh h2 he2 (by decide) (by decide) _).trans (if_neg (fun q => by have := q.1; subst this; omega))) size
  rw [this]; simp
theorem Rp.done {key : List UInt8} {D : Dk} {e : Nat} {L : List (List UInt8)} (h : Rp key D e L) : Rq key D (e % 16 + 1) := by
  refine ⟨h.fr, h.sz, h.bl, fun j t ht => ?_⟩
  rcases Nat.lt_or_ge j L.length with q | q
  · rw [h.cur j _ (List.getElem?_eq_getElem q)] at ht
    cases ht
    exact ⟨e, _, by omega, h.el, rfl⟩
  · obtain ⟨e', x, h1, h2, h3⟩ := h.old j t q ht
    exact ⟨e', x, by omega, h2, h3⟩
theorem Rp.reads {key : List UInt8} {D : Dk} {e : Nat} {L : List (List UInt8)} (h : Rp key D e L) (a : Int) (n : Nat) : Rp key (readsD D a n) e L :=
  ⟨h.fr.reads _ _, by rw [reads_size]; exact h.sz, by rw [reads_blocks]; exact h.bl, h.el, fun j x hx => by rw [txA_reads]; exact h.cur j x hx, fun j t hj ht => h.old j t hj (by rw [← txA_reads]; exact ht)⟩
end Go.Proofs.Ytmdmhjcdaejlkaa
