/- A region that draws its order: the readers first, then what may come up, by a tree of orders, in any relation between the worlds. -/
import Derived.Test.YtlbpmboknmbcgaaRw
set_option linter.unusedVariables false
set_option linter.unusedSimpArgs false
namespace Go.Proofs.Ytlbpmboknmbcgaa
open Go.RowKit

/-- a tree of orders: a reader ahead; the one that may come up; one of two; a narrower relation from here on -/
inductive OT where
  | nil
  | take (i : Nat) (t : OT)
  | one (i : Nat) (t : OT)
  | two (i : Nat) (t : OT) (j : Nat) (s : OT)
  | sw (R : World → World → Prop) (t : OT)
def okOT (ops : Array Oper) : OT → Nat → Array Bool → Bool
  | .nil, 0, listed => (Region.ready .any ops listed).isEmpty
  | .take i t, n + 1, listed => (Region.ready .any ops listed).contains i && Region.free .any ops listed i && okOT ops t n (listed.setIfInBounds i true)
  | .one i t, n + 1, listed => Region.ready .any ops listed == [i] && okOT ops t n (listed.setIfInBounds i true)
  | .two i t j s, n + 1, listed => Region.ready .any ops listed == [i, j] && okOT ops t n (listed.setIfInBounds i true) && okOT ops s n (listed.setIfInBounds j true)
  | .sw _ t, n, listed => okOT ops t n listed
  | _, _, _ => false
section
variable (P : Program) (ops : Array Oper) (Q : Exit → Act → World → Prop)
def LinT : (World → World → Prop) → OT → Act → World → Prop
  | _, .nil, a, w => Q .normal a w
  | R, .take i t, a, w => ∃ o v, ops[i]? = some o ∧ YieldsIf P ops (fun w' => R w w') o v a ∧ LinT R t (a.put o.dst v) w
  | R, .one i t, a, w => wpOp P ops Q i (fun a' w' => R w w' ∧ LinT R t a' w') a w
  | R, .two i t j s, a, w => wpOp P ops Q i (fun a' w' => R w w' ∧ LinT R t a' w') a w ∧ wpOp P ops Q j (fun a' w' => R w w' ∧ LinT R s a' w') a w
  | R, .sw R' t, a, w => Way R' ∧ (∀ w w', R' w w' → R w w') ∧ LinT R' t a w
end
section
variable {P : Program} {R : World → World → Prop} {ops : Array Oper} {Q : Exit → Act → World → Prop}
theorem held_of_linT (hs : Region.noSelect ops = true) (hQ : ∀ c a d v w, Q (.panic c) (Act.put a (some d) v) w → Q (.panic c) a w) :
    ∀ (σ : OT) (R : World → World → Prop) (HR : Way R) (n : Nat) (listed : Array Bool) (a : Act) (w : World), okOT ops σ n listed = true → LinT P ops Q R σ a w → wpAnyH P .any ops Q (fun w' => R w w') n listed a w
  | .nil, R, HR, 0, listed, a, w, ho, h => wpAnyH_done (by simpa [okOT] using ho) h _
  | .take i t, R, HR, n + 1, listed, a, w, ho, h => by
    simp only [okOT, Bool.and_eq_true] at ho
    obtain ⟨o, v, hi, hy, hr⟩ := h
    refine wpAnyH_take hi hs ho.1.2 ho.1.1 (fun c a w => ?_) hy (HR.refl _) (held_of_linT hs hQ t R HR n _ _ _ ho.2 hr)
    cases o.dst with
    | none => exact fun h => h
    | some d => exact hQ c a d v w
  | .one i t, R, HR, n + 1, listed, a, w, ho, h => by
    simp only [okOT, Bool.and_eq_true, beq_iff_eq] at ho
    refine wpAnyH_all ho.1 (by simp) fun j hj => ?_
    simp only [List.mem_singleton] at hj
    subst hj
    refine wpOp_mono (fun a' w' h' => ⟨h'.1, ?_⟩) h
    exact held_weaken (fun W hW => HR.trans h'.1 hW) _ _ _ _ (held_of_linT hs hQ t R HR n _ _ _ ho.2 h'.2)
  | .two i t j s, R, HR, n + 1, listed, a, w, ho, h => by
    simp only [okOT, Bool.and_eq_true, beq_iff_eq] at ho
    refine wpAnyH_all ho.1.1 (by simp) fun k hk => ?_
    simp only [List.mem_cons, List.not_mem_nil, or_false] at hk
    rcases hk with rfl | rfl
    · refine wpOp_mono (fun a' w' h' => ⟨h'.1, ?_⟩) h.1
      exact held_weaken (fun W hW => HR.trans h'.1 hW) _ _ _ _ (held_of_linT hs hQ t R HR n _ _ _ ho.1.2 h'.2)
    · refine wpOp_mono (fun a' w' h' => ⟨h'.1, ?_⟩) h.2
      exact held_weaken (fun W hW => HR.trans h'.1 hW) _ _ _ _ (held_of_linT hs hQ s R HR n _ _ _ ho.2 h'.2)
  | .sw R' t, R, HR, n, listed, a, w, ho, h => by
    rw [okOT] at ho
    exact held_weaken (fun W hW => h.2.1 _ _ hW) _ _ _ _ (held_of_linT hs hQ t R' h.1 n listed a w ho h.2.2)
  | .nil, _, _, _ + 1, _, _, _, ho, _ => by simp [okOT] at ho
  | .take _ _, _, _, 0, _, _, _, ho, _ => by simp [okOT] at ho
  | .one _ _, _, _, 0, _, _, _, ho, _ => by simp [okOT] at ho
  | .two _ _ _ _, _, _, 0, _, _, _, ho, _ => by simp [okOT] at ho
theorem wp_region_linT (R : World → World → Prop) (HR : Way R) (σ : OT) {id : Nat} {a : Act} {w : World} (hm : P.follows .mixedOrders = true) (hs : Region.noSelect ops = true)
    (hok : okOT ops σ ops.size (Array.replicate ops.size false) = true) (hQ : ∀ c a d v w, Q (.panic c) (Act.put a (some d) v) w → Q (.panic c) a w)
    (h : LinT P ops Q R σ a w.drew) : (Code.region id ops true).wp P Q a w :=
  wp_region_held_drew (S := fun w' => R w w') hm (HR.drew w) fun _ => by
    have := held_of_linT hs hQ σ R HR _ _ _ _ hok h
    exact held_weaken (fun W hW => HR.trans (HR.drew w) hW) _ _ _ _ this
theorem linT_take {i : Nat} {t : OT} {a : Act} {w : World} {o : Oper} {v : Value} (hi : ops[i]? = some o) (hw : Region.wanted o (yielded ops a.tmps) = true)
    (hy : ∀ w', R w w' → (execOp a.eval o).run P w' = .ok (.value v) w') (h : LinT P ops Q R t (a.put o.dst v) w) : LinT P ops Q R (.take i t) a w :=
  ⟨o, v, hi, .inl ⟨hw, hy⟩, h⟩
theorem linT_skip {i : Nat} {t : OT} {a : Act} {w : World} {o : Oper} (hi : ops[i]? = some o) (hw : Region.wanted o (yielded ops a.tmps) = false)
    (h : LinT P ops Q R t (a.put o.dst undef) w) : LinT P ops Q R (.take i t) a w :=
  ⟨o, undef, hi, .inr ⟨hw, rfl⟩, h⟩
theorem linT_op {i : Nat} {t : OT} {a : Act} {w : World} {o : Oper} (hi : ops[i]? = some o) (hw : Region.wanted o (yielded ops a.tmps) = true)
    (h : ∀ K : Act → World → Prop, (∀ a' w', R w w' → LinT P ops Q R t a' w' → K a' w') → o.wp P a w K Q) : wpOp P ops Q i (fun a' w' => R w w' ∧ LinT P ops Q R t a' w') a w := by
  unfold wpOp
  simp only [hi, hw, if_true]
  exact .inl (h _ fun a' w' h1 h2 => ⟨h1, h2⟩)
theorem linT_pass (HR : Way R) {i : Nat} {t : OT} {a : Act} {w : World} {o : Oper} (hi : ops[i]? = some o) (hw : Region.wanted o (yielded ops a.tmps) = false)
    (h : LinT P ops Q R t (a.put o.dst undef) w) : wpOp P ops Q i (fun a' w' => R w w' ∧ LinT P ops Q R t a' w') a w := by
  unfold wpOp
  simp only [hi, hw, Bool.false_eq_true, if_false]
  exact ⟨HR.refl _, h⟩
theorem linT_one {i : Nat} {t : OT} {a : Act} {w : World} (h : wpOp P ops Q i (fun a' w' => R w w' ∧ LinT P ops Q R t a' w') a w) : LinT P ops Q R (.one i t) a w := h
theorem linT_two {i j : Nat} {t s : OT} {a : Act} {w : World} (h : wpOp P ops Q i (fun a' w' => R w w' ∧ LinT P ops Q R t a' w') a w) (h' : wpOp P ops Q j (fun a' w' => R w w' ∧ LinT P ops Q R s a' w') a w) :
    LinT P ops Q R (.two i t j s) a w := ⟨h, h'⟩
theorem linT_sw {R' : World → World → Prop} {t : OT} {a : Act} {w : World} (HR : Way R') (hR : ∀ w w', R' w w' → R w w') (h : LinT P ops Q R' t a w) : LinT P ops Q R (.sw R' t) a w := ⟨HR, hR, h⟩
theorem linT_end {a : Act} {w : World} (h : Q .normal a w) : LinT P ops Q R .nil a w := h
end

/-- but for the blocks S, all that there was is as it was; and so are the cells L -/
structure RC (S : List Nat) (L : List Addr) (w w' : World) : Prop where
  os : w'.os = w.os
  tape : w'.tape = w.tape
  output : w'.output = w.output
  size : w.heap.size ≤ w'.heap.size
  block : ∀ k, k < w.heap.size → k ∉ S → w'.heap[k]? = w.heap[k]?
  cells : ∀ a ∈ L, w'.cell? a = w.cell? a
theorem RC.refl (S : List Nat) (L : List Addr) (w : World) : RC S L w w := ⟨rfl, rfl, rfl, Nat.le_refl _, fun _ _ _ => rfl, fun _ _ => rfl⟩
theorem RC.trans {S : List Nat} {L : List Addr} {a b c : World} (h1 : RC S L a b) (h2 : RC S L b c) : RC S L a c :=
  ⟨h2.os.trans h1.os, h2.tape.trans h1.tape, h2.output.trans h1.output, Nat.le_trans h1.size h2.size, fun k hk hn => (h2.block k (Nat.lt_of_lt_of_le hk h1.size) hn).trans (h1.block k hk hn), fun x hx => (h2.cells x hx).trans (h1.cells x hx)⟩
theorem wayC (S : List Nat) (L : List Addr) : Way (RC S L) := ⟨RC.refl S L, RC.trans, fun w => ⟨rfl, rfl, rfl, Nat.le_refl _, fun _ _ _ => rfl, fun _ _ => rfl⟩⟩
theorem rc_below {S : List Nat} {L : List Addr} {w w' : World} (hb : Below w.heap.size w w') (hL : ∀ a ∈ L, a.block < w.heap.size) : RC S L w w' :=
  ⟨hb.os, hb.tape, hb.output, hb.size, fun k hk _ => hb.block k hk, fun a ha => hb.cell (hL a ha)⟩
theorem rc_alloc {S : List Nat} {L : List Addr} (w : World) (o : Obj) (hL : ∀ a ∈ L, a.block < w.heap.size) : RC S L w (w.alloc o) := rc_below (below_alloc (Below.refl _ _) _) hL
theorem rc_set {S : List Nat} {L : List Addr} {w : World} {b o : Nat} (hS : b ∈ S) (hL : ∀ a ∈ L, (⟨b, o, none⟩ : Addr) ≠ a) (u : Value) : RC S L w (w.setCell ⟨b, o, none⟩ u) :=
  ⟨rfl, rfl, rfl, by simp, fun k hk hn => heap_setCell_other _ _ _ _ (fun e => hn (e ▸ hS)), fun a ha => World.cell?_setCell_other _ _ _ _ (hL a ha)⟩
theorem rc_anew {S : List Nat} {L : List Addr} {w : World} (o o' : Obj) (hS : w.heap.size ∈ S) (hL : ∀ a ∈ L, a.block < w.heap.size) : RC S L (w.alloc o) (w.alloc o') :=
  ⟨rfl, rfl, rfl, by simp, fun k hk hn => by
    have hk' : k < w.heap.size := by
      simp at hk
      rcases Nat.lt_or_ge k w.heap.size with h | h
      · exact h
      · exact absurd (show k = w.heap.size by omega) (fun e => hn (e ▸ hS))
    rw [Below.heap_alloc _ _ _ hk', Below.heap_alloc _ _ _ hk'],
   fun a ha => by
    have h := hL a ha
    exact ((below_alloc (Below.refl _ _) o').cell h).trans ((below_alloc (Below.refl _ _) o).cell h).symm⟩
theorem keepC {S : List Nat} {L : List Addr} {w w' : World} (hb : RC S L w w') {a : Addr} {v : Value} (h : a.block ∉ S ∨ a ∈ L) (hc : w.cell? a = some v) : w'.cell? a = some v := by
  rcases h with h | h
  · have hk : a.block < w.heap.size := World.block_lt_of_cell? w _ hc
    have := hb.block _ hk h
    unfold World.cell? at hc ⊢
    rw [this]
    exact hc
  · exact (hb.cells a h).trans hc
theorem rc_less {S S' : List Nat} {L : List Addr} (hS : ∀ k ∈ S, k ∈ S') : ∀ w w', RC S L w w' → RC S' L w w' :=
  fun _ _ h => ⟨h.os, h.tape, h.output, h.size, fun k hk hn => h.block k hk (fun hm => hn (hS k hm)), h.cells⟩
theorem rc_to_below {S : List Nat} {L : List Addr} {w w' : World} {B : Nat} (h : RC S L w w') (hB : B ≤ w.heap.size) (hS : ∀ k ∈ S, B ≤ k) : Below B w w' :=
  ⟨h.os, h.tape, h.output, h.size, fun k hk => h.block k (by omega) (fun hm => by have := hS k hm; omega)⟩
/-- below block B all is as it was; from B on all that is not of type T -/
structure RB (B : Nat) (T : TypeId) (w w' : World) : Prop where
  below : Below B w w'
  other : ∀ k, k < w.heap.size → (∀ c fr, w.heap[k]? ≠ some (.cells c T fr)) → w'.heap[k]? = w.heap[k]?
theorem RB.refl (B : Nat) (T : TypeId) (w : World) : RB B T w w := ⟨Below.refl _ _, fun _ _ _ => rfl⟩
theorem wayRB (B : Nat) (T : TypeId) : Way (RB B T) :=
  ⟨RB.refl B T, fun {a b c} h1 h2 => ⟨h1.below.trans h2.below, fun k hk hn => by
    have e := h1.other k hk hn
    exact (h2.other k (Nat.lt_of_lt_of_le hk h1.below.size) (by rw [e]; exact hn)).trans e⟩, fun w => ⟨(Below.refl B w).drew, fun _ _ _ => rfl⟩⟩
theorem rb_call {B : Nat} {T : TypeId} {w w' : World} (hB : B ≤ w.heap.size) (hb : Below w.heap.size w w') : RB B T w w' := ⟨hb.mono hB, fun k hk _ => hb.block k hk⟩
theorem rb_upd {B g : Nat} {T : TypeId} {c old : Array Value} {w w' : World} (hu : Upd g c T w w') (hr : Row w g old T) (hB : B ≤ g) : RB B T w w' :=
  ⟨hu.below hB, fun k _ hn => hu.rest k (fun e => by subst e; exact hn _ _ hr)⟩
theorem keepRB {B : Nat} {T : TypeId} {w w' : World} (hb : RB B T w w') {a : Addr} {v : Value} (h : a.block < B) (hc : w.cell? a = some v) : w'.cell? a = some v := (hb.below.cell h).trans hc
theorem keepRow {B g : Nat} {T t : TypeId} {c : Array Value} {w w' : World} (hb : RB B T w w') (hr : Row w g c t) (ht : t ≠ T) : Row w' g c t :=
  (hb.other g hr.lt (fun c' fr e => by have := hr.symm.trans e; simp at this; exact ht this.2.1)).trans hr
theorem linT_gen {P : Program} {R : World → World → Prop} {ops : Array Oper} {Q : Exit → Act → World → Prop} {t : OT} {a : Act} {w : World} {c : Array Value} {e : TypeId} {g : Nat} (hg : w.heap.size = g)
    (h : ∀ W, Row W g c e → W.heap.size = g + 1 → Below g w W → LinT P ops Q R t a W) : LinT P ops Q R t a (w.alloc (.cells c e)) := by
  subst hg
  exact h _ (Row.new w c e) (by simp) (below_alloc (Below.refl _ _) _)
theorem linT_genD {P : Program} {R : World → World → Prop} {ops : Array Oper} {Q : Exit → Act → World → Prop} {t : OT} {a : Act} {w : World} {c : Array Value} {e : TypeId} {g : Nat} (hg : w.heap.size = g)
    (h : ∀ W, Row W g c e → W.heap.size = g + 1 → Below g w W → LinT P ops Q R t a W) : LinT P ops Q R t a (w.alloc (.cells c e)).drew := by
  subst hg
  exact h _ (Row.new w c e) (by simp) (below_drew (below_alloc (Below.refl _ _) _))
theorem wp_storeR {P : Program} {o : Oper} {a : Act} {W : World} {K : Act → World → Prop} {Q : Exit → Act → World → Prop} {ty : TypeId} {x y : Operand} {cells : Array Value} {t : TypeId} {old : Array Value} {g : Nat}
    (ho : o.op = .store ty x y) (hx : a.eval x = .pointer (some ⟨g, 0, none⟩)) (hy : a.eval y = .agg cells) (hr : Row W g old t) (hi : (P.info? ty).map (·.size) = some cells.size)
    (hold : old.size = cells.size) (h1 : cells.all (·.oneCell') = true)
    (h : ∀ W1, Upd g cells t W W1 → K (a.put o.dst undef) W1) : o.wp P a W K Q :=
  wp_store_row ty x y ho g cells hx hy t old hr hi hold h1 (h _ (upd_set hr))
end Go.Proofs.Ytlbpmboknmbcgaa
