/- RingPower: plain laws. -/
import Derived.Test.YtmdmhjcdaejlkaaHaveM
import Derived.Test.YtmdmhjcdaejlkaaSuprT
set_option linter.unusedVariables false
namespace Go.Proofs.Ytmdmhjcdaejlkaa

/-- what was added in epoch 7, and nothing else -/
structure Rg (key : List UInt8) (D : Dk) (L : List (List UInt8)) : Prop where
  sz : D.size = ((80 : Nat) : Int)
  bl : D.blocks = 20
  cur : ∀ j x, L[j]? = some x → txA key D 2 j = some (rhL 7 j ++ x)
  no : ∀ j, L.length ≤ j → txA key D 2 j = none
  lo : D.loose = []
  eq : D.now = D.stable
  lt : LooseT D
theorem rg_new {key : List UInt8} (hb : openL key (List.replicate 80 0) = none) : Rg key (dkNew 20 80) [] := by
  refine ⟨rfl, rfl, fun j x hx => by simp at hx, fun j _ => ?_, rfl, rfl, looseT_new 20 80⟩
  have h2 := txA_fresh (key := key) (bl := 20) (s := 80) (by decide) hb 2 j
  simpa using h2
theorem tx_ext {key : List UInt8} {D D2 : Dk} (hb : D2.blocks = D.blocks) (hz : D2.size = D.size) (hn : D2.now = D.now) (at_ i : Nat) : txA key D2 at_ i = txA key D at_ i := by
  unfold txA Dk.at_ Dk.has
  rw [hb, hz, hn]
theorem Rg.ext {key : List UInt8} {D D2 : Dk} {L : List (List UInt8)} (h : Rg key D L) (hb : D2.blocks = D.blocks) (hz : D2.size = D.size) (hn : D2.now = D.now) (hs : D2.stable = D.stable) (hl : D2.loose = []) (ht : LooseT D2) : Rg key D2 L :=
  ⟨by rw [hz]; exact h.sz, by rw [hb]; exact h.bl, fun j x hx => by rw [tx_ext hb hz hn]; exact h.cur j x hx, fun j hj => by rw [tx_ext hb hz hn]; exact h.no j hj, hl, by rw [hn, hs]; exact h.eq, ht⟩
theorem Rg.cut {key : List UInt8} {D : Dk} {L : List (List UInt8)} (h : Rg key D L) (c : Int) : Rg key (D.cut c) L := h.ext rfl rfl rfl rfl h.lo (h.lt.cut c)
theorem Rg.has {key : List UInt8} {D : Dk} {L : List (List UInt8)} (h : Rg key D L) (n : Nat) (hn : n ≤ 15) : D.has ((2 + n : Nat) : Int) = true := has_true (by omega) (by rw [h.bl]; omega)
/-- with X at the next place -/
theorem Rg.put {key : List UInt8} {D D2 : Dk} {L : List (List UInt8)} (h : Rg key D L) {X : List UInt8} (hn : L.length ≤ 15) (hb : D2.blocks = D.blocks) (hz : D2.size = D.size) (heq : D2.now = D2.stable) (hnow : D2.now = fun j => if j = ((2 + L.length : Nat) : Int) then X else D.now j) (hX : X.length = 80) (hlo : D2.loose = []) (hlt : LooseT D2) :
    (∀ x, openL key X = some (rhL 7 L.length ++ x) → Rg key D2 (L ++ [x])) ∧ (openL key X = none → Rg key D2 L) := by
  have hh2 : D2.has ((2 + L.length : Nat) : Int) = true := by have := h.has L.length hn; unfold Dk.has at this ⊢; rw [hb]; exact this
  have hq : D2.at_ D2.now ((2 + L.length : Nat) : Int) = X := by
    rw [at_yes hh2, hz, hnow, h.sz]
    simp only [if_true]
    exact fitL_full _ _ (by rw [hX]; rfl)
  have ho : ∀ i : Int, i ≠ ((2 + L.length : Nat) : Int) → D2.at_ D2.now i = D.at_ D.now i := fun i hi => by
    unfold Dk.at_ Dk.has
    rw [hb, hz, hnow]
    simp only [hi, if_false]
  have tn : txA key D2 2 L.length = openL key X := by
    unfold txA
    rw [show ((2 : Nat) : Int) + (L.length : Int) = ((2 + L.length : Nat) : Int) by omega, hq]
  have tj : ∀ j, j ≠ L.length → txA key D2 2 j = txA key D 2 j := fun j hj => by
    unfold txA
    rw [ho _ (by omega)]
  constructor
  · intro x hx
    refine ⟨by rw [hz]; exact h.sz, by rw [hb]; exact h.bl, fun j y hj => ?_, fun j hj => ?_, hlo, heq, hlt⟩
    · rcases Nat.lt_or_ge j L.length with q | q
      · rw [List.getElem?_append_left q] at hj
        rw [tj j (by omega)]
        exact h.cur j y hj
      · rw [List.getElem?_append_right q] at hj
        have e0 : j - L.length = 0 := by
          rcases Nat.eq_zero_or_pos (j - L.length) with h | h
          · exact h
          · rw [List.getElem?_eq_none (by simp; omega)] at hj; cases hj
        rw [e0] at hj
        cases hj
        have : j = L.length := by omega
        subst this
        rw [tn]; exact hx
    · rw [List.length_append, List.length_singleton] at hj
      rw [tj j (by omega)]
      exact h.no j (by omega)
  · intro hx
    refine ⟨by rw [hz]; exact h.sz, by rw [hb]; exact h.bl, fun j y hj => ?_, fun j hj => ?_, hlo, heq, hlt⟩
    · have := (List.getElem?_eq_some_iff.1 hj).1
      rw [tj j (by omega)]
      exact h.cur j y hj
    · rcases Nat.lt_or_ge L.length j with q | q
      · rw [tj j (by omega)]
        exact h.no j (by omega)
      · have : j = L.length := by omega
        subst this
        rw [tn]; exact hx
theorem seal_op {key : List UInt8} {boot seq n : Nat} {x : List UInt8} (hx : x.length ≤ 46) : openL key (sealL key boot seq (rhL 7 n ++ x) 80) = some (rhL 7 n ++ x) ∧ (sealL key boot seq (rhL 7 n ++ x) 80).length = 80 := by
  have hl : (rhL 7 n ++ x).length + 22 ≤ 80 := by rw [List.length_append, rhL_length]; omega
  exact ⟨openL_sealL hl (by decide), sealL_length hl⟩
/-- a record that was added, and flushed -/
theorem Rg.add {key : List UInt8} {D : Dk} {L : List (List UInt8)} (h : Rg key D L) (hn : L.length ≤ 15) {boot seq : Nat} {x : List UInt8} (hx : x.length ≤ 46) : Rg key (addWr D key boot seq 2 L.length 7 x).flush (L ++ [x]) := by
  have hh := h.has L.length hn
  obtain ⟨ho, hl⟩ := seal_op (key := key) (boot := boot) (seq := seq) (n := L.length) hx
  have e1 : addWr D key boot seq 2 L.length 7 x = D.write ((2 + L.length : Nat) : Int) (sealL key boot seq (rhL 7 L.length ++ x) 80) := by unfold addWr; rw [h.sz]; rfl
  rw [e1]
  have hf : fitL D.size (sealL key boot seq (rhL 7 L.length ++ x) 80) = sealL key boot seq (rhL 7 L.length ++ x) 80 := fitL_full _ _ (by rw [hl, h.sz]; rfl)
  generalize sealL key boot seq (rhL 7 L.length ++ x) 80 = X at *
  have hnow : (D.write ((2 + L.length : Nat) : Int) X).flush.now = fun j => if j = ((2 + L.length : Nat) : Int) then X else D.now j := by
    show (D.write ((2 + L.length : Nat) : Int) X).now = _
    rw [write_now hh, hf]
  refine (h.put (D2 := (D.write ((2 + L.length : Nat) : Int) X).flush) (X := X) hn (write_blocks _ _ _) (write_size _ _ _) ?_ hnow hl rfl (h.lt.write _ _).flush).1 x ho
  rw [hnow]
  show _ = layL (D.write ((2 + L.length : Nat) : Int) X).stable (D.write ((2 + L.length : Nat) : Int) X).loose
  rw [write_loose hh, write_stable, h.lo, hf, ← h.eq]
  rfl
/-- nothing was loose when the power went -/
theorem Rg.crash {key : List UInt8} {D : Dk} {L : List (List UInt8)} (h : Rg key D L) (ch : List Int) : Rg key (D.crash ch) L := by
  have hn : (D.crash ch).now = D.now := by
    show crashF D ch D.loose.length = _
    rw [crashF_nilS D ch h.lo]
    exact h.eq.symm
  exact h.ext rfl rfl hn ((show (D.crash ch).stable = (D.crash ch).now from rfl).trans (hn.trans h.eq)) rfl (h.lt.crash ch)
theorem Rg.dead {key : List UInt8} {D : Dk} {L : List (List UInt8)} (h : Rg key D L) : Rg key D.dead L := h.ext rfl rfl rfl rfl h.lo h.lt.dead
/-- the write was done, not the flush -/
theorem Rg.loose {key : List UInt8} {D : Dk} {L : List (List UInt8)} (h : Rg key D L) (hn : L.length ≤ 15) {boot seq : Nat} {x : List UInt8} (hx : x.length ≤ 46) {ch : List Int} (hf : FairOk key (addWr D key boot seq 2 L.length 7 x).dead ch) :
    Rg key ((addWr D key boot seq 2 L.length 7 x).dead.crash ch) (L ++ [x]) ∨ Rg key ((addWr D key boot seq 2 L.length 7 x).dead.crash ch) L := by
  have hh := h.has L.length hn
  obtain ⟨ho, hl⟩ := seal_op (key := key) (boot := boot) (seq := seq) (n := L.length) hx
  have e1 : addWr D key boot seq 2 L.length 7 x = D.write ((2 + L.length : Nat) : Int) (sealL key boot seq (rhL 7 L.length ++ x) 80) := by unfold addWr; rw [h.sz]; rfl
  rw [e1] at hf ⊢
  have hfit : fitL D.size (sealL key boot seq (rhL 7 L.length ++ x) 80) = sealL key boot seq (rhL 7 L.length ++ x) 80 := fitL_full _ _ (by rw [hl, h.sz]; rfl)
  generalize sealL key boot seq (rhL 7 L.length ++ x) 80 = X at *
  have hlo : (D.write ((2 + L.length : Nat) : Int) X).loose = [(((2 + L.length : Nat) : Int), X)] := by rw [write_loose hh, h.lo, hfit]; rfl
  have hst : (D.write ((2 + L.length : Nat) : Int) X).stable = D.now := by rw [write_stable, h.eq]
  have hb : (D.write ((2 + L.length : Nat) : Int) X).blocks = D.blocks := write_blocks _ _ _
  have hsz : (D.write ((2 + L.length : Nat) : Int) X).size = D.size := write_size _ _ _
  have hlt : LooseT (D.write ((2 + L.length : Nat) : Int) X).dead := (h.lt.write _ X).dead
  generalize D.write ((2 + L.length : Nat) : Int) X = E at *
  have hn2 : (E.dead.crash ch).now = crash1 D.now (((2 + L.length : Nat) : Int), X) (chs ch 0) := by
    show crashF E.dead ch E.dead.loose.length = _
    rw [crashF_oneS E.dead ch (((2 + L.length : Nat) : Int), X) hlo]
    show crash1 E.stable _ _ = _
    rw [hst]
  by_cases h0 : chs ch 0 = 0
  · refine .inl ((h.put (D2 := E.dead.crash ch) (X := X) hn hb hsz rfl ?_ hl rfl (hlt.crash ch)).1 x ho)
    rw [hn2]; unfold crash1; rw [if_pos h0]
  · by_cases h2 : chs ch 0 = 2
    · have hg := hf.ok 0 (((2 + L.length : Nat) : Int), X) (by show E.loose[0]? = _; rw [hlo]; rfl) h2
      refine .inr ((h.put (D2 := E.dead.crash ch) (X := garL X) hn hb hsz rfl ?_ (by rw [garL_length, hl]) rfl (hlt.crash ch)).2 hg)
      rw [hn2]; unfold crash1; rw [if_neg h0, if_pos h2]
    · have hn3 : (E.dead.crash ch).now = D.now := by rw [hn2]; unfold crash1; rw [if_neg h0, if_neg h2]
      exact .inr (h.ext hb hsz hn3 ((show (E.dead.crash ch).stable = (E.dead.crash ch).now from rfl).trans (hn3.trans h.eq)) rfl (hlt.crash ch))
theorem Rg.load {key : List UInt8} {D : Dk} {L : List (List UInt8)} (h : Rg key D L) (hn : L.length ≤ 16) : loadN key D ((2 : Nat) : Int) 7 16 = L := by
  have := load_pre (key := key) (D := D) (at_ := 2) (e := 7) (l := L) (fun j x hj => by
    have hjl : j < L.length := (List.getElem?_eq_some_iff.1 hj).1
    rw [recA_tx, h.cur j x hj]
    exact (recN_rh (by decide) (by decide) (by omega) (by omega) _).trans (if_pos ⟨rfl, rfl⟩)) (by rw [recA_tx, h.no _ (Nat.le_refl _)]; rfl) 16
  rw [this, List.take_of_length_le hn]
end Go.Proofs.Ytmdmhjcdaejlkaa
