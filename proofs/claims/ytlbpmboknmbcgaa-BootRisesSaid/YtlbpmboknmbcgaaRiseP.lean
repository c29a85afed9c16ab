/- BootRises: plain laws. -/
import Derived.Test.YtlbpmboknmbcgaaAwk8
set_option linter.unusedVariables false
namespace Go.Proofs.Ytlbpmboknmbcgaa

/-- the place of a number -/
def plc (L : Nat) : Int := 1 - ((L % 2 : Nat) : Int)
/-- a device that just began, with the number L -/
structure Ri (D : Dk) (L : Nat) : Prop where
  fr : Free D
  two : Two D 0
  eq : D.now = D.stable
  lo : D.loose = []
  la : lastN D 0 = L
  pl : L = 0 ∨ parseV (D.at_ D.now (plc L)) = L
theorem ri_new : Ri (dkNew 3 40) 0 := by
  have h := bt_new 3 40 0 (by decide) (by decide) (by decide) (by decide)
  exact ⟨h.fr, h.two, rfl, rfl, h.la, .inl rfl⟩
/-- as D, with X at q, and nothing else loose -/
structure Put (D D2 : Dk) (q : Int) (X : List UInt8) : Prop where
  bl : D2.blocks = D.blocks
  sz : D2.size = D.size
  eq : D2.now = D2.stable
  now : D2.now = fun j => if j = q then X else D.now j
  len : X.length = D.size.toNat
  lo : D2.loose = []
  fr : Free D2
theorem Put.atq {D D2 : Dk} {q : Int} {X : List UInt8} (h : Put D D2 q X) (hq : D.has q = true) : D2.at_ D2.now q = X := by
  unfold Dk.at_
  have hh : D2.has q = true := by unfold Dk.has at hq ⊢; rw [h.bl]; exact hq
  rw [if_pos hh, h.sz, h.now]
  simp only [if_true]
  exact fitL_full _ _ h.len
theorem Put.ati {D D2 : Dk} {q i : Int} {X : List UInt8} (h : Put D D2 q X) (hi : i ≠ q) : D2.at_ D2.now i = D.at_ D.now i := by
  unfold Dk.at_ Dk.has
  rw [h.bl, h.sz, h.now]
  simp only [hi, if_false]
theorem Put.two {D D2 : Dk} {q : Int} {X : List UInt8} {a : Nat} (h : Put D D2 q X) (ht : Two D a) : Two D2 a := by
  refine ⟨?_, ?_, by rw [h.sz]; exact ht.s⟩
  · have := ht.h1; unfold Dk.has at this ⊢; rw [h.bl]; exact this
  · have := ht.h2; unfold Dk.has at this ⊢; rw [h.bl]; exact this
theorem plc_cases (L : Nat) : (plc L = 0 ∧ plc (L + 1) = 1) ∨ (plc L = 1 ∧ plc (L + 1) = 0) := by
  unfold plc
  rcases Nat.mod_two_eq_zero_or_one L with h | h
  · right; rw [h, show (L + 1) % 2 = 1 by omega]; exact ⟨rfl, rfl⟩
  · left; rw [h, show (L + 1) % 2 = 0 by omega]; exact ⟨rfl, rfl⟩
theorem last0 (D : Dk) : lastN D 0 = max (parseV (D.at_ D.now 0)) (parseV (D.at_ D.now 1)) := rfl
theorem Ri.has {D : Dk} {L : Nat} (h : Ri D L) (k : Nat) : D.has (plc k) = true := by
  rcases plc_cases k with ⟨e, _⟩ | ⟨e, _⟩
  · rw [e]; exact h.two.h1
  · rw [e]; exact h.two.h2
theorem Ri.up {D D2 : Dk} {L : Nat} {X : List UInt8} (h : Ri D L) (hp : Put D D2 (plc (L + 1)) X) (hX : parseV X = L + 1) : Ri D2 (L + 1) := by
  have hq := hp.atq (h.has (L + 1))
  have hl := h.la
  rw [last0] at hl
  refine ⟨hp.fr, hp.two h.two, hp.eq, hp.lo, ?_, .inr (by rw [hq]; exact hX)⟩
  rw [last0]
  rcases plc_cases L with ⟨e1, e2⟩ | ⟨e1, e2⟩
  · rw [e2] at hq hp
    rw [hq, hX, hp.ati (i := 0) (by decide)]
    omega
  · rw [e2] at hq hp
    rw [hq, hX, hp.ati (i := 1) (by decide)]
    omega
theorem Ri.gar {D D2 : Dk} {L : Nat} {X : List UInt8} (h : Ri D L) (hp : Put D D2 (plc (L + 1)) X) (hX : parseV X = 0) : Ri D2 L := by
  have hq := hp.atq (h.has (L + 1))
  have hl := h.la
  rw [last0] at hl
  have hpl := h.pl
  rcases plc_cases L with ⟨e1, e2⟩ | ⟨e1, e2⟩
  · rw [e1] at hpl
    rw [e2] at hq hp
    refine ⟨hp.fr, hp.two h.two, hp.eq, hp.lo, ?_, ?_⟩
    · rw [last0, hq, hX, hp.ati (i := 0) (by decide)]
      omega
    · rw [e1, hp.ati (i := 0) (by decide)]; exact hpl
  · rw [e1] at hpl
    rw [e2] at hq hp
    refine ⟨hp.fr, hp.two h.two, hp.eq, hp.lo, ?_, ?_⟩
    · rw [last0, hq, hX, hp.ati (i := 1) (by decide)]
      omega
    · rw [e1, hp.ati (i := 1) (by decide)]; exact hpl
theorem gar_parse {s : Int} (hs : 24 ≤ s) (k : Nat) : parseV (garL (fitL s (recP k))) = 0 := by
  apply parseV_none
  apply parse_no
  intro h
  have h3 : ((garL (fitL s (recP k))).take 24)[0]? = (recP (numAt (garL (fitL s (recP k)))))[0]? := by rw [h.2.2.1]
  generalize numAt (garL (fitL s (recP k))) = g at h3
  rw [fit_rec hs] at h3
  have e1 : ∀ m, (recP m)[0]? = some 0 := fun m => rfl
  rw [e1, List.getElem?_take_of_lt (by decide)] at h3
  unfold garL at h3
  rw [List.getElem?_map, List.getElem?_append_left (by rw [recP_length]; decide), e1] at h3
  exact absurd h3 (by decide)
theorem crash_bl (D : Dk) (ch : List Int) : (D.crash ch).blocks = D.blocks := rfl
theorem crash_sz (D : Dk) (ch : List Int) : (D.crash ch).size = D.size := rfl
theorem crash_nw (D : Dk) (ch : List Int) : (D.crash ch).now = crashF D ch D.loose.length := rfl
theorem dead_bl (D : Dk) : D.dead.blocks = D.blocks := rfl
theorem dead_sz (D : Dk) : D.dead.size = D.size := rfl
theorem dead_lo (D : Dk) : D.dead.loose = D.loose := rfl
theorem crashF_dead (D : Dk) (ch : List Int) (j : Nat) : crashF D.dead ch j = crashF D ch j := by
  induction j with
  | zero => rfl
  | succ j ih => unfold crashF; rw [ih]; rfl
theorem flush_bl (D : Dk) : D.flush.blocks = D.blocks := rfl
theorem flush_sz (D : Dk) : D.flush.size = D.size := rfl
theorem flush_lo (D : Dk) : D.flush.loose = [] := rfl
theorem flush_st (D : Dk) : D.flush.stable = layL D.stable D.loose := rfl
theorem crashF_nil (D : Dk) (ch : List Int) (h : D.loose = []) : crashF D ch D.loose.length = D.stable := by rw [h]; rfl
theorem crashF_one (D : Dk) (ch : List Int) (x : Int × List UInt8) (h : D.loose = [x]) : crashF D ch D.loose.length = crash1 D.stable x (chs ch 0) := by
  rw [h]
  show (match D.loose[0]? with | some x => crash1 D.stable x (chs ch 0) | none => D.stable) = _
  rw [h]; rfl
/-- nothing was loose: the crash keeps all -/
theorem Ri.crash {D D' : Dk} {L : Nat} (h : Ri D L) (hs : D'.stable = D.stable) (hl : D'.loose = []) (hb : D'.blocks = D.blocks) (hz : D'.size = D.size) (ch : List Int) : Ri (D'.crash ch) L := by
  have hn : (D'.crash ch).now = D.now := by
    show crashF D' ch D'.loose.length = D.now
    rw [hl, h.eq]
    exact hs
  have ha : ∀ i, (D'.crash ch).at_ (D'.crash ch).now i = D.at_ D.now i := by
    intro i
    rw [hn]
    unfold Dk.at_ Dk.has
    show (if (decide (0 ≤ i) && decide (i < D'.blocks)) = true then fitL D'.size (D.now i) else []) = _
    rw [hb, hz]
  refine ⟨Free.crash _ _, ⟨?_, ?_, ?_⟩, rfl, rfl, ?_, ?_⟩
  · have := h.two.h1; unfold Dk.has at this ⊢; show (_ && decide (_ < D'.blocks)) = true; rw [hb]; exact this
  · have := h.two.h2; unfold Dk.has at this ⊢; show (_ && decide (_ < D'.blocks)) = true; rw [hb]; exact this
  · show 24 ≤ D'.size; rw [hz]; exact h.two.s
  · rw [last0, ha, ha]; exact h.la
  · rw [ha]; exact h.pl
theorem bumpAt_plc {D : Dk} {L : Nat} (h : lastN D 0 = L) : bumpAt D 0 = plc (L + 1) := by unfold bumpAt plc; show (0 : Int) + 1 - (((lastN D 0 + 1) % 2 : Nat) : Int) = _; rw [h]; omega
set_option maxHeartbeats 4000000 in
/-- the bump was done -/
theorem Ri.done {D : Dk} {L : Nat} (h : Ri D L) (hL : L < 4294967295) (c : Int) (ch : List Int) : Ri ((bumpW (D.cut c) 0).flush.crash ch) (L + 1) := by
  have hla : lastN (D.cut c) 0 = L := h.la
  have hq : bumpAt (D.cut c) 0 = plc (L + 1) := bumpAt_plc hla
  have hh : (look (D.cut c) 0).has (plc (L + 1)) = true := h.has (L + 1)
  have hw : bumpW (D.cut c) 0 = (look (D.cut c) 0).write (plc (L + 1)) (recP (L + 1)) := by unfold bumpW; rw [hq]; show (look (D.cut c) 0).write _ (recP (lastN (D.cut c) 0 + 1)) = _; rw [hla]
  have hX : parseV (fitL D.size (recP (L + 1))) = L + 1 := by rw [fit_rec h.two.s]; exact parseV_of (parse_rec (by omega) (by omega) _)
  generalize bumpW (D.cut c) 0 = E at *
  have hb : E.blocks = D.blocks := by rw [hw, write_blocks]; rfl
  have hz : E.size = D.size := by rw [hw, write_size]; rfl
  have hst : E.stable = D.now := by rw [hw, write_stable, h.eq]; rfl
  have hl : E.loose = [(plc (L + 1), fitL D.size (recP (L + 1)))] := by
    have e1 : (look (D.cut c) 0).loose = [] := h.lo
    have e2 : (look (D.cut c) 0).size = D.size := rfl
    rw [hw, write_loose hh, e1, e2, List.nil_append]
  refine h.up (X := fitL D.size (recP (L + 1))) ⟨?_, ?_, rfl, ?_, fitL_length _ _, rfl, Free.crash _ _⟩ hX
  · rw [crash_bl, flush_bl, hb]
  · rw [crash_sz, flush_sz, hz]
  · rw [crash_nw, crashF_nil _ _ (flush_lo E), flush_st, hl, hst]
    generalize fitL D.size (recP (L + 1)) = F
    rfl
set_option maxHeartbeats 4000000 in
/-- the write was done, but not the flush: by its choice -/
theorem Ri.loose {D : Dk} {L : Nat} (h : Ri D L) (hL : L < 4294967295) (c : Int) (ch : List Int) : ∃ L', L ≤ L' ∧ L' ≤ L + 1 ∧ Ri ((bumpW (D.cut c) 0).dead.crash ch) L' := by
  have hla : lastN (D.cut c) 0 = L := h.la
  have hq : bumpAt (D.cut c) 0 = plc (L + 1) := bumpAt_plc hla
  have hh : (look (D.cut c) 0).has (plc (L + 1)) = true := h.has (L + 1)
  have hw : bumpW (D.cut c) 0 = (look (D.cut c) 0).write (plc (L + 1)) (recP (L + 1)) := by unfold bumpW; rw [hq]; show (look (D.cut c) 0).write _ (recP (lastN (D.cut c) 0 + 1)) = _; rw [hla]
  have hX : parseV (fitL D.size (recP (L + 1))) = L + 1 := by rw [fit_rec h.two.s]; exact parseV_of (parse_rec (by omega) (by omega) _)
  generalize bumpW (D.cut c) 0 = E at *
  have hb : E.blocks = D.blocks := by rw [hw, write_blocks]; rfl
  have hz : E.size = D.size := by rw [hw, write_size]; rfl
  have hl : E.loose = [(plc (L + 1), fitL D.size (recP (L + 1)))] := by
    have e1 : (look (D.cut c) 0).loose = [] := h.lo
    have e2 : (look (D.cut c) 0).size = D.size := rfl
    rw [hw, write_loose hh, e1, e2, List.nil_append]
  have hst : E.stable = D.now := by rw [hw, write_stable, h.eq]; rfl
  have hn : (E.dead.crash ch).now = crash1 D.now (plc (L + 1), fitL D.size (recP (L + 1))) (chs ch 0) := by
    rw [crash_nw, dead_lo, crashF_dead, crashF_one E ch _ hl, hst]
  have hb' : (E.dead.crash ch).blocks = D.blocks := by rw [crash_bl, dead_bl, hb]
  have hz' : (E.dead.crash ch).size = D.size := by rw [crash_sz, dead_sz, hz]
  by_cases h0 : chs ch 0 = 0
  · refine ⟨L + 1, by omega, by omega, h.up (X := fitL D.size (recP (L + 1))) ⟨hb', hz', rfl, ?_, fitL_length _ _, rfl, Free.crash _ _⟩ hX⟩
    rw [hn]; unfold crash1; rw [if_pos h0]
  · by_cases h2 : chs ch 0 = 2
    · refine ⟨L, by omega, by omega, h.gar (X := garL (fitL D.size (recP (L + 1)))) ⟨hb', hz', rfl, ?_, by rw [garL_length, fitL_length], rfl, Free.crash _ _⟩ (gar_parse h.two.s _)⟩
      rw [hn]; unfold crash1; rw [if_neg h0, if_pos h2]
    · refine ⟨L, by omega, by omega, ?_⟩
      have hn2 : (E.dead.crash ch).now = D.now := by rw [hn]; unfold crash1; rw [if_neg h0, if_neg h2]
      have ha : ∀ i, (E.dead.crash ch).at_ (E.dead.crash ch).now i = D.at_ D.now i := by
        intro i
        unfold Dk.at_ Dk.has
        rw [hn2, hb', hz']
      refine ⟨Free.crash _ _, ⟨?_, ?_, ?_⟩, rfl, rfl, ?_, ?_⟩
      · have := h.two.h1; unfold Dk.has at this ⊢; rw [hb']; exact this
      · have := h.two.h2; unfold Dk.has at this ⊢; rw [hb']; exact this
      · rw [hz']; exact h.two.s
      · rw [last0, ha, ha]; exact h.la
      · rw [ha]; exact h.pl
end Go.Proofs.Ytlbpmboknmbcgaa
