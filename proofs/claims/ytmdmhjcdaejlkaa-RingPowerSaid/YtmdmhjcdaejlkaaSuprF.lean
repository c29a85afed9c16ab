/- SuprHolds: plain laws. -/
import Derived.Test.YtmdmhjcdaejlkaaFair
import Derived.Test.YtmdmhjcdaejlkaaSuprE
set_option linter.unusedVariables false
namespace Go.Proofs.Ytmdmhjcdaejlkaa

/-- a device that just began, of which h holds -/
structure Hd (key : List UInt8) (D : Dk) (h : Nat) : Prop where
  fr : Free D
  sz : D.size = ((40 : Nat) : Int)
  bl : D.blocks = 4
  lo : D.loose = []
  eq : D.now = D.stable
  e0 : epAt key D ((1 : Nat) : Int) (h % 2) = some h
  e1 : ∀ e', epAt key D ((1 : Nat) : Int) ((h + 1) % 2) = some e' → e' ≤ h
  lt : LooseT D
theorem Hd.last {key : List UInt8} {D : Dk} {h : Nat} (H : Hd key D h) : epLast key D ((1 : Nat) : Int) = some h := by
  have h0 := H.e0
  have h1 := H.e1
  unfold epLast
  rcases Nat.mod_two_eq_zero_or_one h with q | q
  · rw [q] at h0
    rw [show (h + 1) % 2 = 1 by omega] at h1
    rw [h0]
    cases hx : epAt key D ((1 : Nat) : Int) 1 with
    | none => rfl
    | some y => have := h1 y hx; show some (max h y) = some h; congr 1; omega
  · rw [q] at h0
    rw [show (h + 1) % 2 = 0 by omega] at h1
    rw [h0]
    cases hx : epAt key D ((1 : Nat) : Int) 0 with
    | none => rfl
    | some y => have := h1 y hx; show some (max y h) = some h; congr 1; omega
theorem Hd.has {key : List UInt8} {D : Dk} {h : Nat} (H : Hd key D h) (e : Nat) : D.has ((1 + e % 2 : Nat) : Int) = true := has_true (by omega) (by rw [H.bl]; omega)
/-- as D, with X at the place of the next epoch, and nothing loose -/
structure PutS (D D2 : Dk) (q : Int) (X : List UInt8) : Prop where
  bl : D2.blocks = D.blocks
  sz : D2.size = D.size
  eq : D2.now = D2.stable
  now : D2.now = fun j => if j = q then X else D.now j
  len : X.length = D.size.toNat
  lo : D2.loose = []
  fr : Free D2
  lt : LooseT D2
theorem PutS.atq {D D2 : Dk} {q : Int} {X : List UInt8} (h : PutS D D2 q X) (hq : D.has q = true) : D2.at_ D2.now q = X := by
  have hh : D2.has q = true := by unfold Dk.has at hq ⊢; rw [h.bl]; exact hq
  rw [at_yes hh, h.sz, h.now]
  simp only [if_true]
  exact fitL_full _ _ h.len
theorem PutS.ati {D D2 : Dk} {q i : Int} {X : List UInt8} (h : PutS D D2 q X) (hi : i ≠ q) : D2.at_ D2.now i = D.at_ D.now i := by
  unfold Dk.at_ Dk.has
  rw [h.bl, h.sz, h.now]
  simp only [hi, if_false]
theorem PutS.ep {key : List UInt8} {D D2 : Dk} {X : List UInt8} {e : Nat} (h : PutS D D2 ((1 + e % 2 : Nat) : Int) X) (hq : D.has ((1 + e % 2 : Nat) : Int) = true) : epAt key D2 ((1 : Nat) : Int) (e % 2) = (openL key X).bind fun b => epN b (e % 2) := by
  unfold epAt
  rw [show ((1 : Nat) : Int) + ((e % 2 : Nat) : Int) = ((1 + e % 2 : Nat) : Int) by omega, h.atq hq]
theorem PutS.eo {key : List UInt8} {D D2 : Dk} {X : List UInt8} {e : Nat} (h : PutS D D2 ((1 + e % 2 : Nat) : Int) X) {i : Nat} (hi : i ≠ e % 2) : epAt key D2 ((1 : Nat) : Int) i = epAt key D ((1 : Nat) : Int) i := by
  unfold epAt
  rw [h.ati (by omega)]
theorem Hd.up {key : List UInt8} {D D2 : Dk} {h : Nat} {X : List UInt8} (H : Hd key D h) (hp : PutS D D2 ((1 + (h + 1) % 2 : Nat) : Int) X) (hX : ((openL key X).bind fun b => epN b ((h + 1) % 2)) = some (h + 1)) : Hd key D2 (h + 1) := by
  refine ⟨hp.fr, by rw [hp.sz]; exact H.sz, by rw [hp.bl]; exact H.bl, hp.lo, hp.eq, by rw [hp.ep (H.has _)]; exact hX, fun e' he => ?_, hp.lt⟩
  rw [show (h + 1 + 1) % 2 = h % 2 by omega, hp.eo (by omega), H.e0] at he
  cases he
  omega
theorem Hd.gar {key : List UInt8} {D D2 : Dk} {h : Nat} {X : List UInt8} (H : Hd key D h) (hp : PutS D D2 ((1 + (h + 1) % 2 : Nat) : Int) X) (hX : openL key X = none) : Hd key D2 h := by
  refine ⟨hp.fr, by rw [hp.sz]; exact H.sz, by rw [hp.bl]; exact H.bl, hp.lo, hp.eq, by rw [hp.eo (by omega)]; exact H.e0, fun e' he => ?_, hp.lt⟩
  rw [hp.ep (H.has _), hX] at he
  cases he
theorem epAt_ext {key : List UInt8} {D D2 : Dk} (hb : D2.blocks = D.blocks) (hz : D2.size = D.size) (hn : D2.now = D.now) (a : Int) (i : Nat) : epAt key D2 a i = epAt key D a i := by
  unfold epAt Dk.at_ Dk.has
  rw [hb, hz, hn]
theorem Hd.keep {key : List UInt8} {D D2 : Dk} {h : Nat} (H : Hd key D h) (hb : D2.blocks = D.blocks) (hz : D2.size = D.size) (hn : D2.now = D.now) (hs : D2.stable = D.stable) (hl : D2.loose = []) (hf : Free D2) (ht : LooseT D2) : Hd key D2 h :=
  ⟨hf, by rw [hz]; exact H.sz, by rw [hb]; exact H.bl, hl, by rw [hn, hs]; exact H.eq, by rw [epAt_ext hb hz hn]; exact H.e0, fun e' he => H.e1 e' (by rw [← epAt_ext hb hz hn]; exact he), ht⟩
theorem crashF_nilS (D : Dk) (ch : List Int) (h : D.loose = []) : crashF D ch D.loose.length = D.stable := by rw [h]; rfl
theorem crashF_oneS (D : Dk) (ch : List Int) (x : Int × List UInt8) (h : D.loose = [x]) : crashF D ch D.loose.length = crash1 D.stable x (chs ch 0) := by
  rw [h]
  show (match D.loose[0]? with | some x => crash1 D.stable x (chs ch 0) | none => D.stable) = _
  rw [h]; rfl
theorem Hd.reads {key : List UInt8} {D : Dk} {h : Nat} (H : Hd key D h) (a : Int) (n : Nat) : Hd key (readsD D a n) h := by
  induction n with
  | zero => exact H
  | succ n ih => exact ih.keep rfl rfl rfl rfl ih.lo (ih.fr.read _) (ih.lt.read _)
/-- a commit on a device with nothing loose -/
theorem com_put {key : List UInt8} {D D1 : Dk} {boot seq e : Nat} (h1 : D1.blocks = D.blocks) (h2 : D1.size = D.size) (h3 : D1.now = D.now) (h4 : D1.stable = D.now) (h5 : D1.loose = []) (h6 : LooseT D1) (hz : D.size = ((40 : Nat) : Int)) (hh : D.has ((1 + e % 2 : Nat) : Int) = true) (ch : List Int) :
    PutS D ((comD D1 key boot seq 1 e).crash ch) ((1 + e % 2 : Nat) : Int) (sealL key boot seq (textL e) 40) := by
  have hl : (sealL key boot seq (textL e) 40).length = 40 := sealL_length (by rw [textL_length]; decide)
  have hf : fitL D.size (sealL key boot seq (textL e) 40) = sealL key boot seq (textL e) 40 := fitL_full _ _ (by rw [hl, hz]; rfl)
  have e1 : comD D1 key boot seq 1 e = (D1.write ((1 + e % 2 : Nat) : Int) (sealL key boot seq (textL e) 40)).flush := by unfold comD; rw [h2, hz]; rfl
  have hh1 : D1.has ((1 + e % 2 : Nat) : Int) = true := by unfold Dk.has at hh ⊢; rw [h1]; exact hh
  generalize sealL key boot seq (textL e) 40 = X at *
  generalize ((1 + e % 2 : Nat) : Int) = q at *
  rw [e1]
  have hlo : (D1.write q X).loose = [(q, X)] := by rw [write_loose hh1, h5, h2, hf]; rfl
  have hn : ((D1.write q X).flush.crash ch).now = fun j => if j = q then X else D.now j := by
    show crashF (D1.write q X).flush ch (D1.write q X).flush.loose.length = _
    rw [crashF_nilS _ _ rfl]
    show layL (D1.write q X).stable (D1.write q X).loose = _
    rw [hlo, write_stable, h4]
    rfl
  exact ⟨by show (D1.write q X).blocks = _; rw [write_blocks, h1], by show (D1.write q X).size = _; rw [write_size, h2], rfl, hn, by rw [hl, hz]; rfl, rfl, Free.crash _ _, ((h6.write _ _).flush).crash ch⟩
theorem seal_ep {key : List UInt8} {boot seq e : Nat} (he : e < 18446744073709551616) : ((openL key (sealL key boot seq (textL e) 40)).bind fun b => epN b (e % 2)) = some e := by
  rw [openL_sealL (by rw [textL_length]; decide) (by decide)]
  exact epN_text he rfl
/-- it was done -/
theorem Hd.done {key : List UInt8} {D : Dk} {h boot seq : Nat} (H : Hd key D h) (he : h + 1 < 18446744073709551616) (c : Int) (ch : List Int) : Hd key ((comD (D.cut c) key boot seq 1 (h + 1)).crash ch) (h + 1) :=
  H.up (com_put (D := D) (D1 := D.cut c) rfl rfl rfl H.eq.symm H.lo (H.lt.cut c) H.sz (H.has _) ch) (seal_ep he)
/-- the write was done, not the flush -/
theorem Hd.loose {key : List UInt8} {D : Dk} {h boot seq : Nat} (H : Hd key D h) (he : h + 1 < 18446744073709551616) (c : Int) {ch : List Int}
    (hf : FairOk key ((D.cut c).write ((1 + (h + 1) % 2 : Nat) : Int) (sealL key boot seq (textL (h + 1)) (D.cut c).size.toNat)).dead ch) :
    ∃ h', (h' = h ∨ h' = h + 1) ∧ Hd key (((D.cut c).write ((1 + (h + 1) % 2 : Nat) : Int) (sealL key boot seq (textL (h + 1)) (D.cut c).size.toNat)).dead.crash ch) h' := by
  have hz : (D.cut c).size.toNat = 40 := by show D.size.toNat = 40; rw [H.sz]; rfl
  rw [hz] at hf ⊢
  have hX := seal_ep (key := key) (boot := boot) (seq := seq) he
  have hl : (sealL key boot seq (textL (h + 1)) 40).length = 40 := sealL_length (by rw [textL_length]; decide)
  have hfit : fitL D.size (sealL key boot seq (textL (h + 1)) 40) = sealL key boot seq (textL (h + 1)) 40 := fitL_full _ _ (by rw [hl, H.sz]; rfl)
  have hh1 : (D.cut c).has ((1 + (h + 1) % 2 : Nat) : Int) = true := H.has _
  generalize sealL key boot seq (textL (h + 1)) 40 = X at *
  generalize hq : ((1 + (h + 1) % 2 : Nat) : Int) = q at *
  have hlo : ((D.cut c).write q X).loose = [(q, X)] := by
    rw [write_loose hh1]
    show D.loose ++ [(q, fitL D.size X)] = _
    rw [H.lo, hfit]; rfl
  have hst : ((D.cut c).write q X).stable = D.now := by rw [write_stable, H.eq]; rfl
  have hb : ((D.cut c).write q X).blocks = D.blocks := by rw [write_blocks]; rfl
  have hsz : ((D.cut c).write q X).size = D.size := by rw [write_size]; rfl
  have hlt : LooseT ((D.cut c).write q X).dead := ((H.lt.cut c).write q X).dead
  generalize (D.cut c).write q X = E at *
  have hn : (E.dead.crash ch).now = crash1 D.now (q, X) (chs ch 0) := by
    show crashF E.dead ch E.dead.loose.length = _
    rw [crashF_oneS E.dead ch (q, X) hlo]
    show crash1 E.stable _ _ = _
    rw [hst]
  by_cases h0 : chs ch 0 = 0
  · refine ⟨h + 1, .inr rfl, H.up (X := X) ⟨hb, hsz, rfl, ?_, by rw [hl, H.sz]; rfl, rfl, Free.crash _ _, hlt.crash ch⟩ hX⟩
    rw [hn, hq]; unfold crash1; rw [if_pos h0]
  · by_cases h2 : chs ch 0 = 2
    · have hg := hf.ok 0 (q, X) (by show E.loose[0]? = _; rw [hlo]; rfl) h2
      refine ⟨h, .inl rfl, H.gar (X := garL X) ⟨hb, hsz, rfl, ?_, by rw [garL_length, hl, H.sz]; rfl, rfl, Free.crash _ _, hlt.crash ch⟩ hg⟩
      rw [hn, hq]; unfold crash1; rw [if_neg h0, if_pos h2]
    · have hn2 : (E.dead.crash ch).now = D.now := by rw [hn]; unfold crash1; rw [if_neg h0, if_neg h2]
      exact ⟨h, .inl rfl, H.keep hb hsz hn2 ((show (E.dead.crash ch).stable = (E.dead.crash ch).now from rfl).trans (hn2.trans H.eq)) rfl (Free.crash _ _) (hlt.crash ch)⟩
/-- nothing was done -/
theorem Hd.none_ {key : List UInt8} {D : Dk} {h : Nat} (H : Hd key D h) (c : Int) (ch : List Int) : Hd key ((D.cut c).dead.crash ch) h := by
  have hn : ((D.cut c).dead.crash ch).now = D.now := by
    show crashF (D.cut c).dead ch (D.cut c).dead.loose.length = _
    rw [crashF_nilS (D.cut c).dead ch H.lo]
    exact H.eq.symm
  exact H.keep rfl rfl hn ((show ((D.cut c).dead.crash ch).stable = ((D.cut c).dead.crash ch).now from rfl).trans (hn.trans H.eq)) rfl (Free.crash _ _) (((H.lt.cut c).dead).crash ch)
/-- the first epoch, on a device that is new -/
theorem hd_first {key : List UInt8} (hb : openL key (List.replicate 40 0) = none) {boot e : Nat} (he : e < 18446744073709551616) : Hd key (comD (dkNew 4 40) key boot 0 1 e) e := by
  have hz : (dkNew 4 40).size = ((40 : Nat) : Int) := rfl
  have hh : (dkNew 4 40).has ((1 + e % 2 : Nat) : Int) = true := has_true (by omega) (by show _ < (4 : Int); omega)
  have e0 := fun i => epAt_fresh (key := key) (bl := 4) (s := 40) (by decide) hb ((1 : Nat) : Int) i
  simp only [show ((40 : Nat) : Int) = 40 from rfl] at e0
  have he' := fun i => epAt_com (key := key) (boot := boot) (seq := 0) (at_ := 1) hz (by decide) (by decide) hh he i
  refine ⟨comD_free ⟨rfl, rfl⟩, by rw [comD_size]; rfl, by rw [comD_blocks]; rfl, rfl, ?_, by rw [he', if_pos rfl], fun e' h' => ?_, ((looseT_new 4 40).write _ _).flush⟩
  · have e1 : comD (dkNew 4 40) key boot 0 1 e = ((dkNew 4 40).write ((1 + e % 2 : Nat) : Int) (sealL key boot 0 (textL e) 40)).flush := rfl
    rw [e1]
    generalize sealL key boot 0 (textL e) 40 = X at *
    generalize ((1 + e % 2 : Nat) : Int) = q at *
    show ((dkNew 4 40).write q X).now = layL ((dkNew 4 40).write q X).stable ((dkNew 4 40).write q X).loose
    rw [write_loose hh, write_stable, write_now hh]
    rfl
  · rw [he', if_neg (by omega), e0] at h'
    cases h'
end Go.Proofs.Ytmdmhjcdaejlkaa
