/- The device in memory: what stands where. -/
import Derived.Test.YtmdmhjcdaejlkaaGA
import Derived.Outline
import Derived.Deep.Cut
import Derived.Lib.Hide
import Derived.Test.YtmdmhjcdaejlkaaMem
import Derived.Great.BuildSlice
import Derived.Test.YtmdmhjcdaejlkaaClone
import Derived.Test.YtmdmhjcdaejlkaaInts
import Derived.Defers
import Derived.Recover
import Derived.Laws.Pointers
set_option linter.unusedVariables false
set_option linter.unusedSimpArgs false
namespace Go.Proofs.Ytmdmhjcdaejlkaa
open Go.RowKit

/-- an event that was noted -/
structure Ev where
  (kind at_ : Int)
  head : List UInt8
  body : List UInt8
/-- the device as data -/
structure Dk where
  (blocks size : Int)
  (stable now : Int → List UInt8)
  (cS cN : Nat)
  loose : List (Int × List UInt8)
  after : Int
  off : Bool
  trace : List Ev
/-- the types that the device writes -/
def dTy : List TypeId := [93, 101, 45]
/-- a map of slices reads as the blocks 'm' (no bytes where nothing stands) -/
structure MapB (W : World) (base b n : Nat) (m : Int → List UInt8) : Prop where
  mk :: (out : ∃ f, MapI W b n f ∧ ∀ i, BytesAt W base (f i) (m i))
theorem MapB.keep {base b n : Nat} {m : Int → List UInt8} {W W' : World} (h : MapB W base b n m) (hd : DR dTy base W W') (he : W'.heap[b]? = W.heap[b]?) : MapB W' base b n m := by
  obtain ⟨f, hf, hb⟩ := h.out
  exact ⟨f, hf.below he, fun i => (hb i).keep hd (by decide)⟩
/-- rows of a place and a block's bytes -/
def LooseAt (W : World) (base : Nat) (v : Value) (l : List (Int × List UInt8)) : Prop :=
  ∃ vs : List Value, vs.length = l.length ∧ (∀ (k : Nat) u x, vs[k]? = some u → l[k]? = some x → BytesAt W base u x.2) ∧
    W.ownsRow base 101 2 v l.length ((l.zip vs).flatMap fun p => [.int .i64 p.1.1, p.2])
def evCells (e : Ev) (u : Value) : List Value := [.int .i64 e.kind, .int .i64 e.at_] ++ bv e.head ++ [u]
def TraceAt (W : World) (base : Nat) (v : Value) (l : List Ev) : Prop :=
  ∃ vs : List Value, vs.length = l.length ∧ (∀ (k : Nat) u x, vs[k]? = some u → l[k]? = some x → BytesAt W base u x.body ∧ x.head.length = 12) ∧
    W.ownsRow base 45 15 v l.length ((l.zip vs).flatMap fun p => evCells p.1 p.2)
/-- the device's struct lies at block b, all that it owns from 'base' on -/
structure DiskAt (W : World) (base b : Nat) (D : Dk) : Prop where
  mk :: (out : ∃ mS mN lv tv, Row W b #[.int .i64 D.blocks, .int .i64 D.size, .map (some mS), .map (some mN), lv, .int .i64 D.after, .bool D.off, tv] 93 ∧ base ≤ b ∧ base ≤ mS ∧ base ≤ mN ∧ mS ≠ mN ∧
    MapB W base mS D.cS D.stable ∧ MapB W base mN D.cN D.now ∧ LooseAt W base lv D.loose ∧ TraceAt W base tv D.trace)
end Go.Proofs.Ytmdmhjcdaejlkaa

/- Contracts of the device: New and the small ones. -/
set_option linter.unusedVariables false
set_option linter.unusedSimpArgs false
namespace Go.Proofs.Ytmdmhjcdaejlkaa
open Go.RowKit

def dkNew (bl sz : Int) : Dk := ⟨min (max bl 0) 100000, min (max sz 0) 60000, fun _ => [], fun _ => [], 0, 0, [], -1, false, []⟩
theorem diskNew_at (w : World) (B S : Int) :
    DiskAt (((w.alloc (.map #[] 0)).alloc (.map #[] 0)).alloc (.cells #[.int .i64 B, .int .i64 S, .map (some w.heap.size), .map (some (w.heap.size + 1)), .slice none 0 0, .int .i64 (-1), .bool false, .slice none 0 0] 93)) w.heap.size (w.heap.size + 2) ⟨B, S, fun _ => [], fun _ => [], 0, 0, [], -1, false, []⟩ := by
  have e1 : (w.alloc (.map #[] 0)).heap.size = w.heap.size + 1 := by simp
  have e2 : ((w.alloc (.map #[] 0)).alloc (.map #[] 0)).heap.size = w.heap.size + 2 := by simp
  have m1 := MapI.new w
  have m2 := MapI.new (w.alloc (.map #[] 0))
  rw [e1] at m2
  have r := Row.new ((w.alloc (.map #[] 0)).alloc (.map #[] 0)) #[.int .i64 B, .int .i64 S, .map (some w.heap.size), .map (some (w.heap.size + 1)), .slice none 0 0, .int .i64 (-1), .bool false, .slice none 0 0] 93
  rw [e2] at r
  generalize hX : Obj.cells #[.int .i64 B, .int .i64 S, .map (some w.heap.size), .map (some (w.heap.size + 1)), .slice none 0 0, .int .i64 (-1), .bool false, .slice none 0 0] 93 = X at *
  have m1' : MapI (((w.alloc (.map #[] 0)).alloc (.map #[] 0)).alloc X) w.heap.size 0 (fun _ => .slice none 0 0) := m1.below (by rw [heap_alloc_old _ _ (by omega), heap_alloc_old _ _ (by omega)])
  have m2' : MapI (((w.alloc (.map #[] 0)).alloc (.map #[] 0)).alloc X) (w.heap.size + 1) 0 (fun _ => .slice none 0 0) := m2.below (by rw [heap_alloc_old _ _ (by omega)])
  exact ⟨⟨w.heap.size, w.heap.size + 1, _, _, r, by omega, by omega, by omega, by omega, ⟨_, m1', fun _ => BytesAt.nil_ _ _⟩, ⟨_, m2', fun _ => BytesAt.nil_ _ _⟩,
    ⟨[], rfl, fun k u x h => by simp at h, ⟨by simp, .inl ⟨rfl, rfl⟩⟩⟩, ⟨[], rfl, fun k u x h => by simp at h, ⟨by simp, .inl ⟨rfl, rfl⟩⟩⟩⟩⟩
set_option maxHeartbeats 1000000 in
theorem c_diskNew (bl sz : Int) (w : World) (h1 : -9223372036854775808 ≤ bl ∧ bl ≤ 9223372036854775807) (h2 : -9223372036854775808 ≤ sz ∧ sz ≤ 9223372036854775807) :
    Calls Try.prog 17 #[.int .i64 bl, .int .i64 sz] w fun e w' => ∃ b, e = .returned (.pointer (some ⟨b, 0, none⟩)) ∧ DiskAt w' w.heap.size b (dkNew bl sz) ∧ Below w.heap.size w w' := by
  have hmm := @run_makeMap Try.prog
  go_enter Try.func17, Try.ntmps17
  go_wp2
  all_goals
    go_ret
    refine ⟨_, rfl, ?_, below_alloc (below_alloc (below_alloc (Below.refl _ _) _) _) _⟩
    unfold dkNew
    first
    | (rw [show min (max bl 0) 100000 = 0 by omega]) | (rw [show min (max bl 0) 100000 = 100000 by omega]) | (rw [show min (max bl 0) 100000 = bl by omega])
    first
    | (rw [show min (max sz 0) 60000 = 0 by omega]) | (rw [show min (max sz 0) 60000 = 60000 by omega]) | (rw [show min (max sz 0) 60000 = sz by omega])
    exact diskNew_at w _ _
/-- whether there is such a place -/
def Dk.has (D : Dk) (at_ : Int) : Bool := decide (0 ≤ at_) && decide (at_ < D.blocks)
theorem c_diskHas (W : World) (base b : Nat) (D : Dk) (at_ : Int) (r : Bool) (h : DiskAt W base b D) (hr : D.has at_ = r) :
    Calls Try.prog 64 #[.pointer (some ⟨b, 0, none⟩), .int .i64 at_] W fun e w' => e = .returned (.bool r) ∧ W = w' := by
  obtain ⟨mS, mN, lv, tv, hrow, -⟩ := h.out
  have c0 := hrow.cell 0 rfl
  clear hrow
  obtain ⟨B, S, _, _, _, _, _, _, _, _⟩ := D
  unfold Dk.has at hr
  simp only at hr c0
  by_cases q1 : 0 ≤ at_
  · by_cases q2 : at_ < B
    · obtain rfl : true = r := by rw [← hr]; simp [q1, q2]
      go_enter Try.func64, Try.ntmps64
      go_wp2
      go_ret
      exact ⟨rfl, rfl⟩
    · obtain rfl : false = r := by rw [← hr]; simp [q1, q2]
      go_enter Try.func64, Try.ntmps64
      go_wp2
      go_ret
      exact ⟨rfl, rfl⟩
  · obtain rfl : false = r := by rw [← hr]; simp [q1]
    go_enter Try.func64, Try.ntmps64
    go_wp2
    go_ret
    exact ⟨rfl, rfl⟩
end Go.Proofs.Ytmdmhjcdaejlkaa

/- Contracts of the device: count. -/
set_option linter.unusedVariables false
set_option linter.unusedSimpArgs false
namespace Go.Proofs.Ytmdmhjcdaejlkaa
open Go.RowKit

/-- a map's block is none of cells -/
theorem MapI.ne {W : World} {m n b : Nat} {f : Int → Value} {c : Array Value} {T : TypeId} (h : MapI W m n f) (hr : Row W b c T) : m ≠ b := by
  rintro rfl
  obtain ⟨D, ⟨es, cl, hb, _⟩, _⟩ := h.out
  have := hb.symm.trans hr
  cases this
theorem MapB.ne {W : World} {base m n b : Nat} {f : Int → List UInt8} {c : Array Value} {T : TypeId} (h : MapB W base m n f) (hr : Row W b c T) : m ≠ b := by
  obtain ⟨g, hg, _⟩ := h.out
  exact hg.ne hr
theorem own_keep {W W' : World} {base n : Nat} {e T : TypeId} {size b : Nat} {v : Value} {xs : List Value} {c old : Array Value} (h : W.ownsRow base e size v n xs) (hu : Upd b c T W W') (hr : Row W b old T) (he : e ≠ T) : W'.ownsRow base e size v n xs := by
  refine ⟨h.1, ?_⟩
  rcases h.2 with h | ⟨g, cap, cur, hv, hg, hh, r⟩
  · exact .inl h
  · refine .inr ⟨g, cap, cur, hv, hg, ?_, r⟩
    rw [hu.rest g (fun e' => ?_)]
    · exact hh
    · subst e'
      have := hh.symm.trans hr
      simp at this
      exact he this.2
/-- the struct's row turned: the rest stays -/
theorem disk_turn {W W' : World} {base b : Nat} {D : Dk} {mS mN : Nat} {lv tv : Value} {old c : Array Value} (hr : Row W b old 93) (hu : Upd b c 93 W W') (hb : base ≤ b)
    (h1 : MapB W base mS D.cS D.stable) (h2 : MapB W base mN D.cN D.now) (h3 : LooseAt W base lv D.loose) (h4 : TraceAt W base tv D.trace) :
    DR dTy base W W' ∧ MapB W' base mS D.cS D.stable ∧ MapB W' base mN D.cN D.now ∧ LooseAt W' base lv D.loose ∧ TraceAt W' base tv D.trace := by
  have hd : DR dTy base W W' := DR.of_upd hu hr (by decide) hb
  refine ⟨hd, h1.keep hd (hu.rest _ (h1.ne hr)), h2.keep hd (hu.rest _ (h2.ne hr)), ?_, ?_⟩
  · obtain ⟨vs, a1, a2, a3⟩ := h3
    exact ⟨vs, a1, fun k u x e1 e2 => (a2 k u x e1 e2).keep hd (by decide), own_keep a3 hu hr (by decide)⟩
  · obtain ⟨vs, a1, a2, a3⟩ := h4
    exact ⟨vs, a1, fun k u x e1 e2 => ⟨(a2 k u x e1 e2).1.keep hd (by decide), (a2 k u x e1 e2).2⟩, own_keep a3 hu hr (by decide)⟩
def goneV : Value := .iface 112 (.agg #[])
def gonePanic : Ending := .panicked [{ v := goneV, recovered := false }]
/-- does the power fail at the next step? -/
def Dk.goes (D : Dk) : Bool := D.off || (D.after == 0)
/-- what a step that is done leaves of the count -/
def Dk.step (D : Dk) : Dk := { D with off := false, after := if 0 < D.after then D.after - 1 else D.after }
def Dk.dead (D : Dk) : Dk := { D with off := true }
set_option maxHeartbeats 1000000 in
theorem c_countNo (W : World) (base b : Nat) (D : Dk) (h : DiskAt W base b D) (hg : D.goes = true) :
    Calls Try.prog 61 #[.pointer (some ⟨b, 0, none⟩)] W fun e w' => e = gonePanic ∧ DiskAt w' base b D.dead ∧ DR dTy base W w' := by
  obtain ⟨mS, mN, lv, tv, hrow, hb, hS, hN, hne, h1, h2, h3, h4⟩ := h.out
  have hr6 := hrow.set 6 (.bool true)
  have ht := disk_turn hrow (upd_cell (j := 6) hrow (.bool true)) hb h1 h2 h3 h4
  have fin : DiskAt (W.setCell ⟨b, 6, none⟩ (.bool true)) base b D.dead ∧ DR dTy base W (W.setCell ⟨b, 6, none⟩ (.bool true)) :=
    ⟨⟨mS, mN, lv, tv, hr6, hb, hS, hN, hne, ht.2.1, ht.2.2.1, ht.2.2.2.1, ht.2.2.2.2⟩, ht.1⟩
  have c5 := hrow.cell 5 rfl
  have c6 := hrow.cell 6 rfl
  have fz := hrow.free
  clear hrow hr6 ht h1 h2 h3 h4 h
  unfold Dk.goes at hg
  generalize D.dead = D' at fin
  obtain ⟨_, _, _, _, _, _, _, af, off, _⟩ := D
  simp only at c5 c6 hg
  cases off with
  | true =>
    clear hg
    go_enter Try.func61, Try.ntmps61
    go_wp2
    exact ⟨rfl, rfl, fin⟩
  | false =>
    obtain rfl : af = 0 := by simpa using hg
    clear hg
    go_enter Try.func61, Try.ntmps61
    go_wp2
    exact ⟨rfl, rfl, fin⟩
set_option maxHeartbeats 1000000 in
theorem c_countYes (W : World) (base b : Nat) (D : Dk) (h : DiskAt W base b D) (hg : D.goes = false) (haf : D.after ≤ 9223372036854775807) :
    Calls Try.prog 61 #[.pointer (some ⟨b, 0, none⟩)] W fun e w' => e = .returned (.tuple #[]) ∧ DiskAt w' base b D.step ∧ DR dTy base W w' := by
  obtain ⟨mS, mN, lv, tv, hrow, hb, hS, hN, hne, h1, h2, h3, h4⟩ := h.out
  have hr6 := hrow.set 6 (.bool false)
  have ht := disk_turn hrow (upd_cell (j := 6) hrow (.bool false)) hb h1 h2 h3 h4
  have ht2 := fun v => disk_turn (c := _) hr6 (upd_cell (j := 5) hr6 (.int .i64 v)) hb ht.2.1 ht.2.2.1 ht.2.2.2.1 ht.2.2.2.2
  have fin0 : ¬ 0 < D.after → DiskAt (W.setCell ⟨b, 6, none⟩ (.bool false)) base b D.step ∧ DR dTy base W (W.setCell ⟨b, 6, none⟩ (.bool false)) := fun hq =>
    ⟨⟨mS, mN, lv, tv, (by unfold Dk.step; rw [if_neg hq]; exact hr6), hb, hS, hN, hne, ht.2.1, ht.2.2.1, ht.2.2.2.1, ht.2.2.2.2⟩, ht.1⟩
  have fin1 : 0 < D.after → DiskAt ((W.setCell ⟨b, 6, none⟩ (.bool false)).setCell ⟨b, 5, none⟩ (.int .i64 (D.after - 1))) base b D.step ∧ DR dTy base W ((W.setCell ⟨b, 6, none⟩ (.bool false)).setCell ⟨b, 5, none⟩ (.int .i64 (D.after - 1))) := fun hq =>
    ⟨⟨mS, mN, lv, tv, (by unfold Dk.step; rw [if_pos hq]; exact hr6.set 5 _), hb, hS, hN, hne, (ht2 _).2.1, (ht2 _).2.2.1, (ht2 _).2.2.2.1, (ht2 _).2.2.2.2⟩, ht.1.trans (ht2 _).1⟩
  have c5 := hrow.cell 5 rfl
  have c6 := hrow.cell 6 rfl
  have fz := hrow.free
  clear hrow hr6 ht ht2 h1 h2 h3 h4 h
  unfold Dk.goes at hg
  generalize D.step = D' at fin0 fin1
  obtain ⟨_, _, _, _, _, _, _, af, off, _⟩ := D
  simp only at c5 c6 hg fin0 fin1 haf
  simp only [Bool.or_eq_false_iff, beq_eq_false_iff_ne] at hg
  obtain ⟨rfl, hz⟩ := hg
  have hz' : (af == 0) = false := by simp [hz]
  by_cases hq : 0 < af
  · have fin := fin1 hq
    clear fin0 fin1 hz
    go_enter Try.func61, Try.ntmps61
    go_wp2
    refine bodyPost_end (by simp [results, Try.results61]) rfl ⟨rfl, fin⟩
  · have fin := fin0 hq
    clear fin0 fin1 hz
    go_enter Try.func61, Try.ntmps61
    go_wp2
    refine bodyPost_end (by simp [results, Try.results61]) rfl ⟨rfl, fin⟩
end Go.Proofs.Ytmdmhjcdaejlkaa

/- Contracts of the device: block. -/
set_option linter.unusedVariables false
set_option linter.unusedSimpArgs false
namespace Go.Proofs.Ytmdmhjcdaejlkaa
open Go.RowKit

/-- a known row, as the call's own -/
theorem row_own {W : World} {B g n : Nat} {xs : List UInt8} (h : Row W g (bv xs).toArray 5) (hl : xs.length = n) (hB : B ≤ g) (hn : n ≤ maxLen) : OwnB W B 5 (.slice (some ⟨g, 0, none⟩) n n) xs := by
  subst hl
  refine ⟨by rw [bv_length, Nat.mul_one], .inr ⟨g, xs.length, _, rfl, hB, h, Nat.le_refl _, hn, by simp [bv_length], ?_⟩⟩
  rw [Nat.mul_one, ← bv_length xs]
  exact List.take_length
/-- bytes as a block of so many -/
def fitL (n : Int) (xs : List UInt8) : List UInt8 := copyL (List.replicate n.toNat 0) xs
theorem fitL_length (n : Int) (xs : List UInt8) : (fitL n xs).length = n.toNat := by simp [fitL, copyL_length]
/-- a full row of the call's own, as a row -/
theorem own_row {W : World} {B g n : Nat} {xs : List UInt8} (h : OwnB W B 5 (.slice (some ⟨g, 0, none⟩) n n) xs) : Row W g (bv xs).toArray 5 := by
  rcases h.2 with ⟨h0, _⟩ | ⟨g', cap, cur, hv, _, hh, _, _, hsz, ht⟩
  · cases h0
  · cases hv
    have hl : cur.size = xs.length := by rw [hsz, Nat.mul_one]
    have : cur = (bv xs).toArray := by rw [← ht, Nat.mul_one, ← hl, ← Array.length_toList, List.take_length]
    unfold Row
    rw [hh, this]
set_option maxHeartbeats 1000000 in
set_option maxRecDepth 100000 in
theorem c_diskBlock (W : World) (base b mb nb : Nat) (D : Dk) (m : Int → List UInt8) (at_ : Int) (h : DiskAt W base b D) (hm : MapB W base mb nb m) (hat : (Lit.int .i64 at_).wf = true) (hh : D.has at_ = true) (hs : 0 ≤ D.size ∧ D.size ≤ 60000) :
    Calls Try.prog 69 #[.pointer (some ⟨b, 0, none⟩), .map (some mb), .int .i64 at_] W fun e w' => ∃ v, e = .returned v ∧ OwnB w' W.heap.size 5 v (fitL D.size (m at_)) ∧ Below W.heap.size W w' := by
  obtain ⟨mS, mN, lv, tv, hrow, hrest⟩ := h.out
  have c1 := hrow.cell 1 rfl
  obtain ⟨f, hf, hbt⟩ := hm.out
  have hb := hbt at_
  obtain ⟨sz, hsz⟩ : ∃ sz : Nat, D.size = (sz : Int) := ⟨D.size.toNat, by omega⟩
  rw [hsz] at c1
  have HAT := Lib.hid hat
  have hs2 : sz ≤ 60000 := by omega
  have HSZ := Lib.hid (show D.size.toNat = sz by omega)
  obtain ⟨A, c, hfa, q1, q2, q3, q4⟩ := hb
  clear hrest hbt q2 hat hsz
  go_enter Try.func69, Try.ntmps69
  go_upto_region 3 with (go_at_call 64; refine (c_diskHas _ base b D _ true h hh).mono ?_; rintro e w' ⟨rfl, rfl⟩)
  go_wp2_with (first | (at_make; refine wpl_makeB (n := sz) rfl rfl rfl rfl (by omega) ?_; intro W1 ho hB1 hs1; have hlk1 := run_look (hf.below (hB1.block _ hf.lt)) at_ HAT.out; rw [hfa] at hlk1; have hr1 := q3.below hB1 (Nat.le_refl _); have hrow1 : Row W1 W.heap.size (bv (List.replicate sz 0)).toArray 5 := own_row ho) | (refine wpl_copyB (xs := List.replicate sz 0) (ys := m at_) (cap := sz) rfl rfl (by rw [List.length_replicate]; rfl) rfl hrow1 hr1 ?_; intro W2 y hu2))
  go_ret
  have hsz' : D.size.toNat = sz := HSZ.out
  refine ⟨_, rfl, ?_, hB1.trans (hu2.below (Nat.le_refl _))⟩
  unfold fitL
  rw [hsz']
  exact row_own hu2.row (by rw [copyL_length, List.length_replicate]) (Nat.le_refl _) (by unfold maxLen; omega)
end Go.Proofs.Ytmdmhjcdaejlkaa

/- Frames by type, maps named; an element of any size appended; a copy into a known block. -/
set_option linter.unusedVariables false
set_option linter.unusedSimpArgs false
namespace Go.Proofs.Ytmdmhjcdaejlkaa
open Go.RowKit

/-- below 'base' all is as it was; blocks of types not in S, and maps not in M, are as they were -/
structure FR (S : List TypeId) (M : List Nat) (base : Nat) (W W' : World) : Prop where
  dr : DR S base W W'
  maps : ∀ k es cl, W.heap[k]? = some (.map es cl) → k ∉ M → W'.heap[k]? = W.heap[k]?
theorem FR.refl (S : List TypeId) (M : List Nat) (base : Nat) (W : World) : FR S M base W W := ⟨DR.refl _ _ _, fun _ _ _ _ _ => rfl⟩
theorem FR.trans {S : List TypeId} {M : List Nat} {base : Nat} {a b c : World} (h1 : FR S M base a b) (h2 : FR S M base b c) : FR S M base a c :=
  ⟨h1.dr.trans h2.dr, fun k es cl hk hM => by
    have e := h1.maps k es cl hk hM
    rw [← e]
    exact h2.maps k es cl (e.trans hk) hM⟩
theorem FR.of_below {S : List TypeId} {M : List Nat} {base : Nat} {W W' : World} (h : Below W.heap.size W W') (hb : base ≤ W.heap.size) : FR S M base W W' :=
  ⟨DR.of_below h hb, fun k es cl hk _ => h.block k (Array.getElem?_eq_some_iff.1 hk).1⟩
theorem FR.drew {S : List TypeId} {M : List Nat} {base : Nat} {W W' : World} (h : FR S M base W W') : FR S M base W W'.drew := ⟨h.dr.drew, h.maps⟩
theorem FR.drewN {S : List TypeId} {M : List Nat} {base : Nat} {W W' : World} (h : FR S M base W W') (n : Nat) : FR S M base W (W'.drewN n) := ⟨⟨below_drewN h.dr.below n, h.dr.typ⟩, h.maps⟩
theorem wayF (S : List TypeId) (M : List Nat) (base : Nat) : Way (FR S M base) := ⟨FR.refl S M base, FR.trans, fun w => (FR.refl S M base w).drew⟩
theorem FR.less {S S' : List TypeId} {M M' : List Nat} {base : Nat} {W W' : World} (h : FR S M base W W') (hS : ∀ T ∈ S, T ∈ S') (hM : ∀ T ∈ M, T ∈ M') : FR S' M' base W W' :=
  ⟨h.dr.less hS, fun k es cl hk hm => h.maps k es cl hk (fun q => hm (hM k q))⟩
theorem FR.of_upd {S : List TypeId} {M : List Nat} {base g : Nat} {c old : Array Value} {T : TypeId} {W W' : World} (hu : Upd g c T W W') (hr : Row W g old T) (hT : T ∈ S) (hb : base ≤ g) : FR S M base W W' :=
  ⟨DR.of_upd hu hr hT hb, fun k es cl hk _ => hu.rest k (fun e => by subst e; have := hk.symm.trans hr; cases this)⟩
theorem FR.of_own {S : List TypeId} {M : List Nat} {base n : Nat} {e : TypeId} {size : Nat} {v : Value} {xs : List Value} {W W' : World} (hg : W.grownBy W' v.ownBlock) (ho : W.ownsRow base e size v n xs) (hT : e ∈ S) (hb : base ≤ W.heap.size) : FR S M base W W' :=
  ⟨DR.of_own hg ho hT hb, fun k es cl hk _ => hg.block k (Array.getElem?_eq_some_iff.1 hk).1 (fun e' => by
    rcases ho.2 with ⟨rfl, _⟩ | ⟨g, cap, cur, rfl, hbg, hh, _⟩
    · simp [Value.ownBlock] at e'
    · simp [Value.ownBlock] at e'
      subst e'
      rw [hh] at hk
      cases hk)⟩
theorem FR.of_map {S : List TypeId} {M : List Nat} {base b : Nat} {W W' : World} (hg : W.grownBy W' (some b)) (hm : ∃ es cl, W.heap[b]? = some (.map es cl)) (hb : base ≤ b) (hM : b ∈ M) : FR S M base W W' :=
  ⟨DR.of_map hg hm hb, fun k es cl hk hk' => hg.block k (Array.getElem?_eq_some_iff.1 hk).1 (fun e => by cases e; exact hk' hM)⟩
theorem FR.size {S : List TypeId} {M : List Nat} {base : Nat} {W W' : World} (h : FR S M base W W') : W.heap.size ≤ W'.heap.size := h.dr.below.size
theorem FR.row {S : List TypeId} {M : List Nat} {base b : Nat} {W W' : World} {c : Array Value} {T : TypeId} (h : FR S M base W W') (hr : Row W b c T) (hT : T ∉ S) : Row W' b c T := h.dr.typ _ _ _ _ hr hT
theorem FR.cell {S : List TypeId} {M : List Nat} {base b j : Nat} {W W' : World} {c : Array Value} {T : TypeId} (h : FR S M base W W') (hr : Row W b c T) (hT : T ∉ S) {v : Value} (hv : c[j]? = some v) : W'.cell? ⟨b, j, none⟩ = some v := (h.row hr hT).cell j hv
theorem own_fr {S : List TypeId} {M : List Nat} {base B n : Nat} {e : TypeId} {size : Nat} {v : Value} {xs : List Value} {W W' : World} (h : W.ownsRow B e size v n xs) (hf : FR S M base W W') (he : e ∉ S) : W'.ownsRow B e size v n xs := by
  refine ⟨h.1, ?_⟩
  rcases h.2 with h | ⟨g, cap, cur, hv, hg, hh, r⟩
  · exact .inl h
  · exact .inr ⟨g, cap, cur, hv, hg, hf.dr.typ _ _ _ _ hh he, r⟩
theorem MapI.isMap {W : World} {b n : Nat} {f : Int → Value} (h : MapI W b n f) : ∃ es cl, W.heap[b]? = some (.map es cl) := by
  obtain ⟨D, ⟨es, cl, hb, _⟩, _⟩ := h.out
  exact ⟨es, cl, hb⟩
theorem MapB.isMap {W : World} {base b n : Nat} {f : Int → List UInt8} (h : MapB W base b n f) : ∃ es cl, W.heap[b]? = some (.map es cl) := by
  obtain ⟨g, hg, _⟩ := h.out
  exact hg.isMap
theorem MapB.fr {S : List TypeId} {M : List Nat} {base bs b n : Nat} {m : Int → List UInt8} {W W' : World} (h : MapB W base b n m) (hf : FR S M bs W W') (hS : 5 ∉ S) (hb : b ∉ M) (hbs : base ≤ bs) : MapB W' base b n m := by
  obtain ⟨es, cl, hm⟩ := h.isMap
  obtain ⟨f, hf', hbt⟩ := h.out
  refine ⟨f, hf'.below (hf.maps b es cl hm hb), fun i => ?_⟩
  obtain ⟨A, c, e, h1, h2, hr, hq⟩ := hbt i
  have h3 := BytesAt.keep (base := bs) ⟨A, c, e, h1, h2, hr, fun ad ea h0 => (hq ad ea h0).imp (fun h => by omega) id⟩ hf.dr hS
  obtain ⟨A', c', e', h1', h2', hr', _⟩ := h3
  rw [e] at e'
  simp only [Value.slice.injEq] at e'
  obtain ⟨rfl, -, rfl⟩ := e'
  exact ⟨A, c, e, h1, h2, hr', fun ad ea h0 => (hq ad ea h0).imp id fun ⟨cs, fr, h⟩ => ⟨cs, fr, hf.dr.typ _ _ _ _ h hS⟩⟩
theorem LooseAt.fr {S : List TypeId} {M : List Nat} {base : Nat} {v : Value} {l : List (Int × List UInt8)} {W W' : World} (h : LooseAt W base v l) (hf : FR S M base W W') (hS : 5 ∉ S) (hw : 101 ∉ S) : LooseAt W' base v l := by
  obtain ⟨vs, a1, a2, a3⟩ := h
  exact ⟨vs, a1, fun k u x e1 e2 => (a2 k u x e1 e2).keep hf.dr hS, own_fr a3 hf hw⟩
theorem TraceAt.fr {S : List TypeId} {M : List Nat} {base : Nat} {v : Value} {l : List Ev} {W W' : World} (h : TraceAt W base v l) (hf : FR S M base W W') (hS : 5 ∉ S) (hw : 45 ∉ S) : TraceAt W' base v l := by
  obtain ⟨vs, a1, a2, a3⟩ := h
  exact ⟨vs, a1, fun k u x e1 e2 => ⟨(a2 k u x e1 e2).1.keep hf.dr hS, (a2 k u x e1 e2).2⟩, own_fr a3 hf hw⟩
/-- one element of any size appended, at a single operation -/
theorem wp_appOne {o : Oper} {a : Act} {W : World} {K : Act → World → Prop} {Q : Exit → Act → World → Prop} {s x : Operand} {t e : TypeId} {z v : Value} {size bytes base n c : Nat} {xs news : List Value} {ad : Addr}
    (ho : o.op = .call { callee := .builtin .append, args := #[s, x], argTypes := #[t, t] }) (ht : Try.prog.underlying t = some (.slice e))
    (hi : (Try.prog.info? e).map (fun i => (i.zero, i.size, i.bytes)) = some (some z, size, bytes)) (hz : z.cells.size = size) (hsz : 0 < size) (hby : bytes ≤ 1000)
    (hs : a.eval s = v) (hx : a.eval x = .slice (some ad) 1 c) (hown : W.ownsRow base e size v n xs) (hl : news.length = size) (hc : ∀ j u, news[j]? = some u → W.cell? (ad.add j) = some u) (h1 : ∀ u ∈ news, u.oneCell' = true)
    (hn : n ≤ 1000000) (hbase : base ≤ W.heap.size)
    (hK : ∀ v' W', W'.ownsRow base e size v' (n + 1) (xs ++ news) → W.grownBy W' v.ownBlock → K (a.put o.dst v') W') : o.wp Try.prog a W K Q := by
  obtain ⟨i, hi1, hi2⟩ := Option.map_eq_some_iff.1 hi
  simp only [Prod.mk.injEq] at hi2
  obtain ⟨z0, z1, z2⟩ := hi2
  have hb : (n + 1) * bytes ≤ 140737488355328 := Nat.le_trans (Nat.mul_le_mul (show n + 1 ≤ 1000001 by omega) hby) (by decide)
  obtain ⟨v', w', hrun, h2, h3, _, h5⟩ := run_append_own_at (P := Try.prog) (w := W) base t o.type e i z size bytes ht hi1 z0 z1 z2 hz hsz v n xs hown ad 1 c news (by omega) hc h1 (by unfold maxLen; omega) hb hbase
  unfold Oper.wp execOp
  simp only [ho, resolve, invoke, builtin, Sem.run_bind, Sem.run_pure, Result.andThen_ok, List.map_toArray, List.map_cons, List.map_nil, hs, hx, hrun]
  exact hK v' w' h2 h3
theorem news_at (W : World) (vs : List Value) (e : TypeId) : ∀ j u, vs[j]? = some u → (W.alloc (.cells vs.toArray e)).cell? ((⟨W.heap.size, 0, none⟩ : Addr).add j) = some u := by
  intro j u hu
  have h0 : 0 < vs.length := by
    rcases Nat.eq_zero_or_pos vs.length with h | h
    · have : vs = [] := List.eq_nil_of_length_eq_zero h
      subst this
      cases hu
    · exact h
  obtain ⟨ad, ea, hc⟩ := (rd_lit W vs e (0, 0) vs.length rfl).2 h0
  cases ea
  exact hc j u hu
end Go.Proofs.Ytmdmhjcdaejlkaa

/- A slice literal of one element, a struct. -/
set_option linter.unusedVariables false
namespace Go.Proofs.Ytmdmhjcdaejlkaa
open Go.RowKit

theorem take_set (L : List Value) (k : Nat) (c : Value) (h : k < L.length) : (L.set k c).take (k + 1) = L.take k ++ [c] := by
  rw [List.take_add_one, List.take_set_of_le (Nat.le_refl k), List.getElem?_set_self h]
  rfl
theorem lay_list : ∀ (l : List Value) (k : Nat) (a : Array Value), a.size = k + l.length → (l.zipIdx k).foldl (fun cs x => cs.setIfInBounds (0 + x.2) x.1) a = (a.toList.take k ++ l).toArray
  | [], k, a, h => by
    simp only [List.zipIdx_nil, List.foldl_nil, List.append_nil]
    rw [List.take_of_length_le (by simp at h; simp; omega)]
  | c :: l, k, a, h => by
    simp only [List.zipIdx_cons, List.foldl_cons]
    rw [lay_list l (k + 1) _ (by simp at h ⊢; omega), Nat.zero_add, Array.toList_setIfInBounds, take_set _ _ _ (by simp at h ⊢; omega)]
    simp
theorem fill_one (cs : Array Value) (n : Nat) (init : Array Value) (hi : init.size = n) (hn : cs.size = n) : Instr.fill (fun i => some (i * n, n)) init [(0, .agg cs)] = some cs := by
  have hc : (Value.agg cs).cells = cs := rfl
  unfold Instr.fill
  simp only [hc, Nat.zero_mul, Nat.zero_add]
  subst hn
  rw [if_neg (by rw [hi]; simp)]
  unfold Instr.fill
  congr 1
  have e := lay_list cs.toList 0 init (by simp; omega)
  simp only [Nat.zero_add] at e
  have e2 : Array.foldl (fun cs x => cs.setIfInBounds x.2 x.1) init cs.zipIdx = List.foldl (fun cs x => cs.setIfInBounds x.2 x.1) init (cs.toList.zipIdx 0) := by
    rw [← Array.foldl_toList, Array.toList_zipIdx]
  rw [e2, e]
  simp
theorem wp_buildOne {P : Program} {o : Oper} {a : Act} {w : World} {K : Act → World → Prop} {Q : Exit → Act → World → Prop} {t e : TypeId} {x : Operand} {vs : List Value} {z : Value} {size : Nat} (ho : o.op = .buildSlice t 1 #[(0, x)])
    (hu : P.underlying t = some (.slice e)) (hi : (P.info? e).map (fun i => (i.zero, i.size)) = some (some z, size)) (hs : 0 < size ∧ size < 1000000) (hx : a.eval x = .agg vs.toArray) (hl : vs.length = size)
    (h : K (a.put o.dst (.slice (some ⟨w.heap.size, 0, none⟩) 1 1)) (w.alloc (.cells vs.toArray e))) : o.wp P a w K Q := by
  obtain ⟨i, hi1, hi2⟩ := Option.map_eq_some_iff.1 hi
  simp only [Prod.mk.injEq] at hi2
  obtain ⟨z0, z1⟩ := hi2
  refine wp_buildSlice t e 1 _ ho vs.toArray i z hu hi1 z0 (by rw [z1]; omega) (by rw [z1]; omega) ?_ h
  have e1 : ((#[(0, x)] : Array (Nat × Operand)).map fun (i, x) => (i, a.eval x)).toList = [(0, .agg vs.toArray)] := by simp [hx]
  rw [e1, z1]
  exact fill_one _ _ _ (by simp) (by simp [hl])
end Go.Proofs.Ytmdmhjcdaejlkaa

/- Contracts of the device: note. -/
set_option linter.unusedVariables false
set_option linter.unusedSimpArgs false
namespace Go.Proofs.Ytmdmhjcdaejlkaa
open Go.RowKit

/-- copy into a part of a block whose row is known, at a single operation -/
theorem wp_copyP {o : Oper} {a : Act} {W : World} {K : Act → World → Prop} {Q : Exit → Act → World → Prop} {d s : Operand} {g off n cap m c : Nat} {cur : Array Value} {T : TypeId} {A : Option Addr} {ys : List UInt8}
    (ho : o.op = .call { callee := .builtin .copy, args := #[d, s], argTypes := #[24, 24] }) (hd : a.eval d = .slice (some ⟨g, off, none⟩) n cap) (hs : a.eval s = .slice A m c)
    (hrow : Row W g cur T) (hr : RdB W A m ys) (hfit : off + n ≤ cur.size)
    (hK : ∀ W' y, Upd g (cur.toList.take off ++ ((bv ys).take (min m n) ++ cur.toList.drop (off + min m n))).toArray T W W' → K (a.put o.dst y) W') : o.wp Try.prog a W K Q := by
  have hsz : (Try.prog.info? 5).map (·.size) = some 1 := by kernel_rfl
  have hlen := hr.len
  by_cases h0 : min m n = 0
  · have hrun := run_copy_none (P := Try.prog) W 24 24 o.type 5 (some ⟨g, off, none⟩) A n cap m c Try.underlying24 hsz h0
    unfold Oper.wp
    simp [execOp, ho, resolve, invoke, builtin, hd, hs, hrun, Result.andThen]
    refine hK W _ ?_
    rw [h0]
    simpa using upd_refl hrow
  · obtain ⟨ad, rfl, hc⟩ := hr.2 (by omega)
    have hl : ((bv ys).take (min m n)).length = min m n := by rw [List.length_take, bv_length]; omega
    have hrun := run_copy_row (P := Try.prog) W 24 24 o.type 5 g off n cap ad m c cur T ((bv ys).take (min m n)) Try.underlying24 hsz hrow hl (fun j v hv => by
      rw [List.getElem?_take] at hv
      by_cases hj : j < min m n
      · rw [if_pos hj] at hv; exact hc j v hv
      · rw [if_neg hj] at hv; cases hv) (by omega) (fun v hv => bv_cells ys v (List.mem_of_mem_take hv))
    unfold Oper.wp execOp
    simp only [ho, resolve, invoke, builtin, Sem.run_bind, Sem.run_pure, Result.andThen_ok, List.map_toArray, List.map_cons, List.map_nil, hd, hs, hrun]
    refine hK _ _ ?_
    rw [hl, List.append_assoc]
    exact upd_set hrow
/-- the first twelve bytes -/
def headL (xs : List UInt8) : List UInt8 := xs.take 12 ++ List.replicate (12 - min xs.length 12) 0
theorem headL_length (xs : List UInt8) : (headL xs).length = 12 := by simp [headL]; omega
def Dk.noted (D : Dk) (e : Ev) : Dk := { D with trace := D.trace ++ [e] }
theorem info_event : (Try.prog.info? 45).map (fun i => (i.zero, i.size, i.bytes)) = some (some (.agg #[.int .i64 0, .int .i64 0, .int .u8 0, .int .u8 0, .int .u8 0, .int .u8 0, .int .u8 0, .int .u8 0, .int .u8 0, .int .u8 0, .int .u8 0, .int .u8 0, .int .u8 0, .int .u8 0, .slice none 0 0]), 15, 56) := by kernel_rfl
theorem info_event2 : (Try.prog.info? 45).map (fun i => (i.zero, i.size)) = some (some (.agg #[.int .i64 0, .int .i64 0, .int .u8 0, .int .u8 0, .int .u8 0, .int .u8 0, .int .u8 0, .int .u8 0, .int .u8 0, .int .u8 0, .int .u8 0, .int .u8 0, .int .u8 0, .int .u8 0, .slice none 0 0]), 15) := by kernel_rfl
def evC (kind at_ : Int) (hd : List UInt8) (u : Value) : List Value := [.int .i64 kind, .int .i64 at_] ++ bv hd ++ [u]
theorem evC_one (kind at_ : Int) (hd : List UInt8) (A : Option Addr) (n c : Nat) : ∀ v ∈ evC kind at_ hd (.slice A n c), v.oneCell' = true := by
  intro v hv
  unfold evC at hv
  rcases List.mem_append.1 hv with h | h
  · rcases List.mem_append.1 h with h | h
    · simp at h; rcases h with rfl | rfl <;> rfl
    · exact bv_cells _ _ h
  · simp at h; subst h; rfl
theorem evC_len (kind at_ : Int) (hd : List UInt8) (u : Value) (h : hd.length = 12) : (evC kind at_ hd u).length = 15 := by simp [evC, bv_length, h]
/-- the head's bytes laid into an event -/
theorem head_cells (kind at_ : Int) (u : Value) (xs : List UInt8) (m : Nat) (hm : m = min xs.length 12) :
    (evC kind at_ (List.replicate 12 0) u).take 2 ++ ((bv xs).take m ++ (evC kind at_ (List.replicate 12 0) u).drop (2 + m)) = evC kind at_ (headL xs) u := by
  subst hm
  unfold evC headL
  have e1 : ([Value.int .i64 kind, .int .i64 at_] ++ bv (List.replicate 12 0) ++ [u]).take 2 = [Value.int .i64 kind, .int .i64 at_] := by
    rw [List.append_assoc]; rfl
  have e2 : ([Value.int .i64 kind, .int .i64 at_] ++ bv (List.replicate 12 0) ++ [u]).drop (2 + min xs.length 12) = bv (List.replicate (12 - min xs.length 12) 0) ++ [u] := by
    rw [List.append_assoc, ← List.drop_drop]
    show List.drop (min xs.length 12) (bv (List.replicate 12 0) ++ [u]) = _
    rw [List.drop_append_of_le_length (by rw [bv_length, List.length_replicate]; omega), ← bv_drop, List.drop_replicate]
  rw [e1, e2, bv_append, bv_take]
  have e3 : (bv xs).take (min xs.length 12) = (bv xs).take 12 := by
    rcases Nat.le_total xs.length 12 with h | h
    · rw [Nat.min_eq_left h, List.take_of_length_le (by rw [bv_length]; omega), List.take_of_length_le (by rw [bv_length]; omega)]
    · rw [Nat.min_eq_right h]
  rw [e3]
  simp only [List.append_assoc]
theorem rg_alloc {S : List TypeId} {M : List Nat} {base g : Nat} {W : World} (hb : base ≤ W.heap.size) (hg : g < W.heap.size) (o : Obj) : RG (FR S M base) g W (W.alloc o) :=
  ⟨FR.of_below (below_alloc (Below.refl _ _) _) hb, heap_alloc_old W o hg⟩
theorem TraceAt.snoc {W' : World} {base : Nat} {v' u : Value} {l : List Ev} {e : Ev} {vs : List Value} (a1 : vs.length = l.length) (a2 : ∀ (k : Nat) u x, vs[k]? = some u → l[k]? = some x → BytesAt W' base u x.body ∧ x.head.length = 12)
    (a3 : W'.ownsRow base 45 15 v' (l.length + 1) (((l.zip vs).flatMap fun p => evCells p.1 p.2) ++ evCells e u))
    (hu : BytesAt W' base u e.body) (hh : e.head.length = 12) : TraceAt W' base v' (l ++ [e]) := by
  refine ⟨vs ++ [u], by simp [a1], fun k w x e1 e2 => ?_, ?_⟩
  · rcases Nat.lt_or_ge k l.length with hk | hk
    · rw [List.getElem?_append_left (by omega)] at e1
      rw [List.getElem?_append_left hk] at e2
      exact a2 k w x e1 e2
    · rw [List.getElem?_append_right (by omega), a1] at e1
      rw [List.getElem?_append_right hk] at e2
      have h0 : k - l.length = 0 := by
        rcases Nat.eq_zero_or_pos (k - l.length) with h | h
        · exact h
        · rw [List.getElem?_eq_none (by simp; omega)] at e2; cases e2
      rw [h0] at e1 e2
      cases e1
      cases e2
      exact ⟨hu, hh⟩
  · rw [List.length_append, List.zip_append a1.symm, List.flatMap_append]
    simpa using a3
set_option maxHeartbeats 1000000 in
set_option maxRecDepth 100000 in
theorem c_diskNote (W : World) (base b : Nat) (D : Dk) (kind at_ : Int) (v u : Value) (xs ys : List UInt8) (h : DiskAt W base b D) (hv : BytesAt W base v xs) (hu : BytesAt W base u ys) (hB : base ≤ W.heap.size) (hln : D.trace.length ≤ 1000000) :
    Calls Try.prog 62 #[.pointer (some ⟨b, 0, none⟩), .int .i64 kind, .int .i64 at_, v, u] W fun e w' => e = .returned (.tuple #[]) ∧ DiskAt w' base b (D.noted ⟨kind, at_, headL xs, ys⟩) ∧ DR dTy base W w' := by
  obtain ⟨mS, mN, lv, tv, hrow, hbb, hbS, hbN, hne, h1, h2, h3, h4⟩ := h.out
  obtain ⟨A, c, rfl, q1, q2, q3, q4⟩ := hv
  have hu0 := hu
  obtain ⟨A', c', rfl, p1, p2, p3, p4⟩ := hu
  unfold maxLen at q2
  clear p2 p3 p4 q4
  go_enter Try.func62, Try.ntmps62
  go_upto_region 1 with ((apply wpl_storeN; rfl; rfl; rfl; (first | rfl | simp); rfl; kernel_rfl; rfl; (simp [Value.oneCell']); simp only [Act.put]))
  have R1 := Row.new W (evC kind at_ (List.replicate 12 0) (.slice A' ys.length c')).toArray 45
  have hB1 : Below W.heap.size W (W.alloc (.cells (evC kind at_ (List.replicate 12 0) (.slice A' ys.length c')).toArray 45)) := below_alloc (Below.refl _ _) _
  have hq1 := q3.below hB1 (Nat.le_refl _)
  have hs1 : W.heap.size < (W.alloc (.cells (evC kind at_ (List.replicate 12 0) (.slice A' ys.length c')).toArray 45)).heap.size := by simp
  change Code.wp _ _ _ _ (W.alloc (.cells (evC kind at_ (List.replicate 12 0) (.slice A' ys.length c')).toArray 45))
  generalize W.alloc (.cells (evC kind at_ (List.replicate 12 0) (.slice A' ys.length c')).toArray 45) = W1 at *
  have hg : base ≤ W.heap.size := hB
  have hfit : 2 + 12 ≤ (evC kind at_ (List.replicate 12 0) (Value.slice A' ys.length c')).toArray.size := by rw [List.size_toArray, evC_len _ _ _ _ (by simp)]; decide
  obtain ⟨m, hm⟩ : ∃ m, m = min xs.length 12 := ⟨_, rfl⟩
  have hqm : RdB W1 A m (xs.take m) := by
    unfold RdB
    rw [bv_take]
    exact hq1.cut (by omega)
  have hmin : (if (12 : Int) < (xs.length : Int) then (12 : Int) else (xs.length : Int)) = (m : Int) := by split <;> omega
  have hmc : m ≤ c := by omega
  have hm12 : m ≤ 12 := by omega
  have hmI : (m : Int) ≤ (c : Int) := by omega
  have HM := Lib.hid hm
  clear hm
  (refine wp_region_linR (Below W.heap.size) (wayB W.heap.size) [(0, true), (1, true), (2, true), (3, true), (4, true), (5, true), (6, true), (7, false)] rfl rfl (by kernel_rfl) (by kernel_rfl) (fun _ _ _ _ _ h => h) ?_; (iterate 8 (first | (apply linR_take; (simp only [List.getElem?_toArray, List.getElem?_cons_succ, List.getElem?_cons_zero]; rfl); (rfl); (intro w' hb'; (first | (go_simp; done) | (go_simp; with_reducible rfl) | (go_simp; go_bits; with_reducible rfl) | (go_simp; go_bits; done))); try simp only [Act.put, List.setIfInBounds_toArray, List.set_cons_zero, List.set_cons_succ]) | (apply linR_skip; (simp only [List.getElem?_toArray, List.getElem?_cons_succ, List.getElem?_cons_zero]; rfl); (rfl); try simp only [Act.put, List.setIfInBounds_toArray, List.set_cons_zero, List.set_cons_succ]) | (apply linR_pass (wayB W.heap.size); (simp only [List.getElem?_toArray, List.getElem?_cons_succ, List.getElem?_cons_zero]; rfl); (rfl); try simp only [Act.put, List.setIfInBounds_toArray, List.set_cons_zero, List.set_cons_succ]) | (apply linR_op; (simp only [List.getElem?_toArray, List.getElem?_cons_succ, List.getElem?_cons_zero]; rfl); (rfl); intro K hK; (first | (refine wp_copyP (g := W.heap.size) (off := 2) (n := 12) (m := m) (T := 45) (cur := (evC kind at_ (List.replicate 12 0) (.slice A' ys.length c')).toArray) (ys := xs.take m) rfl (by first | rfl | (go_simp; rfl)) (by first | rfl | (go_simp; rfl)) R1 hqm hfit ?_; intro W2 y2 hu2; have hdr2 : Below W.heap.size _ _ := hu2.below (Nat.le_refl _)) | (go_simp; (first | skip))); refine hK _ _ ?_ ?_; (first | exact hdr2 | exact rk_refl _ _ _ | exact rk_set (by first | omega | (simp <;> omega)) (by simp) _ | exact rk_call (by first | omega | (simp <;> omega)) (by first | (simp; done) | (simp; omega)) (by assumption) | exact ⟨rfl, rfl, rfl, Nat.le_refl _, fun _ _ => rfl⟩ | assumption | exact belowB_alloc (by first | omega | (simp; omega) | simp) _ | exact below_anew (by first | omega | simp) _ _ | exact below_anew_drew (by first | omega | simp) _ _ | exact belowB_mono (by first | omega | (simp; omega) | simp) (by assumption)); clear hK; try simp only [Act.put, List.setIfInBounds_toArray, List.set_cons_zero, List.set_cons_succ]))); refine linR_end ?_)
  have R2 := hu2.row
  have eR : (evC kind at_ (List.replicate 12 0) (.slice A' ys.length c')).toArray.toList.take 2 ++ ((bv (xs.take m)).take (min m 12) ++ (evC kind at_ (List.replicate 12 0) (.slice A' ys.length c')).toArray.toList.drop (2 + min m 12)) = evC kind at_ (headL xs) (.slice A' ys.length c') := by
    rw [Nat.min_eq_left hm12, bv_take, List.take_take, Nat.min_self]
    exact head_cells _ _ _ _ _ HM.out
  rw [eR] at R2
  have hB2W : Below W.heap.size W W2 := (below_drew hB1).trans hdr2
  have hf2 : FR [] [] base W W2 := FR.of_below hB2W hB
  have hrow2 := hf2.row hrow (by simp)
  have h1' := h1.fr hf2 (by simp) (by simp) (Nat.le_refl _)
  have h2' := h2.fr hf2 (by simp) (by simp) (Nat.le_refl _)
  have h3' := h3.fr hf2 (by simp) (by simp)
  have h4' := h4.fr hf2 (by simp) (by simp)
  have hu2' := hu0.keep hf2.dr (by simp)
  have hs2 := hB2W.size
  have hB2 : base ≤ W2.heap.size := by omega
  have hgs : W.heap.size < W2.heap.size := by have := hdr2.size; simp at this; omega
  replace R2 : Row W2 W.heap.size (evC kind at_ (headL xs) (.slice A' ys.length c')).toArray 45 := R2
  have hfr0 := hf2
  obtain ⟨vs, a1, a2, a3⟩ := h4'
  have hneg : tv.ownBlock ≠ some W.heap.size := by
    intro e
    obtain ⟨vs0, -, -, b3⟩ := h4
    rcases b3.2 with ⟨rfl, _⟩ | ⟨g, cap, cur, rfl, _, hh, _⟩
    · simp [Value.ownBlock] at e
    · simp [Value.ownBlock] at e
      have := (Array.getElem?_eq_some_iff.1 hh).1
      omega
  have c7w := hrow2.cell 7 rfl
  clear hu2 hdr2 eR hqm R1 hB1 hq1 hs1 hfit h1 h2 h3 h4 hu0 hf2 hB2W hmin hmc hm12 hmI q1 q2 q3 hrow h p1
  go_upto_region 2 with (fail)
  (refine wp_region_linG (RG (FR [45] [] base) W.heap.size) (wayRG (wayF [45] [] base) W.heap.size) [(0, true), (1, true), (2, true), (3, true), (4, true), (5, true), (6, false), (7, false), (8, true), (9, true), (10, false)] rfl rfl (by kernel_rfl) (by kernel_rfl) (fun _ _ _ _ _ h => h) ?_; (iterate 11 (first | (apply linG_load (ty := 45) (vs := evC kind at_ (headL xs) (.slice A' ys.length c')); (simp only [List.getElem?_toArray, List.getElem?_cons_succ, List.getElem?_cons_zero]; rfl); (rfl); (rfl); (rfl); (intro _; kernel_rfl); (rw [evC_len _ _ _ _ (headL_length xs)]; kernel_rfl); (intro w' hR; exact row_cells (RG.row hR R2)); try simp only [Act.put, List.setIfInBounds_toArray, List.set_cons_zero, List.set_cons_succ]) | (apply linG_take; (simp only [List.getElem?_toArray, List.getElem?_cons_succ, List.getElem?_cons_zero]; rfl); (rfl); (intro w' hb'; (try have kc := FR.cell hb'.1 hrow2 (by decide) (j := 7) rfl); (first | (go_simp; done) | (go_simp; with_reducible rfl) | (go_simp; go_bits; with_reducible rfl) | (go_simp; go_bits; done))); try simp only [Act.put, List.setIfInBounds_toArray, List.set_cons_zero, List.set_cons_succ]) | (apply linG_skip; (simp only [List.getElem?_toArray, List.getElem?_cons_succ, List.getElem?_cons_zero]; rfl); (rfl); try simp only [Act.put, List.setIfInBounds_toArray, List.set_cons_zero, List.set_cons_succ]) | (apply linG_pass (wayRG (wayF [45] [] base) W.heap.size); (simp only [List.getElem?_toArray, List.getElem?_cons_succ, List.getElem?_cons_zero]; rfl); (rfl); try simp only [Act.put, List.setIfInBounds_toArray, List.set_cons_zero, List.set_cons_succ]) | (apply linG_last; (simp only [List.getElem?_toArray, List.getElem?_cons_succ, List.getElem?_cons_zero]; rfl); (rfl); (kernel_rfl); intro K hK; (first | (refine wp_buildOne (vs := evC kind at_ (headL xs) (.slice A' ys.length c')) rfl Try.underlying41 info_event2 (by decide) rfl (evC_len _ _ _ _ (headL_length xs)) ?_) | (refine wp_appOne (base := base) (v := tv) (n := D.trace.length) rfl Try.underlying41 info_event rfl (by decide) (by decide) rfl rfl (World.ownsRow.alloc (w := W2.drew) a3 _) (evC_len _ _ _ _ (headL_length xs)) (news_at _ (evC kind at_ (headL xs) (.slice A' ys.length c')) 45) (evC_one _ _ _ _ _ _) hln (by simp; omega) ?_; intro v4 W4 ho4 hg4; have hdr2 : RG (FR [45] [] base) W.heap.size _ _ := ⟨FR.of_own hg4 (World.ownsRow.alloc (w := W2.drew) a3 _) (by decide) (by simp; omega), hg4.block _ (by simp; omega) (Ne.symm hneg)⟩; have hf4 : FR [45] [] base W2 W4 := (FR.of_below (below_alloc (below_drew (Below.refl _ _)) _) hB2).trans hdr2.1; have hrow4 := hf4.row hrow2 (by decide); have c7 := hrow4.cell 7 rfl; have fz7 := hrow4.free 7; obtain ⟨A4, c4, rfl, -, -⟩ := own_form ho4) | (go_simp; (first | skip))); refine hK _ _ trivial ?_; clear hK; try simp only [Act.put, List.setIfInBounds_toArray, List.set_cons_zero, List.set_cons_succ]) | (apply linG_op; (simp only [List.getElem?_toArray, List.getElem?_cons_succ, List.getElem?_cons_zero]; rfl); (rfl); intro K hK; (first | (refine wp_buildOne (vs := evC kind at_ (headL xs) (.slice A' ys.length c')) rfl Try.underlying41 info_event2 (by decide) rfl (evC_len _ _ _ _ (headL_length xs)) ?_) | (refine wp_appOne (base := base) (v := tv) (n := D.trace.length) rfl Try.underlying41 info_event rfl (by decide) (by decide) rfl rfl (World.ownsRow.alloc (w := W2.drew) a3 _) (evC_len _ _ _ _ (headL_length xs)) (news_at _ (evC kind at_ (headL xs) (.slice A' ys.length c')) 45) (evC_one _ _ _ _ _ _) hln (by simp; omega) ?_; intro v4 W4 ho4 hg4; have hdr2 : RG (FR [45] [] base) W.heap.size _ _ := ⟨FR.of_own hg4 (World.ownsRow.alloc (w := W2.drew) a3 _) (by decide) (by simp; omega), hg4.block _ (by simp; omega) (Ne.symm hneg)⟩; have hf4 : FR [45] [] base W2 W4 := (FR.of_below (below_alloc (below_drew (Below.refl _ _)) _) hB2).trans hdr2.1; have hrow4 := hf4.row hrow2 (by decide); have c7 := hrow4.cell 7 rfl; have fz7 := hrow4.free 7; obtain ⟨A4, c4, rfl, -, -⟩ := own_form ho4) | (go_simp; (first | skip))); refine hK _ _ ?_ ?_; (first | exact hdr2 | assumption | (first | exact rg_alloc (by simp; omega) (by simp; omega) _ | exact FR.of_below (below_alloc (Below.refl _ _) _) (by first | assumption | (simp; omega)) | exact DR.of_below (below_alloc (Below.refl _ _) _) (by first | assumption | (simp; omega)))); clear hK; try simp only [Act.put, List.setIfInBounds_toArray, List.set_cons_zero, List.set_cons_succ]))); (try refine linG_end ?_))
  have hu7 := upd_cell (j := 7) hrow4 (Value.slice A4 (D.trace.length + 1) c4)
  have hT4 : TraceAt W4 base (.slice A4 (D.trace.length + 1) c4) (D.trace ++ [⟨kind, at_, headL xs, ys⟩]) :=
    TraceAt.snoc a1 (fun k u x e1 e2 => ⟨(a2 k u x e1 e2).1.keep hf4.dr (by decide), (a2 k u x e1 e2).2⟩) ho4 (hu2'.keep hf4.dr (by decide)) (headL_length xs)
  have hS4 := h1'.fr hf4 (by decide) (by simp) (Nat.le_refl _)
  have hN4 := h2'.fr hf4 (by decide) (by simp) (Nat.le_refl _)
  have hL4 := h3'.fr hf4 (by decide) (by decide)
  have ht := disk_turn (D := D.noted ⟨kind, at_, headL xs, ys⟩) hrow4 hu7 hbb hS4 hN4 hL4 hT4
  have hfin : DiskAt (W4.setCell ⟨b, 7, none⟩ (.slice A4 (D.trace.length + 1) c4)) base b (D.noted ⟨kind, at_, headL xs, ys⟩) :=
    ⟨⟨mS, mN, lv, _, hu7.row, hbb, hbS, hbN, hne, ht.2.1, ht.2.2.1, ht.2.2.2.1, ht.2.2.2.2⟩⟩
  have hdr : DR dTy base W (W4.setCell ⟨b, 7, none⟩ (.slice A4 (D.trace.length + 1) c4)) := (hfr0.dr.less (by simp)).trans ((hf4.dr.less (by decide)).trans ht.1)
  refine bodyPost_end (by simp [results, Try.results62]) rfl ⟨rfl, hfin, hdr⟩
end Go.Proofs.Ytmdmhjcdaejlkaa

/- Contracts of the device: block, Read. -/
set_option linter.unusedVariables false
set_option linter.unusedSimpArgs false
namespace Go.Proofs.Ytmdmhjcdaejlkaa
open Go.RowKit

theorem c_blockNo (W : World) (base b : Nat) (D : Dk) (mv : Value) (at_ : Int) (h : DiskAt W base b D) (hh : D.has at_ = false) :
    Calls Try.prog 69 #[.pointer (some ⟨b, 0, none⟩), mv, .int .i64 at_] W fun e w' => e = .returned (.slice none 0 0) ∧ W = w' := by
  go_enter Try.func69, Try.ntmps69
  go_wp2_with (go_at_call 64; refine (c_diskHas _ base b D _ false h hh).mono ?_; rintro e w' ⟨rfl, rfl⟩)
  go_ret
  exact ⟨rfl, rfl⟩
/-- what stands at a place, in a map of blocks -/
def Dk.at_ (D : Dk) (m : Int → List UInt8) (at_ : Int) : List UInt8 := if D.has at_ then fitL D.size (m at_) else []
structure DkOk (D : Dk) : Prop where
  lo : 0 ≤ D.size
  hi : D.size ≤ 60000
  bl : 0 ≤ D.blocks
  bh : D.blocks ≤ 100000
  ln : D.trace.length ≤ 900000
  ll : D.loose.length ≤ 900000
  cs : D.cS ≤ 900000
  cn : D.cN ≤ 900000
  af : D.after ≤ 9223372036854775807
theorem c_dBlock (W : World) (base b mb nb : Nat) (D : Dk) (m : Int → List UInt8) (at_ : Int) (h : DiskAt W base b D) (hm : MapB W base mb nb m) (hk : DkOk D) (hat : (Lit.int .i64 at_).wf = true) :
    Calls Try.prog 69 #[.pointer (some ⟨b, 0, none⟩), .map (some mb), .int .i64 at_] W fun e w' => ∃ v, e = .returned v ∧ OwnB w' W.heap.size 5 v (D.at_ m at_) ∧ Below W.heap.size W w' := by
  unfold Dk.at_
  cases hh : D.has at_ with
  | true => exact c_diskBlock W base b mb nb D m at_ h hm hat hh ⟨hk.lo, hk.hi⟩
  | false =>
    refine (c_blockNo W base b D _ at_ h hh).mono ?_
    rintro e w' ⟨rfl, rfl⟩
    exact ⟨_, rfl, OwnB.nil_ _ _ _, Below.refl _ _⟩
theorem DiskAt.dr {W W' : World} {base b : Nat} {D : Dk} (h : DiskAt W base b D) (hf : FR [] [] base W W') : DiskAt W' base b D := by
  obtain ⟨mS, mN, lv, tv, hrow, hbb, hbS, hbN, hne, h1, h2, h3, h4⟩ := h.out
  exact ⟨⟨mS, mN, lv, tv, hf.row hrow (by simp), hbb, hbS, hbN, hne, h1.fr hf (by simp) (by simp) (Nat.le_refl _), h2.fr hf (by simp) (by simp) (Nat.le_refl _), h3.fr hf (by simp) (by simp), h4.fr hf (by simp) (by simp)⟩⟩
theorem OwnB.dr {S : List TypeId} {W W' : World} {base B : Nat} {v : Value} {xs : List UInt8} (h : OwnB W B 5 v xs) (hd : DR S base W W') (hS : 5 ∉ S) : OwnB W' B 5 v xs := by
  refine ⟨h.1, ?_⟩
  rcases h.2 with h | ⟨g, cap, cur, hv, hg, hh, r⟩
  · exact .inl h
  · exact .inr ⟨g, cap, cur, hv, hg, hd.typ _ _ _ _ hh hS, r⟩
/-- a read that is done -/
def Dk.read (D : Dk) (at_ : Int) : Dk := D.step.noted ⟨1, at_, headL (D.at_ D.now at_), []⟩
theorem c_readNo (W : World) (base b : Nat) (D : Dk) (at_ : Int) (h : DiskAt W base b D) (hg : D.goes = true) :
    Calls Try.prog 57 #[.pointer (some ⟨b, 0, none⟩), .int .i64 at_] W fun e w' => e = gonePanic ∧ DiskAt w' base b D.dead ∧ DR dTy base W w' := by
  have hc := c_countNo W base b D h hg
  go_enter Try.func57, Try.ntmps57
  go_wp2_with fail
  refine hc.mono ?_
  rintro e w' ⟨rfl, hd, hr⟩
  exact ⟨rfl, rfl, hd, hr⟩
theorem c_readYes (W : World) (base b : Nat) (D : Dk) (at_ : Int) (h : DiskAt W base b D) (hg : D.goes = false) (hk : DkOk D) (hB : base ≤ W.heap.size) (hat : (Lit.int .i64 at_).wf = true) :
    Calls Try.prog 57 #[.pointer (some ⟨b, 0, none⟩), .int .i64 at_] W fun e w' => ∃ v, e = .returned v ∧ OwnB w' W.heap.size 5 v (D.at_ D.now at_) ∧ DiskAt w' base b (D.read at_) ∧ DR dTy base W w' := by
  have hc := c_countYes W base b D h hg hk.af
  have hkS : DkOk D.step := ⟨hk.lo, hk.hi, hk.bl, hk.bh, hk.ln, hk.ll, hk.cs, hk.cn, by unfold Dk.step; simp only; have := hk.af; split <;> omega⟩
  have HAT := Lib.hid hat
  clear hat h
  go_enter Try.func57, Try.ntmps57
  go_wp2_with fail
  refine hc.mono ?_
  rintro e w1 ⟨rfl, hd1, hr1⟩
  have hd1c := hd1
  obtain ⟨mS, mN, lv, tv, hrow, hbb, hbS, hbN, hne, h1, h2, h3, h4⟩ := hd1c.out
  have c3 := hrow.cell 3 rfl
  have hs1 := hr1.below.size
  have hB1 : base ≤ w1.heap.size := by omega
  clear hc
  go_wp2_with fail
  refine (c_dBlock w1 base b mN D.cN D.step D.now at_ hd1 h2 hkS HAT.out).mono ?_
  rintro e w2 ⟨v, rfl, ho, hb2⟩
  have hf2 : FR [] [] base w1 w2 := FR.of_below hb2 hB1
  have hs2 := hb2.size
  clear c3 hrow
  go_wp2_with fail
  refine (c_diskNote w2 base b D.step 1 at_ v (.slice none 0 0) _ [] (hd1.dr hf2) (BytesAt.of_own ho) (BytesAt.nil_ _ _) (by omega) (Nat.le_trans hkS.ln (by decide))).mono ?_
  rintro e w3 ⟨rfl, hd3, hr3⟩
  go_wp2
  go_ret
  exact ⟨_, rfl, (ho.mono hs1).dr hr3 (by decide), hd3, hr1.trans ((hf2.dr.less (by simp)).trans hr3)⟩
end Go.Proofs.Ytmdmhjcdaejlkaa

/- Contracts of the device: Write. -/
set_option linter.unusedVariables false
set_option linter.unusedSimpArgs false
namespace Go.Proofs.Ytmdmhjcdaejlkaa
open Go.RowKit

/-- m[k] = v on a map from int to slices -/
theorem wp_putI {o : Oper} {a : Act} {W : World} {K : Act → World → Prop} {Q : Exit → Act → World → Prop} {m k v : Operand} {b n : Nat} {f : Int → Value} {i : Int} {u : Value}
    (ho : o.op = .mapUpdate 90 m k v) (hm : a.eval m = .map (some b)) (hk : a.eval k = .int .i64 i) (hv : a.eval v = u) (h : MapI W b n f) (hn : n < 10000000) (hi : (Lit.int .i64 i).wf = true)
    (hK : ∀ W', MapI W' b (n + 1) (updI f i u) → W.grownBy W' (some b) → K (a.put o.dst undef) W') : o.wp Try.prog a W K Q := by
  obtain ⟨W', hrun, h1, h2⟩ := run_put h (by unfold maxLen; omega) i hi u
  unfold Oper.wp execOp
  simp only [ho, hm, hk, hv, Sem.run_bind, Sem.run_pure, hrun, Result.andThen_ok]
  exact hK W' h1 h2
theorem wpl_putI {ops : Array Oper} {rest : List Oper} {o : Oper} {a : Act} {W : World} {Q : Exit → Act → World → Prop} {m k v : Operand} {b n : Nat} {f : Int → Value} {i : Int} {u : Value} (hgd : o.guard = none)
    (ho : o.op = .mapUpdate 90 m k v) (hm : a.eval m = .map (some b)) (hk : a.eval k = .int .i64 i) (hv : a.eval v = u) (h : MapI W b n f) (hn : n < 10000000) (hi : (Lit.int .i64 i).wf = true)
    (hK : ∀ W', MapI W' b (n + 1) (updI f i u) → W.grownBy W' (some b) → wpList Try.prog ops Q rest (a.put o.dst undef) W') : wpList Try.prog ops Q (o :: rest) a W :=
  wpList_plain hgd fun _ hK' => wp_putI ho hm hk hv h hn hi fun W' h1 h2 => hK' _ _ (hK W' h1 h2)
theorem wpl_appOne {ops : Array Oper} {rest : List Oper} {o : Oper} {a : Act} {W : World} {Q : Exit → Act → World → Prop} {s x : Operand} {t e : TypeId} {z v : Value} {size bytes base n c : Nat} {xs news : List Value} {ad : Addr} (hgd : o.guard = none)
    (ho : o.op = .call { callee := .builtin .append, args := #[s, x], argTypes := #[t, t] }) (ht : Try.prog.underlying t = some (.slice e))
    (hi : (Try.prog.info? e).map (fun i => (i.zero, i.size, i.bytes)) = some (some z, size, bytes)) (hz : z.cells.size = size) (hsz : 0 < size) (hby : bytes ≤ 1000)
    (hs : a.eval s = v) (hx : a.eval x = .slice (some ad) 1 c) (hown : W.ownsRow base e size v n xs) (hl : news.length = size) (hc : ∀ j u, news[j]? = some u → W.cell? (ad.add j) = some u) (h1 : ∀ u ∈ news, u.oneCell' = true)
    (hn : n ≤ 1000000) (hbase : base ≤ W.heap.size)
    (hK : ∀ v' W', W'.ownsRow base e size v' (n + 1) (xs ++ news) → W.grownBy W' v.ownBlock → wpList Try.prog ops Q rest (a.put o.dst v') W') : wpList Try.prog ops Q (o :: rest) a W :=
  wpList_plain hgd fun _ hK' => wp_appOne ho ht hi hz hsz hby hs hx hown hl hc h1 hn hbase fun v' W' h1 h2 => hK' _ _ (hK v' W' h1 h2)
theorem info_write : (Try.prog.info? 101).map (fun i => (i.zero, i.size, i.bytes)) = some (some (.agg #[.int .i64 0, .slice none 0 0]), 2, 32) := by kernel_rfl
theorem info_write2 : (Try.prog.info? 101).map (fun i => (i.zero, i.size)) = some (some (.agg #[.int .i64 0, .slice none 0 0]), 2) := by kernel_rfl
theorem copyL_full (zs ys : List UInt8) (h : ys.length = zs.length) : copyL zs ys = ys := by
  unfold copyL
  rw [List.take_of_length_le (by omega), List.drop_of_length_le (by omega), List.append_nil]
theorem fitL_full (n : Int) (ys : List UInt8) (h : ys.length = n.toNat) : fitL n ys = ys := copyL_full _ _ (by rw [List.length_replicate]; exact h)
theorem fitL_fitL (n : Int) (xs : List UInt8) : fitL n (fitL n xs) = fitL n xs := fitL_full n _ (fitL_length n xs)
/-- a write that is done -/
def Dk.write (D : Dk) (at_ : Int) (xs : List UInt8) : Dk :=
  if D.has at_ then { D.step.noted ⟨2, at_, headL (fitL D.size xs), fitL D.size xs⟩ with now := fun j => if j = at_ then fitL D.size xs else D.now j, cN := D.cN + 1, loose := D.loose ++ [(at_, fitL D.size xs)] }
  else D.step.noted ⟨2, at_, headL (fitL D.size xs), fitL D.size xs⟩
theorem c_writeNo (W : World) (base b : Nat) (D : Dk) (at_ : Int) (v : Value) (h : DiskAt W base b D) (hg : D.goes = true) :
    Calls Try.prog 21 #[.pointer (some ⟨b, 0, none⟩), .int .i64 at_, v] W fun e w' => e = gonePanic ∧ DiskAt w' base b D.dead ∧ DR dTy base W w' := by
  have hc := c_countNo W base b D h hg
  go_enter Try.func21, Try.ntmps21
  go_wp2_with fail
  refine hc.mono ?_
  rintro e w' ⟨rfl, hd, hr⟩
  exact ⟨rfl, rfl, hd, hr⟩
theorem LooseAt.snoc {W' : World} {base : Nat} {v' u : Value} {l : List (Int × List UInt8)} {x : Int × List UInt8} {vs : List Value} (a1 : vs.length = l.length) (a2 : ∀ (k : Nat) u x, vs[k]? = some u → l[k]? = some x → BytesAt W' base u x.2)
    (a3 : W'.ownsRow base 101 2 v' (l.length + 1) (((l.zip vs).flatMap fun p => [.int .i64 p.1.1, p.2]) ++ [.int .i64 x.1, u]))
    (hu : BytesAt W' base u x.2) : LooseAt W' base v' (l ++ [x]) := by
  refine ⟨vs ++ [u], by simp [a1], fun k w y e1 e2 => ?_, ?_⟩
  · rcases Nat.lt_or_ge k l.length with hk | hk
    · rw [List.getElem?_append_left (by omega)] at e1
      rw [List.getElem?_append_left hk] at e2
      exact a2 k w y e1 e2
    · rw [List.getElem?_append_right (by omega), a1] at e1
      rw [List.getElem?_append_right hk] at e2
      have h0 : k - l.length = 0 := by
        rcases Nat.eq_zero_or_pos (k - l.length) with h | h
        · exact h
        · rw [List.getElem?_eq_none (by simp; omega)] at e2; cases e2
      rw [h0] at e1 e2
      cases e1
      cases e2
      exact hu
  · rw [List.length_append, List.zip_append a1.symm, List.flatMap_append]
    simpa using a3
set_option maxHeartbeats 2000000 in
theorem c_writeYes (W : World) (base b : Nat) (D : Dk) (at_ : Int) (v : Value) (xs : List UInt8) (h : DiskAt W base b D) (hg : D.goes = false) (hk : DkOk D) (hB : base ≤ W.heap.size) (hat : (Lit.int .i64 at_).wf = true) (hv : BytesAt W base v xs) :
    Calls Try.prog 21 #[.pointer (some ⟨b, 0, none⟩), .int .i64 at_, v] W fun e w' => e = .returned (.tuple #[]) ∧ DiskAt w' base b (D.write at_ xs) ∧ DR dTy base W w' := by
  have hc := c_countYes W base b D h hg hk.af
  have hkS : DkOk D.step := ⟨hk.lo, hk.hi, hk.bl, hk.bh, hk.ln, hk.ll, hk.cs, hk.cn, by unfold Dk.step; simp only; have := hk.af; split <;> omega⟩
  have HAT := Lib.hid hat
  clear hat h
  obtain ⟨sz, hsz⟩ : ∃ sz : Nat, D.size = (sz : Int) := ⟨D.size.toNat, by have := hk.lo; omega⟩
  have hs6 : sz ≤ 60000 := by have := hk.hi; omega
  go_enter Try.func21, Try.ntmps21
  go_wp2_with fail
  refine hc.mono ?_
  rintro e w1 ⟨rfl, hd1, hr1⟩
  obtain ⟨mS, mN, lv, tv, hrow, hbb, hbS, hbN, hne, h1, h2, h3, h4⟩ := hd1.out
  have hv1 := hv.keep hr1 (by decide)
  have c1 := hrow.cell 1 rfl
  have hs1 := hr1.below.size
  have hB1 : base ≤ w1.heap.size := by omega
  have eS : D.step.size = (sz : Int) := hsz
  rw [eS] at c1
  obtain ⟨A, c, rfl, q1, q2, q3, q4⟩ := hv1
  unfold maxLen at q2
  have HSZ := Lib.hid hsz
  have hfz : fitL D.size xs = copyL (List.replicate sz 0) xs := by unfold fitL; rw [hsz]; simp
  have HFZ := Lib.hid hfz
  clear hc hrow h1 h2 h3 h4 hsz eS hfz hne q4
  go_upto_region 2 with (at_make; refine wpl_makeB (n := sz) rfl rfl rfl rfl (by omega) ?_; intro w2 ho2 hB2 hs2)
  have hrow2 : Row w2 w1.heap.size (bv (List.replicate sz 0)).toArray 5 := own_row ho2
  have hr2 := q3.below hB2 (Nat.le_refl _)
  go_upto_region 3 with (refine wpl_copyB (xs := List.replicate sz 0) (ys := xs) (cap := sz) rfl rfl (by rw [List.length_replicate]; rfl) rfl hrow2 hr2 ?_; intro w3 y3 hu3)
  have hB3 : Below w1.heap.size w1 w3 := hB2.trans (hu3.below (Nat.le_refl _))
  have hs3 : w1.heap.size < w3.heap.size := by have := hu3.row; have := Row.lt this; omega
  have hf3 : FR [] [] base w1 w3 := FR.of_below hB3 hB1
  have ho3 := row_own (B := w1.heap.size) hu3.row (show _ = sz by rw [copyL_length, List.length_replicate]) (Nat.le_refl _) (by unfold maxLen; omega)
  have hd3 := hd1.dr hf3
  have hlen : (copyL (List.replicate sz 0) xs).length = sz := by rw [copyL_length, List.length_replicate]
  have HL := Lib.hid hlen
  have hr3 : RdB w3 (some ⟨w1.heap.size, 0, none⟩) sz (copyL (List.replicate sz 0) xs) := by
    obtain ⟨A', c', e, -, -, hr⟩ := ho3.form
    rw [hlen] at e hr
    simp only [Value.slice.injEq] at e
    obtain ⟨rfl, -⟩ := e
    exact hr
  have HFL := HFZ.out
  generalize hFL : copyL (List.replicate sz 0) xs = FL at *
  clear hFL hu3 hrow2 ho2 hB2 hs2 hr2 c1 q1 q2 q3
  go_wp2_with fail
  refine (c_clone _ _ _ FL w3 hr3 (by omega)).mono ?_
  rintro e w4 ⟨u, rfl, ho4, hB4⟩
  have hf4 : FR [] [] base w3 w4 := FR.of_below hB4 (by omega)
  have hs4 := hB4.size
  have ho34 := ho3.below hB4
  go_wp2_with fail
  refine (c_diskNote w4 base b D.step 2 at_ _ u FL FL (hd3.dr hf4) (BytesAt.of_own ho34) (BytesAt.of_own ho4) (by omega) (Nat.le_trans hkS.ln (by decide))).mono ?_
  rintro e w5 ⟨rfl, hd5, hr5⟩
  have hB5 := (BytesAt.of_own (base := base) ho34).keep hr5 (by decide)
  have hs5 := hr5.below.size
  have hall5 : DR dTy base W w5 := hr1.trans ((hf3.dr.less (by simp)).trans ((hf4.dr.less (by simp)).trans hr5))
  have hhas : (D.step.noted ⟨2, at_, headL FL, FL⟩).has at_ = D.has at_ := rfl
  have hw0 : D.write at_ xs = if D.has at_ then { D.step.noted ⟨2, at_, headL FL, FL⟩ with now := fun j => if j = at_ then FL else D.now j, cN := D.cN + 1, loose := D.loose ++ [(at_, FL)] } else D.step.noted ⟨2, at_, headL FL, FL⟩ := by unfold Dk.write; rw [HFL]
  have HW := Lib.hid hw0
  clear hd1 hr1 hd3 hf3 ho3 hf4 ho34 ho4 hr5 HFL HFZ hw0
  cases hha : D.has at_ with
  | false =>
    rw [hha] at hhas
    go_wp2_with fail
    refine (c_diskHas w5 base b _ at_ false hd5 hhas).mono ?_
    rintro e w' ⟨rfl, rfl⟩
    go_wp2
    refine bodyPost_ret (results_none rfl _ _ _) rfl ⟨rfl, ?_, hall5⟩
    rw [HW.out, if_neg (by rw [hha]; simp)]
    exact hd5
  | true =>
    rw [hha] at hhas
    go_wp2_with fail
    refine (c_diskHas w5 base b _ at_ true hd5 hhas).mono ?_
    rintro e w' ⟨rfl, rfl⟩
    obtain ⟨mS, mN, lv, tv, hrow, hbb, hbS, hbN, hne, h1, h2, h3, h4⟩ := hd5.out
    have c3 := hrow.cell 3 rfl
    obtain ⟨f, hf, hbt⟩ := h2.out
    have hnN : D.cN < 10000000 := by have := hk.cn; omega
    go_upto_region 6 with (at_mapUpdate; refine wpl_putI rfl rfl rfl rfl rfl hf hnN HAT.out ?_; intro w6 hm6 hg6)
    have hf6 : FR [] [mN] base w5 w6 := FR.of_map hg6 hf.isMap hbN (by simp)
    have hrow6 := hf6.row hrow (by simp)
    have h16 := h1.fr hf6 (by simp) (by simp [hne]) (Nat.le_refl _)
    have h26 : MapB w6 base mN (D.cN + 1) (fun j => if j = at_ then FL else D.now j) := ⟨⟨_, hm6, fun j => by
      unfold updI
      split
      · exact hB5.keep hf6.dr (by simp)
      · exact (hbt j).keep hf6.dr (by simp)⟩⟩
    have h46 := h4.fr hf6 (by simp) (by simp)
    have hB6 := hB5.keep hf6.dr (by simp)
    obtain ⟨vs, a1, a2, a3⟩ := h3.fr hf6 (by simp) (by simp)
    have c4 := hrow6.cell 4 rfl
    have hs6' := hf6.size
    have hb6 : base ≤ w6.heap.size := by omega
    have hln : D.loose.length ≤ 1000000 := by have := hk.ll; omega
    clear c3 hrow h1 h2 h3 h4 hf hbt hm6 hg6 hd5
    go_wp2_with (at_builtin; refine wpl_appOne (base := base) (v := lv) (n := D.loose.length) rfl rfl Try.underlying91 info_write rfl (by decide) (by decide) rfl rfl (World.ownsRow.alloc a3 _) rfl (news_at w6 [.int .i64 at_, .slice (some ⟨w1.heap.size, 0, none⟩) sz sz] 101) (by simp [Value.oneCell']) hln (by simp; omega) ?_; intro v7 w7 ho7 hg7; have hf7 : FR [101] [] base w6 w7 := (FR.of_below (below_alloc (Below.refl _ _) _) hb6).trans (FR.of_own hg7 (World.ownsRow.alloc a3 _) (by decide) (by simp; omega)); have hrow7 := hf7.row hrow6 (by decide); have c4' := hrow7.cell 4 rfl; have fz4 := hrow7.free 4; obtain ⟨A7, c7, rfl, -, -⟩ := own_form ho7)
    have hu8 := upd_cell (j := 4) hrow7 (Value.slice A7 (D.loose.length + 1) c7)
    have hL7 : LooseAt w7 base (.slice A7 (D.loose.length + 1) c7) (D.loose ++ [(at_, FL)]) :=
      LooseAt.snoc a1 (fun k u x e1 e2 => (a2 k u x e1 e2).keep hf7.dr (by decide)) ho7 (hB6.keep hf7.dr (by decide))
    have hS7 := h16.fr hf7 (by decide) (by simp) (Nat.le_refl _)
    have hN7 := h26.fr hf7 (by decide) (by simp) (Nat.le_refl _)
    have hT7 := h46.fr hf7 (by decide) (by decide)
    have ht := disk_turn (D := { D.step.noted ⟨2, at_, headL FL, FL⟩ with now := fun j => if j = at_ then FL else D.now j, cN := D.cN + 1, loose := D.loose ++ [(at_, FL)] }) hrow7 hu8 hbb hS7 hN7 hL7 hT7
    refine bodyPost_end (by simp [results, Try.results21]) rfl ⟨rfl, ?_, hall5.trans ((hf6.dr.less (by simp)).trans ((hf7.dr.less (by decide)).trans ht.1))⟩
    rw [HW.out, if_pos hha]
    exact ⟨⟨mS, mN, _, tv, hu8.row, hbb, hbS, hbN, hne, ht.2.1, ht.2.2.1, ht.2.2.2.1, ht.2.2.2.2⟩⟩
end Go.Proofs.Ytmdmhjcdaejlkaa

/- Contracts of the device: Flush. -/
set_option linter.unusedVariables false
set_option linter.unusedSimpArgs false
namespace Go.Proofs.Ytmdmhjcdaejlkaa
open Go.RowKit

theorem flatMap_at {α : Type} (f : α → List Value) (n : Nat) : ∀ (L : List α) (j i : Nat) (p : α), (∀ q, (f q).length = n) → L[j]? = some p → i < n → (L.flatMap f)[n * j + i]? = (f p)[i]?
  | [], j, i, p, _, h, _ => by cases h
  | q :: L, j, i, p, hf, h, hi => by
    rw [List.flatMap_cons]
    cases j with
    | zero =>
      cases h
      rw [List.getElem?_append_left (by rw [hf]; omega), Nat.mul_zero, Nat.zero_add]
    | succ j =>
      rw [List.getElem?_append_right (by rw [hf, Nat.mul_succ]; omega), hf, show n * (j + 1) + i - n = n * j + i by rw [Nat.mul_succ]; omega]
      exact flatMap_at f n L j i p hf h hi
/-- the device's parts by name -/
structure DiskW (W : World) (base b : Nat) (D : Dk) (mS mN : Nat) (lv tv : Value) : Prop where
  row : Row W b #[.int .i64 D.blocks, .int .i64 D.size, .map (some mS), .map (some mN), lv, .int .i64 D.after, .bool D.off, tv] 93
  hb : base ≤ b
  hS : base ≤ mS
  hN : base ≤ mN
  ne : mS ≠ mN
  st : MapB W base mS D.cS D.stable
  nw : MapB W base mN D.cN D.now
  lo : LooseAt W base lv D.loose
  tr : TraceAt W base tv D.trace
theorem DiskAt.parts {W : World} {base b : Nat} {D : Dk} (h : DiskAt W base b D) : ∃ mS mN lv tv, DiskW W base b D mS mN lv tv := by
  obtain ⟨mS, mN, lv, tv, h1, h2, h3, h4, h5, h6, h7, h8, h9⟩ := h.out
  exact ⟨mS, mN, lv, tv, h1, h2, h3, h4, h5, h6, h7, h8, h9⟩
theorem DiskW.at_ {W : World} {base b : Nat} {D : Dk} {mS mN : Nat} {lv tv : Value} (h : DiskW W base b D mS mN lv tv) : DiskAt W base b D :=
  ⟨⟨mS, mN, lv, tv, h.row, h.hb, h.hS, h.hN, h.ne, h.st, h.nw, h.lo, h.tr⟩⟩
theorem DiskW.fr {W W' : World} {base b : Nat} {D : Dk} {mS mN : Nat} {lv tv : Value} (h : DiskW W base b D mS mN lv tv) (hf : FR [] [] base W W') : DiskW W' base b D mS mN lv tv :=
  ⟨hf.row h.row (by simp), h.hb, h.hS, h.hN, h.ne, h.st.fr hf (by simp) (by simp) (Nat.le_refl _), h.nw.fr hf (by simp) (by simp) (Nat.le_refl _), h.lo.fr hf (by simp) (by simp), h.tr.fr hf (by simp) (by simp)⟩
/-- a block put into the stable map -/
theorem DiskW.putS {W W' : World} {base b : Nat} {D : Dk} {mS mN : Nat} {lv tv u : Value} {i : Int} {xs : List UInt8} {f : Int → Value} (h : DiskW W base b D mS mN lv tv) (hbt : ∀ j, BytesAt W base (f j) (D.stable j)) (hu : BytesAt W base u xs)
    (hm : MapI W' mS (D.cS + 1) (updI f i u)) (hf : FR [] [mS] base W W') : DiskW W' base b { D with stable := fun j => if j = i then xs else D.stable j, cS := D.cS + 1 } mS mN lv tv :=
  ⟨hf.row h.row (by simp), h.hb, h.hS, h.hN, h.ne, ⟨⟨_, hm, fun j => by
      show BytesAt W' base (updI f i u j) (if j = i then xs else D.stable j)
      unfold updI
      split
      · exact hu.keep hf.dr (by simp)
      · exact (hbt j).keep hf.dr (by simp)⟩⟩, h.nw.fr hf (by simp) (by simp [Ne.symm h.ne]) (Nat.le_refl _), h.lo.fr hf (by simp) (by simp), h.tr.fr hf (by simp) (by simp)⟩
theorem LooseAt.elem {W : World} {base : Nat} {lv : Value} {l : List (Int × List UInt8)} (h : LooseAt W base lv l) {j : Nat} {x : Int × List UInt8} (hx : l[j]? = some x) :
    ∃ g cap u, lv = .slice (some ⟨g, 0, none⟩) l.length cap ∧ BytesAt W base u x.2 ∧ ∀ i v, [Value.int .i64 x.1, u][i]? = some v → W.cell? ((⟨g, j * 2, none⟩ : Addr).add i) = some v := by
  obtain ⟨vs, a1, a2, a3⟩ := h
  have hj : j < l.length := (List.getElem?_eq_some_iff.1 hx).1
  rcases a3.2 with ⟨_, h0⟩ | ⟨g, cap, cur, rfl, _⟩
  · omega
  · have hu : vs[j]? = some vs[j] := List.getElem?_eq_getElem (by omega)
    refine ⟨g, cap, vs[j], rfl, a2 j _ x hu hx, fun i v hv => ?_⟩
    have hi : i < 2 := by
      rcases Nat.lt_or_ge i 2 with h | h
      · exact h
      · rw [List.getElem?_eq_none (by simpa using h)] at hv; cases hv
    have hz : (l.zip vs)[j]? = some (x, vs[j]) := by rw [List.getElem?_zip_eq_some]; exact ⟨hx, hu⟩
    have hc := World.ownsRow.cells a3 (g := g) rfl (2 * j + i) v (by rw [flatMap_at _ 2 _ j i _ (fun _ => rfl) hz hi]; exact hv)
    rw [ad_none] at hc ⊢
    rw [Nat.zero_add] at hc
    rw [Nat.mul_comm j 2]
    exact hc
/-- the writes laid into the blocks, in order -/
def layL (m : Int → List UInt8) : List (Int × List UInt8) → Int → List UInt8
  | [] => m
  | x :: l => layL (fun j => if j = x.1 then x.2 else m j) l
theorem layL_snoc (m : Int → List UInt8) (l : List (Int × List UInt8)) (x : Int × List UInt8) : layL m (l ++ [x]) = fun j => if j = x.1 then x.2 else layL m l j := by
  induction l generalizing m with
  | nil => rfl
  | cons y l ih => exact ih _
/-- a flush that is done -/
def Dk.flush (D : Dk) : Dk := { D.step.noted ⟨3, 0, headL [], []⟩ with stable := layL D.stable D.loose, cS := D.cS + D.loose.length, loose := [] }
theorem c_flushNo (W : World) (base b : Nat) (D : Dk) (h : DiskAt W base b D) (hg : D.goes = true) :
    Calls Try.prog 22 #[.pointer (some ⟨b, 0, none⟩)] W fun e w' => e = gonePanic ∧ DiskAt w' base b D.dead ∧ DR dTy base W w' := by
  have hc := c_countNo W base b D h hg
  go_enter Try.func22, Try.ntmps22
  go_wp2_with fail
  refine hc.mono ?_
  rintro e w' ⟨rfl, hd, hr⟩
  exact ⟨rfl, rfl, hd, hr⟩
/-- the device with j of its writes flushed -/
def Dk.part (D : Dk) (j : Nat) : Dk := { D with stable := layL D.stable (D.loose.take j), cS := D.cS + j }
theorem Dk.part_succ (D : Dk) (j : Nat) (x : Int × List UInt8) (hx : D.loose[j]? = some x) : D.part (j + 1) = { D.part j with stable := fun i => if i = x.1 then x.2 else (D.part j).stable i, cS := (D.part j).cS + 1 } := by
  unfold Dk.part
  rw [List.take_add_one, hx]
  simp only [Option.toList_some]
  rw [layL_snoc]
  rfl
set_option maxHeartbeats 2000000 in
set_option maxRecDepth 100000 in
theorem c_flushYes (W : World) (base b : Nat) (D : Dk) (h : DiskAt W base b D) (hg : D.goes = false) (hk : DkOk D) (hB : base ≤ W.heap.size) (hw : ∀ x ∈ D.loose, (Lit.int .i64 x.1).wf = true) :
    Calls Try.prog 22 #[.pointer (some ⟨b, 0, none⟩)] W fun e w' => e = .returned (.tuple #[]) ∧ DiskAt w' base b D.flush ∧ DR dTy base W w' := by
  have hc := c_countYes W base b D h hg hk.af
  have hkS : DkOk D.step := ⟨hk.lo, hk.hi, hk.bl, hk.bh, hk.ln, hk.ll, hk.cs, hk.cn, by unfold Dk.step; simp only; have := hk.af; split <;> omega⟩
  clear h
  go_enter Try.func22, Try.ntmps22
  go_wp2_with fail
  refine hc.mono ?_
  rintro e w1 ⟨rfl, hd1, hr1⟩
  have hs1 := hr1.below.size
  clear hc
  go_wp2_with fail
  refine (c_diskNote w1 base b D.step 3 0 (.slice none 0 0) (.slice none 0 0) [] [] hd1 (BytesAt.nil_ _ _) (BytesAt.nil_ _ _) (by omega) (Nat.le_trans hkS.ln (by decide))).mono ?_
  rintro e w2 ⟨rfl, hd2, hr2⟩
  have hfin : D.flush = { (D.step.noted ⟨3, 0, headL [], []⟩).part D.loose.length with loose := [] } := by
    unfold Dk.flush Dk.part
    show _ = _
    simp [Dk.noted, Dk.step]
  have hloE : (D.step.noted ⟨3, 0, headL [], []⟩).loose = D.loose := rfl
  have hlo6 := hk.ll
  have hcs6 := hk.cs
  have hcsE : (D.step.noted ⟨3, 0, headL [], []⟩).cS = D.cS := rfl
  have hr12 := hr1.trans hr2
  have hs2 := hr12.below.size
  have HFIN := Lib.hid hfin
  generalize D.step.noted ⟨3, 0, headL [], []⟩ = D2 at *
  rw [← hloE] at hw hlo6
  rw [← hcsE] at hcs6
  have HLE := Lib.hid hloE
  clear hfin hloE hcsE hd1 hr1 hr2 hs1 hkS hk
  obtain ⟨mS, mN, lv, tv, hD⟩ := hd2.parts
  have c4 := hD.row.cell 4 rfl
  have hlo := hD.lo
  have hform : ∃ A c, lv = .slice A D2.loose.length c := by
    obtain ⟨vs, a1, a2, a3⟩ := hlo
    obtain ⟨A, c, e, -, -⟩ := own_form a3
    exact ⟨A, c, e⟩
  obtain ⟨A, c, rfl⟩ := hform
  go_wp2
  go_loopw [13] (fun i wr => ∃ j : Nat, j ≤ D2.loose.length ∧ i = .int .i64 (j : Int) ∧ DiskW wr base b (D2.part j) mS mN (.slice A D2.loose.length c) tv ∧ DR dTy base W wr) (fun i _ => D2.loose.length - (intOf i).toNat)
  case atStart => exact ⟨0, Nat.zero_le _, rfl, hD, hr12⟩
  case round =>
    obtain ⟨j, hj, rfl, hDj, hrj⟩ := hrel
    have hsj := hrj.below.size
    clear hD hlo c4 hd2 hr12
    by_cases hlt : j < D2.loose.length
    · have hx : D2.loose[j]? = some D2.loose[j] := List.getElem?_eq_getElem hlt
      have hpart := D2.part_succ j _ hx
      have hwx := hw _ (List.getElem_mem hlt)
      generalize D2.loose[j] = x at *
      obtain ⟨xa, xb⟩ := x
      obtain ⟨g, cap, u, hlv, hu, hce⟩ := hDj.lo.elem (show (D2.part j).loose[j]? = some (xa, xb) from hx)
      simp only [Value.slice.injEq] at hlv
      obtain ⟨rfl, -, rfl⟩ := hlv
      have HW := Lib.hid hwx
      have HP := Lib.hid hpart
      have hln0 : D2.loose.length ≤ 900000 := hlo6
      obtain ⟨Au, nu, cu, hu2⟩ : ∃ Au nu cu, u = .slice Au nu cu := by obtain ⟨A, c, e, _⟩ := hu; exact ⟨_, _, _, e⟩
      subst hu2
      clear hwx hpart hx
      go_upto_region 5 with (first | (apply wpl_loadR (ty := 101) [.int .i64 xa, .slice Au nu cu]; rfl; rfl; rfl; kernel_rfl; kernel_rfl; exact hce) | (apply wpl_storeN; rfl; rfl; rfl; (first | rfl | simp); rfl; kernel_rfl; rfl; (simp [Value.oneCell']); simp only [Act.put]))
      have R3 := Row.new wr #[.int .i64 xa, .slice Au nu cu] 101
      have hB3 : Below wr.heap.size wr (wr.alloc (.cells #[.int .i64 xa, .slice Au nu cu] 101)) := below_alloc (Below.refl _ _) _
      have hf3 : FR [] [] base wr (wr.alloc (.cells #[.int .i64 xa, .slice Au nu cu] 101)) := FR.of_below hB3 (by omega)
      generalize wr.alloc (.cells #[.int .i64 xa, .slice Au nu cu] 101) = w3 at *
      have hD3 := hDj.fr hf3
      have hu3 := hu.keep hf3.dr (by simp)
      have hrow3 := hD3.row
      obtain ⟨f, hf, hbt⟩ := hD3.st.out
      have hnS : (D2.part j).cS < 10000000 := by show D2.cS + j < 10000000; omega
      clear hce hDj hB3 hu
      (refine wp_region_linG (FR [] [] base) (wayF [] [] base) [(0, true), (1, true), (2, true), (3, true), (4, true), (5, true), (6, true), (7, true), (8, false)] rfl rfl (by kernel_rfl) (by kernel_rfl) (fun _ _ _ _ _ h => h) ?_; (iterate 9 (first | (apply linG_take; (simp only [List.getElem?_toArray, List.getElem?_cons_succ, List.getElem?_cons_zero]; rfl); (rfl); (intro w' hb'; (try have k1 := FR.cell hb' hrow3 (by simp) (j := 2) rfl); (try have k2 := FR.cell hb' R3 (by simp) (j := 0) rfl); (try have k3 := FR.cell hb' R3 (by simp) (j := 1) rfl); (first | (go_simp; done) | (go_simp; with_reducible rfl) | (go_simp; go_bits; with_reducible rfl) | (go_simp; go_bits; done))); try simp only [Act.put, List.setIfInBounds_toArray, List.set_cons_zero, List.set_cons_succ]) | (apply linG_skip; (simp only [List.getElem?_toArray, List.getElem?_cons_succ, List.getElem?_cons_zero]; rfl); (rfl); try simp only [Act.put, List.setIfInBounds_toArray, List.set_cons_zero, List.set_cons_succ]) | (apply linG_pass (wayF [] [] base); (simp only [List.getElem?_toArray, List.getElem?_cons_succ, List.getElem?_cons_zero]; rfl); (rfl); try simp only [Act.put, List.setIfInBounds_toArray, List.set_cons_zero, List.set_cons_succ]) | (apply linG_last; (simp only [List.getElem?_toArray, List.getElem?_cons_succ, List.getElem?_cons_zero]; rfl); (rfl); (kernel_rfl); intro K hK; (first | (refine wp_putI rfl rfl rfl rfl (hf.below (W' := w3.drew) rfl) hnS HW.out ?_; intro w4 hm4 hg4) | (go_simp; (first | skip))); refine hK _ _ trivial ?_; clear hK; try simp only [Act.put, List.setIfInBounds_toArray, List.set_cons_zero, List.set_cons_succ]) | (apply linG_op; (simp only [List.getElem?_toArray, List.getElem?_cons_succ, List.getElem?_cons_zero]; rfl); (rfl); intro K hK; (first | (refine wp_putI rfl rfl rfl rfl (hf.below (W' := w3.drew) rfl) hnS HW.out ?_; intro w4 hm4 hg4) | (go_simp; (first | skip))); refine hK _ _ ?_ ?_; (first | exact hdr2 | assumption | (first | exact rg_alloc (by simp; omega) (by simp; omega) _ | exact FR.of_below (below_alloc (Below.refl _ _) _) (by first | assumption | (simp; omega)) | exact DR.of_below (below_alloc (Below.refl _ _) _) (by first | assumption | (simp; omega)))); clear hK; try simp only [Act.put, List.setIfInBounds_toArray, List.set_cons_zero, List.set_cons_succ]))); (try refine linG_end ?_))
      have hf4 : FR [] [mS] base w3 w4 := FR.trans (FR.refl _ _ _ _).drew (FR.of_map hg4 (hf.below (W' := w3.drew) rfl).isMap hD3.hS (by simp))
      have hD4 := hD3.putS hbt hu3 hm4 hf4
      have hall := hrj.trans ((hf3.dr.less (by simp)).trans (hf4.dr.less (by simp)))
      clear hf hbt hm4 hg4 hD3 hrow3 R3 hf3 hf4 hu3
      go_wp2
      exact ⟨⟨j + 1, by omega, by go_num, by rw [HP.out]; exact hD4, hall⟩, by simp [intOf]; omega⟩
    · obtain rfl : j = D2.loose.length := by omega
      have hrow := hDj.row
      have fz := hrow.free 4
      have c4 := hrow.cell 4 rfl
      have hu5 := upd_cell (j := 4) hrow (Value.slice none 0 0)
      go_wp2
      have hlo' : LooseAt wr base (.slice none 0 0) [] := ⟨[], rfl, fun k u x h => by simp at h, ⟨by simp, .inl ⟨rfl, rfl⟩⟩⟩
      have ht := disk_turn (D := { D2.part D2.loose.length with loose := [] }) hrow hu5 hDj.hb hDj.st hDj.nw hlo' hDj.tr
      refine bodyPost_end (by simp [results, Try.results22]) rfl ⟨rfl, ?_, hrj.trans ht.1⟩
      rw [HFIN.out, ← HLE.out]
      exact ⟨⟨mS, mN, _, tv, hu5.row, hDj.hb, hDj.hS, hDj.hN, hDj.ne, ht.2.1, ht.2.2.1, ht.2.2.2.1, ht.2.2.2.2⟩⟩
end Go.Proofs.Ytmdmhjcdaejlkaa

/- Contracts of the device: Cut, Stable, Blocks, Size, Trace. -/
set_option linter.unusedVariables false
set_option linter.unusedSimpArgs false
namespace Go.Proofs.Ytmdmhjcdaejlkaa
open Go.RowKit

def Dk.cut (D : Dk) (n : Int) : Dk := { D with after := max n (-1) }
theorem c_cut (W : World) (base b : Nat) (D : Dk) (n : Int) (h : DiskAt W base b D) :
    Calls Try.prog 43 #[.pointer (some ⟨b, 0, none⟩), .int .i64 n] W fun e w' => e = .returned (.tuple #[]) ∧ DiskAt w' base b (D.cut n) ∧ DR dTy base W w' := by
  obtain ⟨mS, mN, lv, tv, hD⟩ := h.parts
  have hrow := hD.row
  have c5 := hrow.cell 5 rfl
  have fz := hrow.free 5
  have hu5 := upd_cell (j := 5) hrow (.int .i64 (max n (-1)))
  have ht := disk_turn (D := D.cut n) hrow hu5 hD.hb hD.st hD.nw hD.lo hD.tr
  have fin : DiskAt (W.setCell ⟨b, 5, none⟩ (.int .i64 (max n (-1)))) base b (D.cut n) ∧ DR dTy base W (W.setCell ⟨b, 5, none⟩ (.int .i64 (max n (-1)))) :=
    ⟨⟨⟨mS, mN, lv, tv, hu5.row, hD.hb, hD.hS, hD.hN, hD.ne, ht.2.1, ht.2.2.1, ht.2.2.2.1, ht.2.2.2.2⟩⟩, ht.1⟩
  generalize D.cut n = D' at *
  clear hu5 ht hrow hD h
  by_cases hn : n < -1
  · rw [show max n (-1) = -1 by omega] at fin
    go_enter Try.func43, Try.ntmps43
    go_wp2
    exact bodyPost_end (by simp [results, Try.results43]) rfl ⟨rfl, fin⟩
  · rw [show max n (-1) = n by omega] at fin
    go_enter Try.func43, Try.ntmps43
    go_wp2
    exact bodyPost_end (by simp [results, Try.results43]) rfl ⟨rfl, fin⟩
theorem c_stable (W : World) (base b : Nat) (D : Dk) (at_ : Int) (h : DiskAt W base b D) (hk : DkOk D) (hat : (Lit.int .i64 at_).wf = true) :
    Calls Try.prog 24 #[.pointer (some ⟨b, 0, none⟩), .int .i64 at_] W fun e w' => ∃ v, e = .returned v ∧ OwnB w' W.heap.size 5 v (D.at_ D.stable at_) ∧ Below W.heap.size W w' := by
  obtain ⟨mS, mN, lv, tv, hD⟩ := h.parts
  have c2 := hD.row.cell 2 rfl
  have hc := c_dBlock W base b mS D.cS D D.stable at_ h hD.st hk hat
  clear hD hat h
  go_enter Try.func24, Try.ntmps24
  go_wp2_with fail
  refine hc.mono ?_
  rintro e w' ⟨v, rfl, ho, hb⟩
  go_wp2
  go_ret
  exact ⟨_, rfl, ho, hb⟩
theorem c_blocks (W : World) (base b : Nat) (D : Dk) (h : DiskAt W base b D) : Calls Try.prog 77 #[.pointer (some ⟨b, 0, none⟩)] W fun e w' => e = .returned (.int .i64 D.blocks) ∧ W = w' := by
  obtain ⟨mS, mN, lv, tv, hD⟩ := h.parts
  have c0 := hD.row.cell 0 rfl
  clear hD h
  go_enter Try.func77, Try.ntmps77
  go_wp2
  go_ret
  exact ⟨rfl, rfl⟩
theorem c_size (W : World) (base b : Nat) (D : Dk) (h : DiskAt W base b D) : Calls Try.prog 59 #[.pointer (some ⟨b, 0, none⟩)] W fun e w' => e = .returned (.int .i64 D.size) ∧ W = w' := by
  obtain ⟨mS, mN, lv, tv, hD⟩ := h.parts
  have c0 := hD.row.cell 1 rfl
  clear hD h
  go_enter Try.func59, Try.ntmps59
  go_wp2
  go_ret
  exact ⟨rfl, rfl⟩
/-! ### Trace -/
theorem evC_14 (k a : Int) (hd : List UInt8) (u : Value) (h : hd.length = 12) : (evC k a hd u).toArray[14]? = some u := by
  unfold evC
  rw [List.getElem?_toArray, List.getElem?_append_right (by simp [bv_length, h])]
  simp [bv_length, h]
theorem evC_set (k a : Int) (hd : List UInt8) (u u' : Value) (h : hd.length = 12) : (evC k a hd u).toArray.setIfInBounds 14 u' = (evC k a hd u').toArray := by
  unfold evC
  rw [List.setIfInBounds_toArray, List.set_append_right _ _ (by simp [bv_length, h])]
  simp [bv_length, h]
theorem wpl_storeEv {ops : Array Oper} {rest : List Oper} {o : Oper} {a : Act} {w : World} {Q : Exit → Act → World → Prop} {x y : Operand} {t : TypeId} {old : Array Value} {g : Nat} {k at_ : Int} {hd : List UInt8} {A : Option Addr} {n c : Nat}
    (hgd : o.guard = none) (ho : o.op = .store 45 x y) (hx : a.eval x = .pointer (some ⟨g, 0, none⟩)) (hg : w.heap.size = g) (hy : a.eval y = .agg (evC k at_ hd (.slice A n c)).toArray) (hh : hd.length = 12) (hold : old.size = 15)
    (h : wpList Try.prog ops Q rest (a.put o.dst undef) (w.alloc (.cells (evC k at_ hd (.slice A n c)).toArray t))) : wpList Try.prog ops Q (o :: rest) a (w.alloc (.cells old t)) :=
  wpl_storeN hgd ho hx hg hy (by rw [List.size_toArray, evC_len _ _ _ _ hh]; kernel_rfl) (hold.trans (by rw [List.size_toArray, evC_len _ _ _ _ hh])) (by
    rw [Array.all_eq_true_iff_forall_mem]
    intro v hv
    exact evC_one k at_ hd A n c v (by simpa using hv)) h
theorem wpl_buildOne {P : Program} {ops : Array Oper} {rest : List Oper} {o : Oper} {a : Act} {w : World} {Q : Exit → Act → World → Prop} {t e : TypeId} {x : Operand} {vs : List Value} {z : Value} {size : Nat} (hgd : o.guard = none) (ho : o.op = .buildSlice t 1 #[(0, x)])
    (hu : P.underlying t = some (.slice e)) (hi : (P.info? e).map (fun i => (i.zero, i.size)) = some (some z, size)) (hs : 0 < size ∧ size < 1000000) (hx : a.eval x = .agg vs.toArray) (hl : vs.length = size)
    (h : wpList P ops Q rest (a.put o.dst (.slice (some ⟨w.heap.size, 0, none⟩) 1 1)) (w.alloc (.cells vs.toArray e))) : wpList P ops Q (o :: rest) a w :=
  wpList_plain hgd fun _ hK => wp_buildOne ho hu hi hs hx hl (hK _ _ h)
theorem flatMap_evs : ∀ (l : List Ev) (vs : List Value) (j i : Nat) (x : Ev) (u : Value), (∀ (k : Nat) (y : Ev), l[k]? = some y → y.head.length = 12) → l[j]? = some x → vs[j]? = some u → i < 15 → ((l.zip vs).flatMap fun p => evCells p.1 p.2)[15 * j + i]? = (evCells x u)[i]?
  | [], _, _, _, _, _, _, h, _, _ => by cases h
  | _ :: _, [], _, _, _, _, _, _, h, _ => by cases h
  | y :: l, v :: vs, j, i, x, u, hh, hx, hu, hi => by
    have hy : (evCells y v).length = 15 := evC_len _ _ _ _ (hh 0 y rfl)
    rw [List.zip_cons_cons, List.flatMap_cons]
    cases j with
    | zero =>
      cases hx
      cases hu
      rw [List.getElem?_append_left (by rw [hy]; omega), Nat.mul_zero, Nat.zero_add]
    | succ j =>
      rw [List.getElem?_append_right (by rw [hy, Nat.mul_succ]; omega), hy, show 15 * (j + 1) + i - 15 = 15 * j + i by omega]
      exact flatMap_evs l vs j i x u (fun k z hk => hh (k + 1) z hk) hx hu hi
theorem TraceAt.elem {W : World} {base : Nat} {tv : Value} {l : List Ev} (h : TraceAt W base tv l) {j : Nat} {x : Ev} (hx : l[j]? = some x) :
    ∃ g cap A n c, tv = .slice (some ⟨g, 0, none⟩) l.length cap ∧ x.head.length = 12 ∧ BytesAt W base (.slice A n c) x.body ∧ ∀ i v, (evC x.kind x.at_ x.head (.slice A n c))[i]? = some v → W.cell? ((⟨g, j * 15, none⟩ : Addr).add i) = some v := by
  obtain ⟨vs, a1, a2, a3⟩ := h
  have hj : j < l.length := (List.getElem?_eq_some_iff.1 hx).1
  rcases a3.2 with ⟨_, h0⟩ | ⟨g, cap, cur, rfl, _⟩
  · omega
  · have hu : vs[j]? = some vs[j] := List.getElem?_eq_getElem (by omega)
    obtain ⟨b1, b2⟩ := a2 j _ x hu hx
    have hb := b1
    obtain ⟨A, c, e, _⟩ := b1
    rw [e] at hb hu
    refine ⟨g, cap, A, _, c, rfl, b2, hb, fun i v hv => ?_⟩
    have hi : i < 15 := by
      rcases Nat.lt_or_ge i 15 with h | h
      · exact h
      · rw [List.getElem?_eq_none (by rw [evC_len _ _ _ _ b2]; exact h)] at hv; cases hv
    have hz : (l.zip vs)[j]? = some (x, .slice A x.body.length c) := by rw [List.getElem?_zip_eq_some]; exact ⟨hx, hu⟩
    have hflat : ((l.zip vs).flatMap fun p => evCells p.1 p.2)[15 * j + i]? = some v := by
      rw [flatMap_evs l vs j i x _ (fun k y hk => ?_) hx hu hi]
      · exact hv
      · have hkv : vs[k]? = some vs[k]! := by
          have : k < vs.length := by rw [a1]; exact (List.getElem?_eq_some_iff.1 hk).1
          rw [List.getElem?_eq_getElem this, List.getElem!_eq_getElem?_getD, List.getElem?_eq_getElem this]; rfl
        exact (a2 k _ y hkv hk).2
    have hc := World.ownsRow.cells a3 (g := g) rfl (15 * j + i) v hflat
    rw [ad_none] at hc ⊢
    rw [Nat.zero_add] at hc
    rw [Nat.mul_comm j 15]
    exact hc
theorem own_heap {W W' : World} {B n : Nat} {e : TypeId} {size : Nat} {v : Value} {xs : List Value} (h : W.ownsRow B e size v n xs) (hk : ∀ g, v.ownBlock = some g → W'.heap[g]? = W.heap[g]?) : W'.ownsRow B e size v n xs := by
  refine ⟨h.1, ?_⟩
  rcases h.2 with h | ⟨g, cap, cur, rfl, hg, hh, r⟩
  · exact .inl h
  · exact .inr ⟨g, cap, cur, rfl, hg, (hk g rfl).trans hh, r⟩
theorem own_lt {W : World} {B n : Nat} {e : TypeId} {size : Nat} {v : Value} {xs : List Value} (h : W.ownsRow B e size v n xs) : ∀ g, v.ownBlock = some g → g < W.heap.size := by
  intro g' hv
  rcases h.2 with ⟨rfl, _⟩ | ⟨g, cap, cur, rfl, hg, hh, r⟩
  · simp [Value.ownBlock] at hv
  · simp [Value.ownBlock] at hv
    subst hv
    exact (Array.getElem?_eq_some_iff.1 hh).1
set_option maxHeartbeats 4000000 in
set_option maxRecDepth 100000 in
theorem c_trace (W : World) (base b : Nat) (D : Dk) (h : DiskAt W base b D) (hk : DkOk D) (hbl : ∀ e ∈ D.trace, e.body.length ≤ 60000) :
    Calls Try.prog 26 #[.pointer (some ⟨b, 0, none⟩)] W fun e w' => ∃ v, e = .returned v ∧ TraceAt w' W.heap.size v D.trace ∧ Below W.heap.size W w' := by
  obtain ⟨mS, mN, lv, tv, hD⟩ := h.parts
  have c7 := hD.row.cell 7 rfl
  have htr := hD.tr
  have hln := hk.ln
  generalize D.trace = l at *
  have hform : ∃ A c, tv = .slice A l.length c := by
    obtain ⟨vs, a1, a2, a3⟩ := htr
    obtain ⟨A, c, e, -, -⟩ := own_form a3
    exact ⟨A, c, e⟩
  obtain ⟨A, c, rfl⟩ := hform
  clear hD hk h
  go_enter Try.func26, Try.ntmps26
  go_wp2
  go_loopw [3, 11] (fun v i wr => ∃ j : Nat, j ≤ l.length ∧ i = .int .i64 (j : Int) ∧ TraceAt wr W.heap.size v (l.take j) ∧ Below W.heap.size W wr) (fun _ i _ => l.length - (intOf i).toNat)
  case atStart => exact ⟨0, Nat.zero_le _, rfl, ⟨[], rfl, fun k u x h => by simp at h, ⟨by simp, .inl ⟨rfl, rfl⟩⟩⟩, Below.refl _ _⟩
  case round =>
    obtain ⟨j, hj, rfl, ho, hb⟩ := hrel
    have hs := hb.size
    clear c7
    by_cases hlt : j < l.length
    · have hx : l[j]? = some l[j] := List.getElem?_eq_getElem hlt
      have hbx := hbl _ (List.getElem_mem hlt)
      have htk : l.take (j + 1) = l.take j ++ [l[j]] := by rw [List.take_add_one, hx]; rfl
      generalize l[j] = x at *
      obtain ⟨g, cap, Au, nu, cu, htv, hh, hu, hce⟩ := htr.elem hx
      simp only [Value.slice.injEq] at htv
      obtain ⟨rfl, -, rfl⟩ := htv
      obtain ⟨k, a, hd, bo⟩ := x
      have HTK := Lib.hid htk
      clear htk hx
      simp only at hbx hh hu hce
      have hceR : ∀ i v, (evC k a hd (.slice Au nu cu))[i]? = some v → wr.cell? ((⟨g, j * 15, none⟩ : Addr).add i) = some v := fun i v hv => by
        have := hce i v hv
        rw [hb.cell (World.block_lt_of_cell? _ _ this), this]
      obtain ⟨hnu, -⟩ : nu = bo.length ∧ True := by
        obtain ⟨A', c', e, _⟩ := hu
        simp only [Value.slice.injEq] at e
        exact ⟨e.2.1, trivial⟩
      have hru : RdB W Au nu bo := by
        obtain ⟨A', c', e, _, _, hr, _⟩ := hu
        simp only [Value.slice.injEq] at e
        obtain ⟨rfl, rfl, rfl⟩ := e
        exact hr
      subst hnu
      have hruR := hru.below hb (Nat.le_refl _)
      clear hce hu
      go_upto_region 5 with (first | (apply wpl_loadR (ty := 45) (evC k a hd (.slice Au bo.length cu)); rfl; rfl; rfl; kernel_rfl; (rw [evC_len _ _ _ _ hh]; kernel_rfl); exact hceR) | (refine wpl_storeEv (k := k) (at_ := a) (hd := hd) rfl rfl rfl (by first | rfl | simp) rfl hh rfl ?_; simp only [Act.put]))
      have R3 := Row.new wr (evC k a hd (.slice Au bo.length cu)).toArray 45
      have hB3 : Below wr.heap.size wr (wr.alloc (.cells (evC k a hd (.slice Au bo.length cu)).toArray 45)) := below_alloc (Below.refl _ _) _
      have hb3 := hb.trans (hB3.mono hs)
      have hs3 : wr.heap.size < (wr.alloc (.cells (evC k a hd (.slice Au bo.length cu)).toArray 45)).heap.size := by simp
      generalize wr.alloc (.cells (evC k a hd (.slice Au bo.length cu)).toArray 45) = w3 at *
      have ho3 := ho.fr (FR.of_below hB3 hs) (S := []) (M := []) (by simp) (by simp)
      have c14 := R3.cell 14 (evC_14 k a hd _ hh)
      have hru3 := hruR.below hB3 (Nat.le_refl _)
      have hB3k := hB3
      clear hceR hB3
      go_wp2_with fail
      refine (c_clone _ _ _ bo w3 hru3 (by omega)).mono ?_
      rintro e w4 ⟨u, rfl, hou, hb4⟩
      have R4 := R3.below hb4 hs3
      have ho4 := ho3.fr (FR.of_below hb4 (by omega)) (S := []) (M := []) (by simp) (by simp)
      obtain ⟨Au', cu', rfl, -⟩ := hou.form
      have c14' := R4.cell 14 (evC_14 k a hd _ hh)
      have fz14 := R4.free 14
      have R5 := R4.set 14 (.slice Au' bo.length cu')
      rw [evC_set k a hd _ _ hh] at R5
      have hf5 : FR [45] [] W.heap.size w4 (w4.setCell ⟨wr.heap.size, 14, none⟩ (.slice Au' bo.length cu')) := FR.of_upd (upd_cell R4 _) R4 (by decide) hs
      have hs4 := hb4.size
      have hfr34 : FR [] [] W.heap.size wr w4 := (FR.of_below (hB3k) hs).trans (FR.of_below hb4 (by omega))
      obtain ⟨vs, a1, a2, a3⟩ := ho
      have hlt3 := own_lt a3
      have a34 := own_heap a3 (W' := w4.setCell ⟨wr.heap.size, 14, none⟩ (.slice Au' bo.length cu')) (fun g hg => by
        rw [heap_setCell_other _ _ _ _ (by have := hlt3 g hg; show g ≠ wr.heap.size; omega), hb4.block g (by have := hlt3 g hg; omega), hB3k.block g (hlt3 g hg)])
      have a25 : ∀ (k : Nat) u x, vs[k]? = some u → (l.take j)[k]? = some x → BytesAt (w4.setCell ⟨wr.heap.size, 14, none⟩ (.slice Au' bo.length cu')) W.heap.size u x.body ∧ x.head.length = 12 := fun k u x e1 e2 =>
        ⟨((a2 k u x e1 e2).1.keep hfr34.dr (by simp)).keep hf5.dr (by decide), (a2 k u x e1 e2).2⟩
      have hu5 : BytesAt (w4.setCell ⟨wr.heap.size, 14, none⟩ (.slice Au' bo.length cu')) W.heap.size (.slice Au' bo.length cu') bo := (BytesAt.of_own hou).keep hf5.dr (by decide)
      have hb5 : Below W.heap.size W (w4.setCell ⟨wr.heap.size, 14, none⟩ (.slice Au' bo.length cu')) := (hb3.trans (hb4.mono (by omega))).trans hf5.dr.below
      have hs5 : W.heap.size ≤ (w4.setCell ⟨wr.heap.size, 14, none⟩ (.slice Au' bo.length cu')).heap.size := hb5.size
      have hlj : (l.take j).length = j := by rw [List.length_take]; omega
      rw [hlj] at a3 a34
      have hln2 : j ≤ 1000000 := by omega
      clear ho3 ho4 hou c14 hru hruR hru3 hbx
      go_upto_region 6 with (fail)
      generalize w4.setCell ⟨wr.heap.size, 14, none⟩ (.slice Au' bo.length cu') = w5 at *
      clear c14' fz14 R4 a3 hf5
      go_upto_region 7 with (first | (apply wpl_loadR (ty := 45) (evC k a hd (.slice Au' bo.length cu')); rfl; rfl; rfl; kernel_rfl; (rw [evC_len _ _ _ _ hh]; kernel_rfl); exact row_cells R5) | (refine wpl_buildOne (vs := evC k a hd (.slice Au' bo.length cu')) rfl rfl Try.underlying41 info_event2 (by decide) rfl (evC_len _ _ _ _ hh) ?_; simp only [Act.put]) | (at_builtin; refine wpl_appOne (base := W.heap.size) (n := j) rfl rfl Try.underlying41 info_event rfl (by decide) (by decide) rfl rfl (World.ownsRow.alloc a34 _) (evC_len _ _ _ _ hh) (news_at w5 (evC k a hd (.slice Au' bo.length cu')) 45) (evC_one _ _ _ _ _ _) hln2 (by simp; omega) ?_; intro v6 w6 ho6 hg6))
      have hf6 : FR [45] [] W.heap.size w5 w6 := (FR.of_below (below_alloc (Below.refl _ _) _) hs5).trans (FR.of_own hg6 (World.ownsRow.alloc a34 _) (by decide) (by simp; omega))
      have hT6 : TraceAt w6 W.heap.size v6 (l.take j ++ [⟨k, a, hd, bo⟩]) :=
        TraceAt.snoc (by rw [a1]) (fun k u x e1 e2 => ⟨(a25 k u x e1 e2).1.keep hf6.dr (by decide), (a25 k u x e1 e2).2⟩) (by rw [hlj]; exact ho6) (hu5.keep hf6.dr (by decide)) hh
      have hb6 := hb5.trans hf6.dr.below
      clear a34 a25 a2 hu5 ho6 hg6 hf6 R5 hfr34
      go_wp2
      exact ⟨⟨j + 1, by omega, by go_num, by rw [HTK.out]; exact hT6, hb6⟩, by simp [intOf]; omega⟩
    · obtain rfl : j = l.length := by omega
      rw [List.take_length] at ho
      go_wp2
      go_ret
      exact ⟨_, rfl, ho, hb⟩
end Go.Proofs.Ytmdmhjcdaejlkaa

/- Contracts of the device: Crash. -/
set_option linter.unusedVariables false
set_option linter.unusedSimpArgs false
namespace Go.Proofs.Ytmdmhjcdaejlkaa
open Go.RowKit

def garL (xs : List UInt8) : List UInt8 := xs.map (· ^^^ 165)
theorem garL_length (xs : List UInt8) : (garL xs).length = xs.length := by simp [garL]
theorem xor165 (b : UInt8) : bits .xor .u8 (b.toNat : Int) 165 = ((b ^^^ 165).toNat : Int) := by
  have h : ∀ n : Fin 256, bits .xor .u8 ((UInt8.ofNat n.val).toNat : Int) 165 = ((UInt8.ofNat n.val ^^^ 165).toNat : Int) := by decide +kernel
  have := h ⟨b.toNat, b.toNat_lt⟩
  rwa [show UInt8.ofNat b.toNat = b from UInt8.ofNat_toNat] at this
theorem c_garble_step (xs : List UInt8) (k : Nat) (hk : k < xs.length) : (garL (xs.take k) ++ xs.drop k).set k (xs[k] ^^^ 165) = garL (xs.take (k + 1)) ++ xs.drop (k + 1) := by
  have hl : (garL (xs.take k)).length = k := by rw [garL_length, List.length_take]; omega
  rw [List.set_append_right _ _ (by omega), hl, Nat.sub_self, List.drop_eq_getElem_cons hk, List.set_cons_zero, List.take_add_one, List.getElem?_eq_getElem hk]
  unfold garL
  rw [List.map_append, List.append_assoc]
  rfl
theorem garble_at (xs : List UInt8) (k : Nat) (hk : k < xs.length) : (garL (xs.take k) ++ xs.drop k)[k]?.getD 0 = xs[k] := by
  have hl : (garL (xs.take k)).length = k := by rw [garL_length, List.length_take]; omega
  rw [List.getElem?_append_right (by omega), hl, Nat.sub_self, List.getElem?_drop, Nat.add_zero, List.getElem?_eq_getElem hk]
  rfl
/-- a choice: 0 kept, 1 lost, 2 garbled -/
def chs (ch : List Int) (i : Nat) : Int := match ch[i]? with | some c => c % 3 | none => 0
theorem chs_mod (c : Int) (h : -9223372036854775808 ≤ c ∧ c ≤ 9223372036854775807) : (c.tmod 3 + 3).tmod 3 = c % 3 := by
  have h1 : c.tmod 3 = c % 3 ∨ c.tmod 3 = c % 3 - 3 := by
    rcases Int.le_total 0 c with h | h
    · exact .inl (Int.tmod_eq_emod_of_nonneg h)
    · have e : c.tmod 3 = -((-c) % 3) := by
        rw [show c = -(-c) by omega, Int.neg_tmod, Int.tmod_eq_emod_of_nonneg (by omega), Int.neg_neg]
      omega
  have h2 : 0 ≤ c.tmod 3 + 3 := by omega
  rw [Int.tmod_eq_emod_of_nonneg h2]
  omega
/-- what a write's choice makes of the blocks -/
def crash1 (m : Int → List UInt8) (x : Int × List UInt8) (c : Int) : Int → List UInt8 :=
  if c = 0 then fun j => if j = x.1 then x.2 else m j else if c = 2 then fun j => if j = x.1 then garL x.2 else m j else m
def crashF (D : Dk) (ch : List Int) : Nat → Int → List UInt8
  | 0 => D.stable
  | j + 1 => match D.loose[j]? with | some x => crash1 (crashF D ch j) x (chs ch j) | none => crashF D ch j
def Dk.cpart (D : Dk) (ch : List Int) (j : Nat) : Dk := { D with stable := crashF D ch j, cS := D.cS + j }
/-- the device behind a crash -/
def Dk.crash (D : Dk) (ch : List Int) : Dk := { D with stable := crashF D ch D.loose.length, now := crashF D ch D.loose.length, cS := D.cS + D.loose.length, cN := D.cS + D.loose.length, loose := [], off := false, after := -1, trace := D.trace ++ [⟨4, 0, headL [], []⟩] }
theorem MapI.mono {W : World} {b n n' : Nat} {f : Int → Value} (h : MapI W b n f) (hn : n ≤ n') : MapI W b n' f := by
  obtain ⟨D, ⟨es, cl, h1, h2, h3, h4⟩, hD⟩ := h.out
  exact ⟨D, ⟨es, cl, h1, h2, by omega, h4⟩, hD⟩
theorem crash_kept (D : Dk) (ch : List Int) (j : Nat) (x : Int × List UInt8) (hx : D.loose[j]? = some x) (hc : chs ch j = 0) : D.cpart ch (j + 1) = { D.cpart ch j with stable := fun i => if i = x.1 then x.2 else (D.cpart ch j).stable i, cS := (D.cpart ch j).cS + 1 } := by
  unfold Dk.cpart
  simp only [crashF, hx, hc, crash1, if_true, Nat.add_assoc]
theorem crash_garbled (D : Dk) (ch : List Int) (j : Nat) (x : Int × List UInt8) (hx : D.loose[j]? = some x) (hc : chs ch j = 2) : D.cpart ch (j + 1) = { D.cpart ch j with stable := fun i => if i = x.1 then garL x.2 else (D.cpart ch j).stable i, cS := (D.cpart ch j).cS + 1 } := by
  unfold Dk.cpart
  simp only [crashF, hx, hc, crash1, Nat.add_assoc]
  rfl
theorem crash_lost (D : Dk) (ch : List Int) (j : Nat) (x : Int × List UInt8) (hx : D.loose[j]? = some x) (hc : chs ch j = 1) : D.cpart ch (j + 1) = { D.cpart ch j with cS := (D.cpart ch j).cS + 1 } := by
  unfold Dk.cpart
  simp only [crashF, hx, hc, crash1, Nat.add_assoc]
  rfl
theorem DiskW.moreS {W : World} {base b : Nat} {D : Dk} {mS mN : Nat} {lv tv : Value} (h : DiskW W base b D mS mN lv tv) : DiskW W base b { D with cS := D.cS + 1 } mS mN lv tv :=
  ⟨h.row, h.hb, h.hS, h.hN, h.ne, (by obtain ⟨f, hf, hb⟩ := h.st.out; exact ⟨⟨f, hf.mono (by simp), hb⟩⟩), h.nw, h.lo, h.tr⟩
theorem ranges_cnt {W : World} {b r n cnt : Nat} {D : DataW Value} {left : Lit → Bool} (h : W.ranges Try.prog 3 selfR b r n D left cnt) : cnt ≤ n := by
  obtain ⟨es, clock, since, seen, c0, _, _, hs, _, _, _, hc, _⟩ := h
  rw [← hc]
  unfold leftOf
  exact Nat.le_trans (Array.size_filter_le ..) hs
theorem ranges_iter {W : World} {b r n cnt : Nat} {D : DataW Value} {left : Lit → Bool} (h : W.ranges Try.prog 3 selfR b r n D left cnt) : ∃ x y z u, W.heap[r]? = some (.mapIter x y z u) := by
  obtain ⟨es, clock, since, seen, c0, _, _, hs, _, hr, _⟩ := h
  exact ⟨_, _, _, _, hr⟩
theorem FR.of_iter {S : List TypeId} {M : List Nat} {base r : Nat} {W W' : World} (hg : W.grownBy W' (some r)) (hm : ∃ x y z u, W.heap[r]? = some (.mapIter x y z u)) (hb : base ≤ r) : FR S M base W W' := by
  obtain ⟨x, y, z, u, hr⟩ := hm
  have hlt : r < W.heap.size := (Array.getElem?_eq_some_iff.1 hr).1
  refine ⟨⟨⟨hg.os, hg.tape, hg.output, hg.size, fun k hk => hg.block k (by omega) (fun e => by cases e; omega)⟩, fun k c T fr hk _ => (hg.block k (Array.getElem?_eq_some_iff.1 hk).1 (fun e => by cases e; rw [hr] at hk; cases hk)).trans hk⟩, fun k es cl hk _ => hg.block k (Array.getElem?_eq_some_iff.1 hk).1 (fun e => by cases e; rw [hr] at hk; cases hk)⟩
theorem FR.of_none {S : List TypeId} {M : List Nat} {base : Nat} {W W' : World} (hg : W.grownBy W' none) (hb : base ≤ W.heap.size) : FR S M base W W' :=
  FR.of_below ⟨hg.os, hg.tape, hg.output, hg.size, fun k hk => hg.block k hk (by simp)⟩ hb
theorem same_int (i j : Int) : (kI i).sameKey (kI j) = decide (i = j) := by simp [kI, Lit.sameKey]
theorem chs_range (ch : List Int) (j : Nat) : chs ch j = 0 ∨ chs ch j = 1 ∨ chs ch j = 2 := by
  unfold chs
  split <;> omega
set_option maxHeartbeats 8000000 in
set_option maxRecDepth 100000 in
theorem c_crash (W : World) (base b : Nat) (D : Dk) (Ac : Option Addr) (nc cc : Nat) (ch : List Int) (h : DiskAt W base b D) (hk : DkOk D) (hB : base ≤ W.heap.size) (hw : ∀ x ∈ D.loose, (Lit.int .i64 x.1).wf = true ∧ x.2.length ≤ 60000)
    (hch : Rd W Ac nc (iv ch)) (hci : ∀ c ∈ ch, -9223372036854775808 ≤ c ∧ c ≤ 9223372036854775807) (hnc : 0 ≤ nc) (hcb : ∀ ad, Ac = some ad → 0 < nc → ad.block < base ∨ ∃ cs fr, W.heap[ad.block]? = some (.cells cs 3 fr)) :
    Calls Try.prog 46 #[.pointer (some ⟨b, 0, none⟩), .slice Ac nc cc] W fun e w' => e = .returned (.tuple #[]) ∧ DiskAt w' base b (D.crash ch) ∧ DR dTy base W w' := by
  obtain ⟨mS, mN, lv, tv, hD⟩ := h.parts
  have hkeep : ∀ w', DR dTy base W w' → Rd w' Ac nc (iv ch) := fun w' hd => hch.keep fun ad e j hj => by
    have hblk : w'.heap[ad.block]? = W.heap[ad.block]? := by
      rcases hcb ad e (by omega) with h | ⟨cs, fr, h⟩
      · exact hd.below.block _ h
      · rw [hd.typ _ _ _ _ h (by decide), h]
    unfold World.cell?
    rw [ad_block, hblk]
  have hlc : ch.length = nc := by have := hch.1; rwa [iv_length] at this
  have HKEEP := Lib.hid hkeep
  have HLC := Lib.hid hlc
  have HCI := Lib.hid hci
  have hln0 : D.loose.length ≤ 900000 := hk.ll
  have hcs0 := hk.cs
  have hform : ∃ A c, lv = .slice A D.loose.length c := by
    obtain ⟨vs, a1, a2, a3⟩ := hD.lo
    obtain ⟨A, c, e, -, -⟩ := own_form a3
    exact ⟨A, c, e⟩
  obtain ⟨A, c, rfl⟩ := hform
  have c4 := hD.row.cell 4 rfl
  clear hkeep hlc hci hch hcb
  go_enter Try.func46, Try.ntmps46
  go_wp2
  go_loopw [16] (fun i wr => ∃ j : Nat, j ≤ D.loose.length ∧ i = .int .i64 (j : Int) ∧ DiskW wr base b (D.cpart ch j) mS mN (.slice A D.loose.length c) tv ∧ DR dTy base W wr) (fun i _ => D.loose.length - (intOf i).toNat)
  case atStart => exact ⟨0, Nat.zero_le _, rfl, hD, DR.refl _ _ _⟩
  case round =>
    obtain ⟨j, hj, rfl, hDj, hrj⟩ := hrel
    have hsj := hrj.below.size
    have hchj := HKEEP.out wr hrj
    clear hD c4 h
    by_cases hlt : j < D.loose.length
    · have hx : D.loose[j]? = some D.loose[j] := List.getElem?_eq_getElem hlt
      obtain ⟨hwx, hlx⟩ := hw _ (List.getElem_mem hlt)
      have hpK := crash_kept D ch j _ hx
      have hpG := crash_garbled D ch j _ hx
      have hpL := crash_lost D ch j _ hx
      generalize D.loose[j] = x at *
      obtain ⟨xa, xb⟩ := x
      obtain ⟨g, cap, u, hlv, hu, hce⟩ := hDj.lo.elem (show (D.cpart ch j).loose[j]? = some (xa, xb) from hx)
      simp only [Value.slice.injEq] at hlv
      obtain ⟨rfl, -, rfl⟩ := hlv
      simp only at hlx hwx
      have HWX := Lib.hid hwx
      obtain ⟨Au, nu, cu, hu2⟩ : ∃ Au nu cu, u = .slice Au nu cu := by obtain ⟨A, c, e, _⟩ := hu; exact ⟨_, _, _, e⟩
      subst hu2
      have hnu : nu = xb.length ∧ RdB wr Au xb.length xb := by
        obtain ⟨A', c', e, _, _, hr, _⟩ := hu
        simp only [Value.slice.injEq] at e
        obtain ⟨rfl, rfl, rfl⟩ := e
        exact ⟨rfl, hr⟩
      obtain ⟨rfl, hru⟩ := hnu
      have HP := Lib.hid (And.intro hpK (And.intro hpG hpL))
      clear hwx hpK hpG hpL hx
      go_upto_region 3 with (first | (apply wpl_loadR (ty := 101) [.int .i64 xa, .slice Au xb.length cu]; rfl; rfl; rfl; kernel_rfl; kernel_rfl; exact hce) | (apply wpl_storeN; rfl; rfl; rfl; (first | rfl | simp); rfl; kernel_rfl; rfl; (simp [Value.oneCell']); simp only [Act.put]))
      have R3 := Row.new wr #[.int .i64 xa, .slice Au xb.length cu] 101
      have hB3 : Below wr.heap.size wr (wr.alloc (.cells #[.int .i64 xa, .slice Au xb.length cu] 101)) := below_alloc (Below.refl _ _) _
      have hf3 : FR [] [] base wr (wr.alloc (.cells #[.int .i64 xa, .slice Au xb.length cu] 101)) := FR.of_below hB3 (by omega)
      have hsg : wr.heap.size < (wr.alloc (.cells #[.int .i64 xa, .slice Au xb.length cu] 101)).heap.size := by simp
      generalize wr.alloc (.cells #[.int .i64 xa, .slice Au xb.length cu] 101) = w3 at *
      have hD3 := hDj.fr hf3
      have hu3 := hu.keep hf3.dr (by simp)
      have hru3 := hru.below hB3 (Nat.le_refl _)
      have hr3 := hrj.trans (hf3.dr.less (S' := dTy) (by simp))
      have hch3 := HKEEP.out w3 hr3
      clear hce hDj hB3 hu hru hchj hrj hf3
      by_cases hjn : j < nc
      · obtain ⟨ad, rfl, hc1⟩ := hch3.int_at hjn
        have hcj : chs ch j = ch[j]?.getD 0 % 3 ∧ -9223372036854775808 ≤ ch[j]?.getD 0 ∧ ch[j]?.getD 0 ≤ 9223372036854775807 := by
          have hjl : j < ch.length := by rw [HLC.out]; exact hjn
          unfold chs
          rw [List.getElem?_eq_getElem hjl]
          exact ⟨rfl, HCI.out _ (List.getElem_mem hjl)⟩
        generalize ch[j]?.getD 0 = cv at *
        obtain ⟨hcj, hcv1, hcv2⟩ := hcj
        have hcm := chs_mod cv ⟨hcv1, hcv2⟩
        rw [← hcj] at hcm
        have ht1 : -2 ≤ cv.tmod 3 ∧ cv.tmod 3 ≤ 2 := by
          have a1 := Int.tmod_lt_of_pos cv (show (0 : Int) < 3 by decide)
          have a2 := Int.lt_tmod_of_pos cv (show (0 : Int) < 3 by decide)
          omega
        obtain ⟨ht1, ht2⟩ := ht1
        have hjn' : (j : Int) < (nc : Int) := by omega
        clear hcj hcv1 hcv2 hch3
        have hP := HP.out
        clear HP
        rcases chs_range ch j with h0 | h0 | h0
        · have hP0 := hP.1 h0
          rw [h0] at hcm
          clear hP h0
          go_upto_region 8 with (fail)
          have hrow3 := hD3.row
          obtain ⟨f, hf, hbt⟩ := hD3.st.out
          have hnS : (D.cpart ch j).cS < 10000000 := by show D.cS + j < 10000000; omega
          have HW := HWX
          (refine wp_region_linG (FR [] [] base) (wayF [] [] base) [(0, true), (1, true), (2, true), (3, true), (4, true), (5, true), (6, true), (7, true), (8, false)] rfl rfl (by kernel_rfl) (by kernel_rfl) (fun _ _ _ _ _ h => h) ?_; (iterate 9 (first | (apply linG_take; (simp only [List.getElem?_toArray, List.getElem?_cons_succ, List.getElem?_cons_zero]; rfl); (rfl); (intro w' hb'; (try have k1 := FR.cell hb' hrow3 (by simp) (j := 2) rfl); (try have k2 := FR.cell hb' R3 (by simp) (j := 0) rfl); (try have k3 := FR.cell hb' R3 (by simp) (j := 1) rfl); (first | (go_simp; done) | (go_simp; with_reducible rfl) | (go_simp; go_bits; with_reducible rfl) | (go_simp; go_bits; done))); try simp only [Act.put, List.setIfInBounds_toArray, List.set_cons_zero, List.set_cons_succ]) | (apply linG_skip; (simp only [List.getElem?_toArray, List.getElem?_cons_succ, List.getElem?_cons_zero]; rfl); (rfl); try simp only [Act.put, List.setIfInBounds_toArray, List.set_cons_zero, List.set_cons_succ]) | (apply linG_pass (wayF [] [] base); (simp only [List.getElem?_toArray, List.getElem?_cons_succ, List.getElem?_cons_zero]; rfl); (rfl); try simp only [Act.put, List.setIfInBounds_toArray, List.set_cons_zero, List.set_cons_succ]) | (apply linG_last; (simp only [List.getElem?_toArray, List.getElem?_cons_succ, List.getElem?_cons_zero]; rfl); (rfl); (kernel_rfl); intro K hK; (first | (refine wp_putI rfl rfl rfl rfl (hf.below (W' := w3.drew) rfl) hnS HW.out ?_; intro w4 hm4 hg4) | (go_simp; (first | skip))); refine hK _ _ trivial ?_; clear hK; try simp only [Act.put, List.setIfInBounds_toArray, List.set_cons_zero, List.set_cons_succ]) | (apply linG_op; (simp only [List.getElem?_toArray, List.getElem?_cons_succ, List.getElem?_cons_zero]; rfl); (rfl); intro K hK; (first | (refine wp_putI rfl rfl rfl rfl (hf.below (W' := w3.drew) rfl) hnS HW.out ?_; intro w4 hm4 hg4) | (go_simp; (first | skip))); refine hK _ _ ?_ ?_; (first | exact hdr2 | assumption | (first | exact rg_alloc (by simp; omega) (by simp; omega) _ | exact FR.of_below (below_alloc (Below.refl _ _) _) (by first | assumption | (simp; omega)) | exact DR.of_below (below_alloc (Below.refl _ _) _) (by first | assumption | (simp; omega)))); clear hK; try simp only [Act.put, List.setIfInBounds_toArray, List.set_cons_zero, List.set_cons_succ]))); (try refine linG_end ?_))
          have hf4 : FR [] [mS] base w3 w4 := FR.trans (FR.refl _ _ _ _).drew (FR.of_map hg4 (hf.below (W' := w3.drew) rfl).isMap hD3.hS (by simp))
          have hD4 := hD3.putS hbt hu3 hm4 hf4
          rw [← hP0] at hD4
          have hall := hr3.trans (hf4.dr.less (by simp))
          clear hf hbt hm4 hg4 hD3 hrow3 R3 hf4 hu3 hP0
          go_wp2
          exact ⟨⟨j + 1, by omega, by go_num, hD4, hall⟩, by simp [intOf]; omega⟩
        · have hP0 := hP.2.2 h0
          rw [h0] at hcm
          clear hP h0
          go_wp2
          exact ⟨⟨j + 1, by omega, by go_num, by rw [hP0]; exact hD3.moreS, hr3⟩, by simp [intOf]; omega⟩
        · have hP0 := hP.2.1 h0
          rw [h0] at hcm
          clear hP h0
          have c31 := R3.cell 1 rfl
          go_upto_region 11 with (go_at_call 63; refine (c_clone _ _ _ xb w3 hru3 (by omega)).mono ?_; rintro e w4 ⟨v4, rfl, ho4, hb4⟩; obtain ⟨A4, c4, rfl, -⟩ := ho4.form)
          have hlx2 : (xb.length : Int) ≤ 60000 := by omega
          clear c31
          go_wp2
          go_loopw [50] (fun i wq => ∃ k : Nat, k ≤ xb.length ∧ i = .int .i64 (k : Int) ∧ OwnB wq w3.heap.size 5 (.slice A4 xb.length c4) (garL (xb.take k) ++ xb.drop k) ∧ Below w3.heap.size w3 wq) (fun i _ => xb.length - (intOf i).toNat)
          case atStart => exact ⟨0, Nat.zero_le _, rfl, by simpa [garL] using ho4, hb4⟩
          case round =>
            obtain ⟨k, hk0, rfl, ho5, hb5⟩ := hrel
            have hll : (garL (xb.take k) ++ xb.drop k).length = xb.length := by rw [List.length_append, garL_length, List.length_take, List.length_drop]; omega
            have hs5 := hb5.size
            clear ho4 hb4
            by_cases hkl : k < xb.length
            · obtain ⟨g4, rfl, hg4, -⟩ := ho5.at_ (by omega)
              obtain ⟨ce, fz⟩ := ho5.cell (k := k) (by omega)
              rw [garble_at xb k hkl] at ce
              have hset := ho5.set (k := k) (by omega) (xb[k] ^^^ 165)
              rw [c_garble_step xb k hkl] at hset
              have hxr := xor165 xb[k]
              generalize xb[k] ^^^ 165 = y at *
              generalize xb[k] = x0 at *
              have hx0 : 0 ≤ (x0.toNat : Int) ∧ (x0.toNat : Int) < 256 := by have := x0.toNat_lt; omega
              obtain ⟨hx0, hx1⟩ := hx0
              have hkl2 : (k : Int) < (xb.length : Int) := by omega
              clear ho5 hll
              go_wp2
              exact ⟨⟨k + 1, by omega, by go_num, hset, hb5.setCell (by omega) _⟩, by simp [intOf]; omega⟩
            · obtain rfl : k = xb.length := by omega
              rw [List.take_length, List.drop_length, List.append_nil] at ho5
              have hf5 : FR [] [] base w3 _ := FR.of_below hb5 (by have := hr3.below.size; omega)
              have hD5 := hD3.fr hf5
              have hu5 : BytesAt _ base (.slice A4 xb.length c4) (garL xb) := BytesAt.of_own ho5
              have R5 := R3.below hb5 hsg
              have hr5 := hr3.trans (hf5.dr.less (S' := dTy) (by simp))
              clear hkl hll ho5 hb5 hf5 hD3 hu3 hru3 R3 hr3
              go_upto_region 16 with (fail)
              have hrow5 := hD5.row
              obtain ⟨f, hf, hbt⟩ := hD5.st.out
              have hnS : (D.cpart ch j).cS < 10000000 := by show D.cS + j < 10000000; omega
              have HW := HWX
              (refine wp_region_linG (FR [] [] base) (wayF [] [] base) [(0, true), (1, true), (2, true), (3, true), (4, true), (5, true), (6, true), (7, false)] rfl rfl (by kernel_rfl) (by kernel_rfl) (fun _ _ _ _ _ h => h) ?_; (iterate 8 (first | (apply linG_take; (simp only [List.getElem?_toArray, List.getElem?_cons_succ, List.getElem?_cons_zero]; rfl); (rfl); (intro w' hb'; (try have k1 := FR.cell hb' hrow5 (by simp) (j := 2) rfl); (try have k2 := FR.cell hb' R5 (by simp) (j := 0) rfl); (try have k3 := FR.cell hb' R5 (by simp) (j := 1) rfl); (first | (go_simp; done) | (go_simp; with_reducible rfl) | (go_simp; go_bits; with_reducible rfl) | (go_simp; go_bits; done))); try simp only [Act.put, List.setIfInBounds_toArray, List.set_cons_zero, List.set_cons_succ]) | (apply linG_skip; (simp only [List.getElem?_toArray, List.getElem?_cons_succ, List.getElem?_cons_zero]; rfl); (rfl); try simp only [Act.put, List.setIfInBounds_toArray, List.set_cons_zero, List.set_cons_succ]) | (apply linG_pass (wayF [] [] base); (simp only [List.getElem?_toArray, List.getElem?_cons_succ, List.getElem?_cons_zero]; rfl); (rfl); try simp only [Act.put, List.setIfInBounds_toArray, List.set_cons_zero, List.set_cons_succ]) | (apply linG_last; (simp only [List.getElem?_toArray, List.getElem?_cons_succ, List.getElem?_cons_zero]; rfl); (rfl); (kernel_rfl); intro K hK; (first | (refine wp_putI rfl rfl rfl rfl (hf.below (W' := World.drew _) rfl) hnS HW.out ?_; intro w4 hm4 hg4) | (go_simp; (first | skip))); refine hK _ _ trivial ?_; clear hK; try simp only [Act.put, List.setIfInBounds_toArray, List.set_cons_zero, List.set_cons_succ]) | (apply linG_op; (simp only [List.getElem?_toArray, List.getElem?_cons_succ, List.getElem?_cons_zero]; rfl); (rfl); intro K hK; (first | (refine wp_putI rfl rfl rfl rfl (hf.below (W' := World.drew _) rfl) hnS HW.out ?_; intro w4 hm4 hg4) | (go_simp; (first | skip))); refine hK _ _ ?_ ?_; (first | exact hdr2 | assumption | (first | exact rg_alloc (by simp; omega) (by simp; omega) _ | exact FR.of_below (below_alloc (Below.refl _ _) _) (by first | assumption | (simp; omega)) | exact DR.of_below (below_alloc (Below.refl _ _) _) (by first | assumption | (simp; omega)))); clear hK; try simp only [Act.put, List.setIfInBounds_toArray, List.set_cons_zero, List.set_cons_succ]))); (try refine linG_end ?_))
              have hf4 : FR [] [mS] base wr w4 := FR.trans (FR.refl _ _ _ _).drew (FR.of_map hg4 (hf.below (W' := World.drew _) rfl).isMap hD5.hS (by simp))
              have hD4 := hD5.putS hbt hu5 hm4 hf4
              rw [← hP0] at hD4
              have hall := hr5.trans (hf4.dr.less (by simp))
              clear hf hbt hm4 hg4 hD5 hrow5 R5 hf4 hu5 hP0
              go_wp2
              exact ⟨⟨j + 1, by omega, by go_num, hD4, hall⟩, by simp [intOf]; omega⟩
      · have h0 : chs ch j = 0 := by
          unfold chs
          rw [List.getElem?_eq_none (by rw [HLC.out]; omega)]
        have hP0 := HP.out.1 h0
        have hjn' : ¬ (j : Int) < (nc : Int) := by omega
        clear h0 HP hch3
        go_upto_region 8 with (fail)
        have hrow3 := hD3.row
        obtain ⟨f, hf, hbt⟩ := hD3.st.out
        have hnS : (D.cpart ch j).cS < 10000000 := by show D.cS + j < 10000000; omega
        have HW := HWX
        (refine wp_region_linG (FR [] [] base) (wayF [] [] base) [(0, true), (1, true), (2, true), (3, true), (4, true), (5, true), (6, true), (7, true), (8, false)] rfl rfl (by kernel_rfl) (by kernel_rfl) (fun _ _ _ _ _ h => h) ?_; (iterate 9 (first | (apply linG_take; (simp only [List.getElem?_toArray, List.getElem?_cons_succ, List.getElem?_cons_zero]; rfl); (rfl); (intro w' hb'; (try have k1 := FR.cell hb' hrow3 (by simp) (j := 2) rfl); (try have k2 := FR.cell hb' R3 (by simp) (j := 0) rfl); (try have k3 := FR.cell hb' R3 (by simp) (j := 1) rfl); (first | (go_simp; done) | (go_simp; with_reducible rfl) | (go_simp; go_bits; with_reducible rfl) | (go_simp; go_bits; done))); try simp only [Act.put, List.setIfInBounds_toArray, List.set_cons_zero, List.set_cons_succ]) | (apply linG_skip; (simp only [List.getElem?_toArray, List.getElem?_cons_succ, List.getElem?_cons_zero]; rfl); (rfl); try simp only [Act.put, List.setIfInBounds_toArray, List.set_cons_zero, List.set_cons_succ]) | (apply linG_pass (wayF [] [] base); (simp only [List.getElem?_toArray, List.getElem?_cons_succ, List.getElem?_cons_zero]; rfl); (rfl); try simp only [Act.put, List.setIfInBounds_toArray, List.set_cons_zero, List.set_cons_succ]) | (apply linG_last; (simp only [List.getElem?_toArray, List.getElem?_cons_succ, List.getElem?_cons_zero]; rfl); (rfl); (kernel_rfl); intro K hK; (first | (refine wp_putI rfl rfl rfl rfl (hf.below (W' := w3.drew) rfl) hnS HW.out ?_; intro w4 hm4 hg4) | (go_simp; (first | skip))); refine hK _ _ trivial ?_; clear hK; try simp only [Act.put, List.setIfInBounds_toArray, List.set_cons_zero, List.set_cons_succ]) | (apply linG_op; (simp only [List.getElem?_toArray, List.getElem?_cons_succ, List.getElem?_cons_zero]; rfl); (rfl); intro K hK; (first | (refine wp_putI rfl rfl rfl rfl (hf.below (W' := w3.drew) rfl) hnS HW.out ?_; intro w4 hm4 hg4) | (go_simp; (first | skip))); refine hK _ _ ?_ ?_; (first | exact hdr2 | assumption | (first | exact rg_alloc (by simp; omega) (by simp; omega) _ | exact FR.of_below (below_alloc (Below.refl _ _) _) (by first | assumption | (simp; omega)) | exact DR.of_below (below_alloc (Below.refl _ _) _) (by first | assumption | (simp; omega)))); clear hK; try simp only [Act.put, List.setIfInBounds_toArray, List.set_cons_zero, List.set_cons_succ]))); (try refine linG_end ?_))
        have hf4 : FR [] [mS] base w3 w4 := FR.trans (FR.refl _ _ _ _).drew (FR.of_map hg4 (hf.below (W' := w3.drew) rfl).isMap hD3.hS (by simp))
        have hD4 := hD3.putS hbt hu3 hm4 hf4
        rw [← hP0] at hD4
        have hall := hr3.trans (hf4.dr.less (by simp))
        clear hf hbt hm4 hg4 hD3 hrow3 R3 hf4 hu3 hP0
        go_wp2
        exact ⟨⟨j + 1, by omega, by go_num, hD4, hall⟩, by simp [intOf]; omega⟩
    · obtain rfl : j = D.loose.length := by omega
      have hrow := hDj.row
      have fz := hrow.free
      have c2 := hrow.cell 2 rfl
      clear hchj
      go_upto_region 18 with (fail)
      have hmm := @run_makeMap Try.prog
      obtain ⟨f, hf, hbt⟩ := hDj.st.out
      obtain ⟨D0, ho0, hD0⟩ := hf.out
      have hrowA := hrow.alloc (.map #[] 0)
      have c3 := hrowA.cell 3 rfl
      have fz3 := hrowA.free 3
      have hmA := (MapI.new wr).below (W' := (wr.alloc (.map #[] 0)).setCell ⟨b, 3, none⟩ (.map (some wr.heap.size))) (heap_setCell_other _ _ _ _ (by have := hrow.lt; show wr.heap.size ≠ b; omega))
      have hf1 : FR [93] [] base wr ((wr.alloc (.map #[] 0)).setCell ⟨b, 3, none⟩ (.map (some wr.heap.size))) :=
        (FR.of_below (below_alloc (Below.refl _ _) _) (by omega)).trans (FR.of_upd (upd_cell hrowA _) hrowA (by decide) hDj.hb)
      have hrow1 := hrowA.set 3 (.map (some wr.heap.size))
      have hst1 := hDj.st.fr hf1 (by decide) (by simp) (Nat.le_refl _)
      have hlo1 := hDj.lo.fr hf1 (by decide) (by decide)
      have htr1 := hDj.tr.fr hf1 (by decide) (by decide)
      have hbt1 := fun i => (hbt i).keep hf1.dr (by decide)
      have ho1 : ((wr.alloc (.map #[] 0)).setCell ⟨b, 3, none⟩ (.map (some wr.heap.size))).ownsMap Try.prog 3 selfR mS (D.cpart ch D.loose.length).cS D0 := by
        obtain ⟨es, cl, q1, q2, q3, q4⟩ := ho0
        exact ⟨es, cl, (hf1.maps mS es cl q1 (by simp)).trans q1, q2, q3, q4⟩
      have hall1 := hrj.trans (hf1.dr.less (S' := dTy) (by decide))
      have hs1 := hall1.below.size
      have hmN : wr.heap.size ≠ mS := by have := hDj.st.out; obtain ⟨f', hf', _⟩ := this; have := hf'.lt; omega
      have hbN : base ≤ wr.heap.size := by omega
      have hb2 := hDj.hb
      have hbS := hDj.hS
      have hlt1 : wr.heap.size < ((wr.alloc (.map #[] 0)).setCell ⟨b, 3, none⟩ (.map (some wr.heap.size))).heap.size := by simp
      clear hDj hrow hf hbt ho0 hrj fz c2
      go_upto_region 19 with (fail)
      generalize hgM : wr.heap.size = mN2 at *
      generalize (wr.alloc (.map #[] 0)).setCell ⟨b, 3, none⟩ (.map (some mN2)) = w1 at *
      clear hrowA c3 fz3 hf1 hgM
      replace hrow1 : Row w1 b #[.int .i64 D.blocks, .int .i64 D.size, .map (some mS), .map (some mN2), .slice A D.loose.length c, .int .i64 D.after, .bool D.off, tv] 93 := hrow1
      have c21 := hrow1.cell 2 rfl
      go_wp2_with (at_range; refine wpList_range_own _ rfl _ 90 rfl 3 24 (Maps.int_keyed Try.underlying3) Try.underlying90 _ mS _ D0 rfl ho1 ?_; intro w0 hrg0 hg0 hs0)
      go_frame
      have hf0 : FR [] [mN2] base w1 w0 := FR.of_none hg0 (by omega)
      have hm0 : MapI w0 mN2 0 (fun i => if Maps.has D0 (kI i) = true then .slice none 0 0 else f i) := by
        have h0 := hmA.below (W' := w0) (hg0.block mN2 hlt1 (by simp))
        have e : (fun _ => Value.slice none 0 0 : Int → Value) = (fun i => if Maps.has D0 (kI i) = true then .slice none 0 0 else f i) := by
          funext i
          split
          · rfl
          · rename_i hh
            have := hD0 i
            rw [Maps.atKey_of_not_has (by simpa using hh)] at this
            simpa using this
        rwa [e] at h0
      have hcS : (D.cpart ch D.loose.length).cS ≤ 1800000 := by show D.cS + D.loose.length ≤ 1800000; omega
      have hne21 : w1.heap.size ≠ mN2 := by omega
      go_loopw [9] (fun _ wq => ∃ (left : Lit → Bool) (cnt n : Nat), wq.ranges Try.prog 3 selfR mS w1.heap.size (D.cpart ch D.loose.length).cS D0 left cnt ∧ n + cnt ≤ (D.cpart ch D.loose.length).cS ∧ MapI wq mN2 n (fun i => if left (kI i) = true then .slice none 0 0 else f i) ∧ FR [] [mN2] base w1 wq) (fun _ wq => wq.rangeLeft mS w1.heap.size)
      case atStart => exact ⟨_, _, 0, hrg0, by have := ranges_cnt hrg0; omega, hm0, hf0⟩
      case round =>
        obtain ⟨left, cnt, n, hrg, hnc2, hmq, hfq⟩ := hrel
        clear hrg0 hm0 hf0 hmA ho1 c21 hg0
        have hrowq := hfq.row hrow1 (by simp)
        have hsq := hfq.size
        go_wp2_with (at_next; refine wpList_next_ranges _ rfl _ rfl 3 (Maps.int_keyed Try.underlying3) selfR (Value.int .i64) (fun v => v) (fun key kl hkey => by obtain ⟨x, rfl, _⟩ := Maps.keyOf_int_inv Try.underlying3 hkey; exact ⟨x, rfl⟩) (fun v y _ => ⟨v, rfl⟩) mS w1.heap.size _ D0 left cnt rfl hrg ?_ ?_)
        · intro hc0 hl0
          have e : (fun i => if left (kI i) = true then Value.slice none 0 0 else f i) = f := by
            funext i
            rw [hl0 (kI i)]
            rfl
          rw [e] at hmq
          have c4 := hrowq.cell 4 rfl
          have c5 := hrowq.cell 5 rfl
          have c6 := hrowq.cell 6 rfl
          have fz := hrowq.free
          have hR4 := ((hrowq.set 4 (.slice none 0 0)).set 6 (.bool false)).set 5 (.int .i64 (-1))
          have hf4 : FR [93] [] base _ (((wr.setCell ⟨b, 4, none⟩ (.slice none 0 0)).setCell ⟨b, 6, none⟩ (.bool false)).setCell ⟨b, 5, none⟩ (.int .i64 (-1))) :=
            ((FR.of_upd (upd_cell hrowq (j := 4) (.slice none 0 0)) hrowq (by decide) hb2).trans (FR.of_upd (upd_cell (hrowq.set 4 (.slice none 0 0)) (j := 6) (.bool false)) (hrowq.set 4 (.slice none 0 0)) (by decide) hb2)).trans
              (FR.of_upd (upd_cell ((hrowq.set 4 (.slice none 0 0)).set 6 (.bool false)) (j := 5) (.int .i64 (-1))) ((hrowq.set 4 (.slice none 0 0)).set 6 (.bool false)) (by decide) hb2)
          have hst4 := (hst1.fr hfq (by simp) (by simp; omega) (Nat.le_refl _)).fr hf4 (by decide) (by simp) (Nat.le_refl _)
          have htr4 := (htr1.fr hfq (by simp) (by simp)).fr hf4 (by decide) (by decide)
          have hnw4 : MapB _ base mN2 (D.cpart ch D.loose.length).cS (D.cpart ch D.loose.length).stable := ⟨⟨f, (hmq.mono (n' := (D.cpart ch D.loose.length).cS) (by omega)).below (hf4.maps mN2 _ _ hmq.isMap.choose_spec.choose_spec (by simp)), fun i => ((hbt1 i).keep hfq.dr (by simp)).keep hf4.dr (by decide)⟩⟩
          have hlo4 : LooseAt (((wr.setCell ⟨b, 4, none⟩ (.slice none 0 0)).setCell ⟨b, 6, none⟩ (.bool false)).setCell ⟨b, 5, none⟩ (.int .i64 (-1))) base (.slice none 0 0) [] := ⟨[], rfl, fun k u x h => by simp at h, ⟨by simp, .inl ⟨rfl, rfl⟩⟩⟩
          have hall4 := hall1.trans ((hfq.dr.less (S' := dTy) (by simp)).trans (hf4.dr.less (S' := dTy) (by decide)))
          have hd4 : DiskAt _ base b { D with stable := crashF D ch D.loose.length, now := crashF D ch D.loose.length, cS := D.cS + D.loose.length, cN := D.cS + D.loose.length, loose := [], off := false, after := -1 } :=
            ⟨⟨mS, mN2, _, tv, hR4, hb2, hbS, hbN, Ne.symm hmN, hst4, hnw4, hlo4, htr4⟩⟩
          have hlnT := hk.ln
          clear hrg hmq hl0 hc0 hst1 htr1 hlo1 hbt1 hrow1 hfq hrowq hR4 hf4 hst4 htr4 hnw4 hlo4
          go_upto_region 24 with (fail)
          generalize hW4 : ((wr.setCell ⟨b, 4, none⟩ (.slice none 0 0)).setCell ⟨b, 6, none⟩ (.bool false)).setCell ⟨b, 5, none⟩ (.int .i64 (-1)) = w4 at *
          clear hW4 c4 c5 c6 fz
          go_wp2_with fail
          refine (c_diskNote w4 base b _ 4 0 (.slice none 0 0) (.slice none 0 0) [] [] hd4 (BytesAt.nil_ _ _) (BytesAt.nil_ _ _) (by have := hall4.below.size; omega) (Nat.le_trans hlnT (by decide))).mono ?_
          rintro e w5 ⟨rfl, hd5, hr5⟩
          go_wp2
          refine bodyPost_end (by simp [results, Try.results46]) rfl ⟨rfl, hd5, hall4.trans hr5⟩
        · intro x cv kl ya yb w2 cnt2 hkey hlk hR hat hrg2 hlt2 hg2 hs2 hen
          have hinv := Maps.keyOf_int_inv Try.underlying3 hkey
          obtain ⟨x', ex, ekl, hwx⟩ := hinv
          cases ex
          subst ekl
          have hcv : f x = cv := by
            have h1 := hat (.held (.slice none 0 0))
            unfold selfR at hR
            simp only [Option.some.injEq, Prod.mk.injEq] at hR
            rw [← hR.1] at h1
            have h2 := hD0 x
            unfold kI at h2
            rw [h2] at h1
            simpa using h1
          have hf2 : FR [] [mN2] base _ w2 := FR.of_iter hg2 (ranges_iter hrg) (by omega)
          have hrow2 := hf2.row hrowq (by simp)
          have hm2 := hmq.below (W' := w2) (hg2.block mN2 hmq.lt (by simp; omega))
          have c23 := hrow2.cell 3 rfl
          have hnn : n < 10000000 := by omega
          go_wp2_with (at_mapUpdate; refine wpl_putI (u := cv) rfl rfl rfl rfl rfl hm2 hnn hwx ?_; intro w3 hm3 hg3)
          have hrg3 := hrg2.kept hg3 (by simp; omega) (by simp; omega)
          have hf3 : FR [] [mN2] base w2 w3 := FR.of_map hg3 hm2.isMap hbN (by simp)
          have hm3' : MapI w3 mN2 (n + 1) (fun i => if (left (kI i) && !(kI i).sameKey (.int .i64 x)) = true then .slice none 0 0 else f i) := by
            have e : updI (fun i => if left (kI i) = true then Value.slice none 0 0 else f i) x cv = (fun i => if (left (kI i) && !(kI i).sameKey (.int .i64 x)) = true then .slice none 0 0 else f i) := by
              funext i
              unfold updI
              have hsk : (kI i).sameKey (.int .i64 x) = decide (i = x) := same_int i x
              rw [hsk]
              by_cases hix : i = x
              · subst hix
                simp [hcv]
              · simp [hix]
            rwa [e] at hm3
          have hfall := hfq.trans (hf2.trans hf3)
          clear hm3 hg3 hm2 hf2 hf3 hrow2 hrowq hmq hfq c23 hen hg2 hkey hlk hR hat
          go_roundw
          case rel => exact ⟨_, _, _, _, _, _, _, _, _, _, _, _, _, ⟨_, _, n + 1, hrg3, by omega, hm3', hfall⟩, rfl⟩
          case measure => rw [hrg3.left_eq, hrg.left_eq]; omega
end Go.Proofs.Ytmdmhjcdaejlkaa

/- disk.Try. -/
set_option linter.unusedVariables false
set_option linter.unusedSimpArgs false
namespace Go.Proofs.Ytmdmhjcdaejlkaa
open Go.RowKit

theorem try_idle (p : Addr) (w : World) :
    CallsD Try.prog 76 #[.pointer (some p)] .returning w fun e u' w' => e = .returned (.tuple #[]) ∧ u' = .returning ∧ w' = w := by
  refine callsD_of_wpS Try.func76 rfl fun c₀ cs hu => ?_
  apply wpS_seq
  apply wpS_region
  simp [wpOpsS, go_sem, recoverD, hu, Try.ntmps76, Exit.thenS]
  refine wpS_of_wp ?_
  change Code.wp _ _ _ { tmps := #[.pointer (some p), .nilIface, undef, undef, .nilIface, undef, undef, undef, undef, undef, undef, undef, undef, undef, undef], defers := [] } w
  go_wp2
  cases c₀
  simp_all [bodyPostS, results, Try.results76]
set_option maxRecDepth 100000 in
theorem try_gone (p : Addr) (older : List PanicEntry) (x : Value) (w : World) (hc : w.cell? p = some x) (hz : w.frozen? p = false) (hlt : p.block < w.heap.size) :
    CallsD Try.prog 76 #[.pointer (some p)] (.panicking ({ v := goneV, recovered := false } :: older)) w fun e u' w' =>
      e = .returned (.tuple #[]) ∧ u' = .panicking ({ v := goneV, recovered := true } :: older) ∧ w' = (w.alloc (.cells #[] 112)).setCell p (.bool false) := by
  have hta : ∀ w, (Instr.typeAssert (.iface 112 (.agg #[])) 20 112 true).run Try.prog w = .ok (.tuple #[.agg #[], .bool true]) w := fun _ => by kernel_rfl
  have hst : ∀ (w : World) (a : Addr), (storeVar 112 a (.agg #[])).run Try.prog w = .ok () w := fun _ _ => by kernel_rfl
  have hz2 := ((below_alloc (Below.refl w.heap.size w) (.cells #[] 112)).frozen (p := p) hlt).trans hz
  have hc2 := ((below_alloc (Below.refl w.heap.size w) (.cells #[] 112)).cell (p := p) hlt).trans hc
  refine callsD_of_wpS Try.func76 rfl fun c₀ cs hu => ?_
  unfold goneV at *
  apply wpS_seq
  apply wpS_region
  simp [wpOpsS, go_sem, recoverD, hu, Try.ntmps76, Exit.thenS]
  refine wpS_of_wp ?_
  change Code.wp _ _ _ { tmps := #[.pointer (some p), .iface 112 (.agg #[]), undef, undef, .iface 112 (.agg #[]), undef, undef, undef, undef, undef, undef, undef, undef, undef, undef], defers := [] } w
  go_wp2
  simp [bodyPostS, results, Try.results76]
set_option maxRecDepth 100000 in
theorem c_tryOk {K : FuncId} {caps : Array Value} (W : World) (R : World → Prop) (hcf : ∀ w, (callFunc K caps).run Try.prog w = .ok (.enter K caps) w)
    (h : Calls Try.prog K caps (W.alloc (.cells #[.bool false] 4)) fun e w' => e = .returned (.tuple #[]) ∧ Row w' W.heap.size #[.bool false] 4 ∧ R w') :
    Calls Try.prog 44 #[.func (Fn.func K) #[] caps] W fun e w' => e = .returned (.bool true) ∧ ∃ w1, R w1 ∧ Row w1 W.heap.size #[.bool false] 4 ∧ w' = w1.setCell ⟨W.heap.size, 0, none⟩ (.bool true) := by
  have hmf : ∀ (fn : Fn) (first cap : Array Value) (w : World), (Instr.makeFunc fn first cap).run Try.prog w = .ok (.func fn first cap) w := fun _ _ _ _ => rfl
  go_enter_defers Try.func44, Try.ntmps44
  go_wp2_with fail
  refine h.mono ?_
  rintro e w1 ⟨rfl, hr, hR⟩
  have c0 := hr.cell 0 rfl
  have fz := hr.free 0
  go_wp2
  refine leaves_cons (f := 76) (args := #[.pointer (some ⟨W.heap.size, 0, none⟩)]) (by simp) (by simp [go_sem]) ?_
  refine (try_idle ⟨W.heap.size, 0, none⟩ _).mono ?_
  rintro e u' w'' ⟨rfl, rfl, rfl⟩
  have hr2 := hr.set 0 (.bool true)
  have c02 := hr2.cell 0 rfl
  simp [Leaves, settle, results, Try.results44, go_sem, c02]
  exact ⟨w1, hR, hr, rfl⟩
set_option maxRecDepth 100000 in
theorem c_tryGone {K : FuncId} {caps : Array Value} (W : World) (R : World → Prop) (hcf : ∀ w, (callFunc K caps).run Try.prog w = .ok (.enter K caps) w)
    (h : Calls Try.prog K caps (W.alloc (.cells #[.bool false] 4)) fun e w' => e = gonePanic ∧ Row w' W.heap.size #[.bool false] 4 ∧ R w') :
    Calls Try.prog 44 #[.func (Fn.func K) #[] caps] W fun e w' => e = .returned (.bool false) ∧ ∃ w1, R w1 ∧ Row w1 W.heap.size #[.bool false] 4 ∧ w' = (w1.alloc (.cells #[] 112)).setCell ⟨W.heap.size, 0, none⟩ (.bool false) := by
  have hmf : ∀ (fn : Fn) (first cap : Array Value) (w : World), (Instr.makeFunc fn first cap).run Try.prog w = .ok (.func fn first cap) w := fun _ _ _ _ => rfl
  go_enter_defers Try.func44, Try.ntmps44
  go_wp2_with fail
  refine h.mono ?_
  rintro e w1 ⟨rfl, hr, hR⟩
  have c0 := hr.cell 0 rfl
  have fz := hr.free 0
  unfold gonePanic
  go_wp2
  refine leaves_cons (f := 76) (args := #[.pointer (some ⟨W.heap.size, 0, none⟩)]) (by simp) (by simp [go_sem]) ?_
  refine (try_gone ⟨W.heap.size, 0, none⟩ _ _ _ c0 fz hr.lt).mono ?_
  rintro e u' w'' ⟨rfl, rfl, rfl⟩
  have hr2 := (hr.alloc (.cells #[] 112)).set 0 (.bool false)
  have c02 := hr2.cell 0 rfl
  simp [Leaves, settle, results, Try.results44, go_sem, c02]
  exact ⟨w1, hR, hr, rfl⟩
end Go.Proofs.Ytmdmhjcdaejlkaa

/- The device as a walk carries it: bounds that grow by one with each step, contracts on the bundle, Try over a closure that works on it. -/
set_option linter.unusedVariables false
set_option linter.unusedSimpArgs false
namespace Go.Proofs.Ytmdmhjcdaejlkaa
open Go.RowKit

theorem Row.dr {S : List TypeId} {base g : Nat} {c : Array Value} {T : TypeId} {W W' : World} (h : Row W g c T) (hd : DR S base W W') (hT : T ∉ S) : Row W' g c T := hd.typ _ _ _ _ h hT
/-- a device after at most n steps -/
structure DkB (D : Dk) (n : Nat) : Prop where
  lo : 0 ≤ D.size
  hi : D.size ≤ 60000
  bl : 0 ≤ D.blocks
  bh : D.blocks ≤ 100000
  ln : D.trace.length ≤ n
  cl : D.cS + D.loose.length ≤ n
  cn : D.cN ≤ n
  af : D.after ≤ 9223372036854775807
  lw : ∀ x ∈ D.loose, (Lit.int .i64 x.1).wf = true ∧ x.2.length ≤ 60000
  tb : ∀ e ∈ D.trace, e.body.length ≤ 60000
theorem DkB.ok {D : Dk} {n : Nat} (h : DkB D n) (hn : n ≤ 900000) : DkOk D :=
  ⟨h.lo, h.hi, h.bl, h.bh, Nat.le_trans h.ln hn, by have := h.cl; omega, by have := h.cl; omega, by have := h.cn; omega, h.af⟩
theorem DkB.mono {D : Dk} {n m : Nat} (h : DkB D n) (hn : n ≤ m) : DkB D m :=
  ⟨h.lo, h.hi, h.bl, h.bh, Nat.le_trans h.ln hn, by have := h.cl; omega, by have := h.cn; omega, h.af, h.lw, h.tb⟩
theorem step_af {D : Dk} (h : D.after ≤ 9223372036854775807) : D.step.after ≤ 9223372036854775807 := by
  show (if 0 < D.after then D.after - 1 else D.after) ≤ _
  split <;> omega
theorem DkB.stepped {D : Dk} {n : Nat} (h : DkB D n) : DkB D.step n :=
  ⟨h.lo, h.hi, h.bl, h.bh, h.ln, h.cl, h.cn, step_af h.af, h.lw, h.tb⟩
theorem DkB.noted {D : Dk} {n : Nat} (h : DkB D n) (e : Ev) (he : e.body.length ≤ 60000) : DkB (D.noted e) (n + 1) :=
  ⟨h.lo, h.hi, h.bl, h.bh, by have := h.ln; show (D.trace ++ [e]).length ≤ _; simp; omega, by have := h.cl; show D.cS + D.loose.length ≤ _; omega, by have := h.cn; show D.cN ≤ _; omega, h.af, h.lw, fun x hx => by
    have hx' : x ∈ D.trace ++ [e] := hx
    rcases List.mem_append.1 hx' with h' | h'
    · exact h.tb x h'
    · rw [List.mem_singleton.1 h']; exact he⟩
theorem DkB.new (bl sz : Int) : DkB (dkNew bl sz) 0 := by
  refine ⟨?_, ?_, ?_, ?_, Nat.zero_le _, Nat.zero_le _, Nat.zero_le _, (by show (-1 : Int) ≤ _; decide), (fun x h => by cases h), (fun x h => by cases h)⟩
  all_goals simp only [dkNew]; omega
theorem fit_le {D : Dk} (h : D.size ≤ 60000) (xs : List UInt8) : (fitL D.size xs).length ≤ 60000 := by rw [fitL_length]; omega
theorem DkB.write {D : Dk} {n : Nat} (h : DkB D n) (at_ : Int) (xs : List UInt8) (hat : (Lit.int .i64 at_).wf = true) : DkB (D.write at_ xs) (n + 1) := by
  have h1 := h.stepped.noted ⟨2, at_, headL (fitL D.size xs), fitL D.size xs⟩ (fit_le h.hi xs)
  unfold Dk.write
  split
  · refine ⟨h.lo, h.hi, h.bl, h.bh, h1.ln, ?_, ?_, h1.af, fun x hx => ?_, h1.tb⟩
    · have := h.cl; show D.cS + (D.loose ++ [_]).length ≤ _; simp; omega
    · have := h.cn; show D.cN + 1 ≤ _; omega
    · have hx' : x ∈ D.loose ++ [(at_, fitL D.size xs)] := hx
      rcases List.mem_append.1 hx' with h' | h'
      · exact h.lw x h'
      · rw [List.mem_singleton.1 h']; exact ⟨hat, fit_le h.hi xs⟩
  · exact h1
theorem DkB.read {D : Dk} {n : Nat} (h : DkB D n) (at_ : Int) : DkB (D.read at_) (n + 1) := h.stepped.noted _ (Nat.zero_le _)
theorem DkB.flush {D : Dk} {n : Nat} (h : DkB D n) : DkB D.flush (n + 1) := by
  have h1 := h.stepped.noted ⟨3, 0, headL [], []⟩ (Nat.zero_le _)
  refine ⟨h.lo, h.hi, h.bl, h.bh, h1.ln, ?_, h1.cn, h1.af, (fun x hx => by cases hx), h1.tb⟩
  have := h.cl
  show D.cS + D.loose.length + 0 ≤ _
  omega
theorem DkB.crash {D : Dk} {n : Nat} (h : DkB D n) (ch : List Int) : DkB (D.crash ch) (n + 1) := by
  have h1 := h.noted ⟨4, 0, headL [], []⟩ (Nat.zero_le _)
  refine ⟨h.lo, h.hi, h.bl, h.bh, h1.ln, ?_, ?_, by show (-1 : Int) ≤ _; decide, (fun x hx => by cases hx), h1.tb⟩
  · have := h.cl; show D.cS + D.loose.length + 0 ≤ _; omega
  · have := h.cl; show D.cS + D.loose.length ≤ _; omega
theorem DkB.cut {D : Dk} {n : Nat} (h : DkB D n) (k : Int) (hk : k ≤ 9223372036854775807) : DkB (D.cut k) n :=
  ⟨h.lo, h.hi, h.bl, h.bh, h.ln, h.cl, h.cn, by show max k (-1) ≤ _; omega, h.lw, h.tb⟩
theorem DkB.dead {D : Dk} {n : Nat} (h : DkB D n) : DkB D.dead n := ⟨h.lo, h.hi, h.bl, h.bh, h.ln, h.cl, h.cn, h.af, h.lw, h.tb⟩

/-- the device, from block 'base' on, with its bounds -/
structure In (W : World) (base b : Nat) (D : Dk) (n : Nat) : Prop where
  dk : DiskAt W base b D
  le : base ≤ W.heap.size
  bd : DkB D n
theorem In.fr {W W' : World} {base b n : Nat} {D : Dk} (h : In W base b D n) (hf : FR [] [] base W W') : In W' base b D n := ⟨h.dk.dr hf, Nat.le_trans h.le hf.size, h.bd⟩
theorem In.below {W W' : World} {base b n : Nat} {D : Dk} (h : In W base b D n) (hb : Below W.heap.size W W') : In W' base b D n := h.fr (FR.of_below hb h.le)
theorem In.alloc {W : World} {base b n : Nat} {D : Dk} (h : In W base b D n) (o : Obj) : In (W.alloc o) base b D n := h.below (below_alloc (Below.refl _ _) o)
/-- a block of a type that the device does not use, turned -/
theorem In.set {W : World} {base b n g j : Nat} {D : Dk} {c : Array Value} {T : TypeId} (h : In W base b D n) (hr : Row W g c T) (v : Value) (hT : T ∉ 5 :: dTy) (hg : base ≤ g) : In (W.setCell ⟨g, j, none⟩ v) base b D n := by
  have hf : FR [T] [] base W (W.setCell ⟨g, j, none⟩ v) := FR.of_upd (upd_cell hr v) hr (by simp) hg
  have hT' : 5 ∉ [T] ∧ 93 ∉ [T] ∧ 101 ∉ [T] ∧ 45 ∉ [T] := by
    simp only [dTy, List.mem_cons, List.not_mem_nil, or_false, not_or] at hT ⊢
    exact ⟨fun e => hT.1 e.symm, fun e => hT.2.1 e.symm, fun e => hT.2.2.1 e.symm, fun e => hT.2.2.2 e.symm⟩
  obtain ⟨mS, mN, lv, tv, hrow, hbb, hbS, hbN, hne, h1, h2, h3, h4⟩ := h.dk.out
  exact ⟨⟨⟨mS, mN, lv, tv, hf.row hrow hT'.2.1, hbb, hbS, hbN, hne, h1.fr hf hT'.1 (by simp) (Nat.le_refl _), h2.fr hf hT'.1 (by simp) (Nat.le_refl _), h3.fr hf hT'.1 hT'.2.2.1, h4.fr hf hT'.1 hT'.2.2.2⟩⟩, Nat.le_trans h.le hf.size, h.bd⟩

theorem In.after {W W' : World} {base b n n' : Nat} {D D' : Dk} (h : In W base b D n) (hd : DiskAt W' base b D') (hr : DR dTy base W W') (hb : DkB D' n') : In W' base b D' n' :=
  ⟨hd, Nat.le_trans h.le hr.below.size, hb⟩
theorem i_new (bl sz : Int) (w : World) (h1 : (Lit.int .i64 bl).wf = true) (h2 : (Lit.int .i64 sz).wf = true) :
    Calls Try.prog 17 #[.int .i64 bl, .int .i64 sz] w fun e w' => ∃ b, e = .returned (.pointer (some ⟨b, 0, none⟩)) ∧ In w' w.heap.size b (dkNew bl sz) 0 ∧ Below w.heap.size w w' := by
  have wf : ∀ x : Int, (Lit.int .i64 x).wf = true → -9223372036854775808 ≤ x ∧ x ≤ 9223372036854775807 := fun x hx => by
    have h : (IntKind.i64.min ≤ x ∧ x ≤ 9223372036854775807) := by simpa [Lit.wf] using hx
    exact h
  refine (c_diskNew bl sz w (wf _ h1) (wf _ h2)).mono ?_
  rintro e w' ⟨b, rfl, hd, hb⟩
  exact ⟨b, rfl, ⟨hd, hb.size, DkB.new bl sz⟩, hb⟩
variable {W : World} {base b n : Nat} {D : Dk}
theorem i_write (h : In W base b D n) (hn : n ≤ 900000) (hg : D.goes = false) (at_ : Int) (v : Value) (xs : List UInt8) (hat : (Lit.int .i64 at_).wf = true) (hv : BytesAt W base v xs) :
    Calls Try.prog 21 #[.pointer (some ⟨b, 0, none⟩), .int .i64 at_, v] W fun e w' => e = .returned (.tuple #[]) ∧ In w' base b (D.write at_ xs) (n + 1) ∧ DR dTy base W w' := by
  refine (c_writeYes W base b D at_ v xs h.dk hg (h.bd.ok hn) h.le hat hv).mono ?_
  rintro e w' ⟨rfl, hd, hr⟩
  exact ⟨rfl, h.after hd hr (h.bd.write at_ xs hat), hr⟩
theorem i_writeNo (h : In W base b D n) (hg : D.goes = true) (at_ : Int) (v : Value) :
    Calls Try.prog 21 #[.pointer (some ⟨b, 0, none⟩), .int .i64 at_, v] W fun e w' => e = gonePanic ∧ In w' base b D.dead n ∧ DR dTy base W w' := by
  refine (c_writeNo W base b D at_ v h.dk hg).mono ?_
  rintro e w' ⟨rfl, hd, hr⟩
  exact ⟨rfl, h.after hd hr h.bd.dead, hr⟩
theorem i_read (h : In W base b D n) (hn : n ≤ 900000) (hg : D.goes = false) (at_ : Int) (hat : (Lit.int .i64 at_).wf = true) :
    Calls Try.prog 57 #[.pointer (some ⟨b, 0, none⟩), .int .i64 at_] W fun e w' => ∃ v, e = .returned v ∧ OwnB w' W.heap.size 5 v (D.at_ D.now at_) ∧ In w' base b (D.read at_) (n + 1) ∧ DR dTy base W w' := by
  refine (c_readYes W base b D at_ h.dk hg (h.bd.ok hn) h.le hat).mono ?_
  rintro e w' ⟨v, rfl, ho, hd, hr⟩
  exact ⟨v, rfl, ho, h.after hd hr (h.bd.read at_), hr⟩
theorem i_readNo (h : In W base b D n) (hg : D.goes = true) (at_ : Int) :
    Calls Try.prog 57 #[.pointer (some ⟨b, 0, none⟩), .int .i64 at_] W fun e w' => e = gonePanic ∧ In w' base b D.dead n ∧ DR dTy base W w' := by
  refine (c_readNo W base b D at_ h.dk hg).mono ?_
  rintro e w' ⟨rfl, hd, hr⟩
  exact ⟨rfl, h.after hd hr h.bd.dead, hr⟩
theorem i_flush (h : In W base b D n) (hn : n ≤ 900000) (hg : D.goes = false) :
    Calls Try.prog 22 #[.pointer (some ⟨b, 0, none⟩)] W fun e w' => e = .returned (.tuple #[]) ∧ In w' base b D.flush (n + 1) ∧ DR dTy base W w' := by
  refine (c_flushYes W base b D h.dk hg (h.bd.ok hn) h.le (fun x hx => (h.bd.lw x hx).1)).mono ?_
  rintro e w' ⟨rfl, hd, hr⟩
  exact ⟨rfl, h.after hd hr h.bd.flush, hr⟩
theorem i_flushNo (h : In W base b D n) (hg : D.goes = true) :
    Calls Try.prog 22 #[.pointer (some ⟨b, 0, none⟩)] W fun e w' => e = gonePanic ∧ In w' base b D.dead n ∧ DR dTy base W w' := by
  refine (c_flushNo W base b D h.dk hg).mono ?_
  rintro e w' ⟨rfl, hd, hr⟩
  exact ⟨rfl, h.after hd hr h.bd.dead, hr⟩
theorem i_cut (h : In W base b D n) (k : Int) (hk : k ≤ 9223372036854775807) :
    Calls Try.prog 43 #[.pointer (some ⟨b, 0, none⟩), .int .i64 k] W fun e w' => e = .returned (.tuple #[]) ∧ In w' base b (D.cut k) n ∧ DR dTy base W w' := by
  refine (c_cut W base b D k h.dk).mono ?_
  rintro e w' ⟨rfl, hd, hr⟩
  exact ⟨rfl, h.after hd hr (h.bd.cut k hk), hr⟩
theorem i_crash (h : In W base b D n) (hn : n ≤ 900000) (Ac : Option Addr) (nc cc : Nat) (ch : List Int) (hch : Rd W Ac nc (iv ch)) (hci : ∀ c ∈ ch, -9223372036854775808 ≤ c ∧ c ≤ 9223372036854775807) (hnc : 0 ≤ nc) (hcb : ∀ ad, Ac = some ad → 0 < nc → ad.block < base ∨ ∃ cs fr, W.heap[ad.block]? = some (.cells cs 3 fr)) :
    Calls Try.prog 46 #[.pointer (some ⟨b, 0, none⟩), .slice Ac nc cc] W fun e w' => e = .returned (.tuple #[]) ∧ In w' base b (D.crash ch) (n + 1) ∧ DR dTy base W w' := by
  refine (c_crash W base b D Ac nc cc ch h.dk (h.bd.ok hn) h.le h.bd.lw hch hci hnc hcb).mono ?_
  rintro e w' ⟨rfl, hd, hr⟩
  exact ⟨rfl, h.after hd hr (h.bd.crash ch), hr⟩
theorem i_stable (h : In W base b D n) (hn : n ≤ 900000) (at_ : Int) (hat : (Lit.int .i64 at_).wf = true) :
    Calls Try.prog 24 #[.pointer (some ⟨b, 0, none⟩), .int .i64 at_] W fun e w' => ∃ v, e = .returned v ∧ OwnB w' W.heap.size 5 v (D.at_ D.stable at_) ∧ In w' base b D n ∧ Below W.heap.size W w' := by
  refine (c_stable W base b D at_ h.dk (h.bd.ok hn) hat).mono ?_
  rintro e w' ⟨v, rfl, ho, hb⟩
  exact ⟨v, rfl, ho, h.below hb, hb⟩
theorem i_trace (h : In W base b D n) (hn : n ≤ 900000) :
    Calls Try.prog 26 #[.pointer (some ⟨b, 0, none⟩)] W fun e w' => ∃ v, e = .returned v ∧ TraceAt w' W.heap.size v D.trace ∧ In w' base b D n ∧ Below W.heap.size W w' := by
  refine (c_trace W base b D h.dk (h.bd.ok hn) h.bd.tb).mono ?_
  rintro e w' ⟨v, rfl, ho, hb⟩
  exact ⟨v, rfl, ho, h.below hb, hb⟩
/-- Try over a closure that ends -/
theorem i_tryOk {K : FuncId} {caps : Array Value} {n' : Nat} {D' : Dk} (hcf : ∀ w, (callFunc K caps).run Try.prog w = .ok (.enter K caps) w) (h : In W base b D n)
    (hc : ∀ W0, Below W.heap.size W W0 → In W0 base b D n → Calls Try.prog K caps W0 fun e w' => e = .returned (.tuple #[]) ∧ In w' base b D' n' ∧ DR dTy base W0 w') :
    Calls Try.prog 44 #[.func (Fn.func K) #[] caps] W fun e w' => e = .returned (.bool true) ∧ In w' base b D' n' ∧ DR dTy base W w' := by
  have hb0 := below_alloc (Below.refl W.heap.size W) (.cells #[.bool false] 4)
  have hr0 : Row (W.alloc (.cells #[.bool false] 4)) W.heap.size #[.bool false] 4 := Row.new _ _ _
  refine (c_tryOk W (fun w => In w base b D' n' ∧ DR dTy base (W.alloc (.cells #[.bool false] 4)) w) hcf ((hc _ hb0 (h.below hb0)).mono ?_)).mono ?_
  · rintro e w' ⟨rfl, hi, hd⟩
    exact ⟨rfl, Row.dr hr0 hd (by decide), hi, hd⟩
  · rintro e w' ⟨rfl, w1, ⟨hi, hd⟩, hr, rfl⟩
    refine ⟨rfl, hi.set hr _ (by decide) h.le, ?_⟩
    have hq := (DR.of_below (S := dTy) hb0 h.le).trans hd
    refine ⟨hq.below.trans ((upd_cell hr _).below h.le), fun k x U fr hk hU => ?_⟩
    rw [heap_setCell_other _ _ _ _ (by have := (Array.getElem?_eq_some_iff.1 hk).1; show k ≠ W.heap.size; omega)]
    exact hq.typ k x U fr hk hU
/-- Try over a closure that stops where the power is gone -/
theorem i_tryGone {K : FuncId} {caps : Array Value} {n' : Nat} {D' : Dk} (hcf : ∀ w, (callFunc K caps).run Try.prog w = .ok (.enter K caps) w) (h : In W base b D n)
    (hc : ∀ W0, Below W.heap.size W W0 → In W0 base b D n → Calls Try.prog K caps W0 fun e w' => e = gonePanic ∧ In w' base b D' n' ∧ DR dTy base W0 w') :
    Calls Try.prog 44 #[.func (Fn.func K) #[] caps] W fun e w' => e = .returned (.bool false) ∧ In w' base b D' n' ∧ DR dTy base W w' := by
  have hb0 := below_alloc (Below.refl W.heap.size W) (.cells #[.bool false] 4)
  have hr0 : Row (W.alloc (.cells #[.bool false] 4)) W.heap.size #[.bool false] 4 := Row.new _ _ _
  refine (c_tryGone W (fun w => In w base b D' n' ∧ DR dTy base (W.alloc (.cells #[.bool false] 4)) w) hcf ((hc _ hb0 (h.below hb0)).mono ?_)).mono ?_
  · rintro e w' ⟨rfl, hi, hd⟩
    exact ⟨rfl, Row.dr hr0 hd (by decide), hi, hd⟩
  · rintro e w' ⟨rfl, w1, ⟨hi, hd⟩, hr, rfl⟩
    refine ⟨rfl, (hi.alloc _).set (hr.alloc _) _ (by decide) h.le, ?_⟩
    have hq := ((DR.of_below (S := dTy) hb0 h.le).trans hd).alloc hi.le (.cells #[] 112)
    refine ⟨hq.below.trans ((upd_cell (hr.alloc _) _).below h.le), fun k x U fr hk hU => ?_⟩
    rw [heap_setCell_other _ _ _ _ (by have := (Array.getElem?_eq_some_iff.1 hk).1; show k ≠ W.heap.size; omega)]
    exact hq.typ k x U fr hk hU
end Go.Proofs.Ytmdmhjcdaejlkaa
