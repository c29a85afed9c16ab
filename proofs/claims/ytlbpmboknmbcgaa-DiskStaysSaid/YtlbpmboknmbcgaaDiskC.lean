/- Contracts of the device: count. -/
import Derived.Test.YtlbpmboknmbcgaaDiskN
import Derived.Deep.Cut
set_option linter.unusedVariables false
set_option linter.unusedSimpArgs false
namespace Go.Proofs.Ytlbpmboknmbcgaa
open Go.RowKit

/-- a map's block is none of cells -/
theorem MapI.ne {W : World} {m n b : Nat} {f : Int → Value} {c : Array Value} {T : TypeId} (h : MapI W m n f) (hr : Row W b c T) : m ≠ b := by
  rintro rfl
  obtain ⟨D, ⟨es, cl, hb, _⟩, _⟩ := h.out
  have := hb.symm.trans hr
  cases this
theorem MapB.ne {W : World} {base m n b : Nat} {f : Int → List UInt8} {c : Array Value} {T : TypeId} (h : MapB W base m n f) (hr : Row W b c T) : m ≠ b := by
  obtain ⟨g, hg, _⟩ := h.out
  exact hg.ne hr
theorem own_keep {W W' : World} {base n : Nat} {e T : TypeId} {size b : Nat} {v : Value} {xs : List Value} {c old : Array Value} (h : W.ownsRow base e size v n xs) (hu : Upd b c T W W') (hr : Row W b old T) (he : e ≠ T) : W'.ownsRow base e size v n xs := by
  refine ⟨h.1, ?_⟩
  rcases h.2 with h | ⟨g, cap, cur, hv, hg, hh, r⟩
  · exact .inl h
  · refine .inr ⟨g, cap, cur, hv, hg, ?_, r⟩
    rw [hu.rest g (fun e' => ?_)]
    · exact hh
    · subst e'
      have := hh.symm.trans hr
      simp at this
      exact he this.2
/-- the struct's row turned: the rest stays -/
theorem disk_turn {W W' : World} {base b : Nat} {D : Dk} {mS mN : Nat} {lv tv : Value} {old c : Array Value} (hr : Row W b old 82) (hu : Upd b c 82 W W') (hb : base ≤ b)
    (h1 : MapB W base mS D.cS D.stable) (h2 : MapB W base mN D.cN D.now) (h3 : LooseAt W base lv D.loose) (h4 : TraceAt W base tv D.trace) :
    DR dTy base W W' ∧ MapB W' base mS D.cS D.stable ∧ MapB W' base mN D.cN D.now ∧ LooseAt W' base lv D.loose ∧ TraceAt W' base tv D.trace := by
  have hd : DR dTy base W W' := DR.of_upd hu hr (by decide) hb
  refine ⟨hd, h1.keep hd (hu.rest _ (h1.ne hr)), h2.keep hd (hu.rest _ (h2.ne hr)), ?_, ?_⟩
  · obtain ⟨vs, a1, a2, a3⟩ := h3
    exact ⟨vs, a1, fun k u x e1 e2 => (a2 k u x e1 e2).keep hd (by decide), own_keep a3 hu hr (by decide)⟩
  · obtain ⟨vs, a1, a2, a3⟩ := h4
    exact ⟨vs, a1, fun k u x e1 e2 => ⟨(a2 k u x e1 e2).1.keep hd (by decide), (a2 k u x e1 e2).2⟩, own_keep a3 hu hr (by decide)⟩
def goneV : Value := .iface 88 (.agg #[])
def gonePanic : Ending := .panicked [{ v := goneV, recovered := false }]
/-- does the power fail at the next step? -/
def Dk.goes (D : Dk) : Bool := D.off || (D.after == 0)
/-- what a step that is done leaves of the count -/
def Dk.step (D : Dk) : Dk := { D with off := false, after := if 0 < D.after then D.after - 1 else D.after }
def Dk.dead (D : Dk) : Dk := { D with off := true }
set_option maxHeartbeats 1000000 in
theorem c_countNo (W : World) (base b : Nat) (D : Dk) (h : DiskAt W base b D) (hg : D.goes = true) :
    Calls Try.prog 63 #[.pointer (some ⟨b, 0, none⟩)] W fun e w' => e = gonePanic ∧ DiskAt w' base b D.dead ∧ DR dTy base W w' := by
  obtain ⟨mS, mN, lv, tv, hrow, hb, hS, hN, hne, h1, h2, h3, h4⟩ := h.out
  have hr6 := hrow.set 6 (.bool true)
  have ht := disk_turn hrow (upd_cell (j := 6) hrow (.bool true)) hb h1 h2 h3 h4
  have fin : DiskAt (W.setCell ⟨b, 6, none⟩ (.bool true)) base b D.dead ∧ DR dTy base W (W.setCell ⟨b, 6, none⟩ (.bool true)) :=
    ⟨⟨mS, mN, lv, tv, hr6, hb, hS, hN, hne, ht.2.1, ht.2.2.1, ht.2.2.2.1, ht.2.2.2.2⟩, ht.1⟩
  have c5 := hrow.cell 5 rfl
  have c6 := hrow.cell 6 rfl
  have fz := hrow.free
  clear hrow hr6 ht h1 h2 h3 h4 h
  unfold Dk.goes at hg
  generalize D.dead = D' at fin
  obtain ⟨_, _, _, _, _, _, _, af, off, _⟩ := D
  simp only at c5 c6 hg
  cases off with
  | true =>
    clear hg
    go_enter Try.func63, Try.ntmps63
    go_wp2
    exact ⟨rfl, rfl, fin⟩
  | false =>
    obtain rfl : af = 0 := by simpa using hg
    clear hg
    go_enter Try.func63, Try.ntmps63
    go_wp2
    exact ⟨rfl, rfl, fin⟩
set_option maxHeartbeats 1000000 in
theorem c_countYes (W : World) (base b : Nat) (D : Dk) (h : DiskAt W base b D) (hg : D.goes = false) (haf : D.after ≤ 9223372036854775807) :
    Calls Try.prog 63 #[.pointer (some ⟨b, 0, none⟩)] W fun e w' => e = .returned (.tuple #[]) ∧ DiskAt w' base b D.step ∧ DR dTy base W w' := by
  obtain ⟨mS, mN, lv, tv, hrow, hb, hS, hN, hne, h1, h2, h3, h4⟩ := h.out
  have hr6 := hrow.set 6 (.bool false)
  have ht := disk_turn hrow (upd_cell (j := 6) hrow (.bool false)) hb h1 h2 h3 h4
  have ht2 := fun v => disk_turn (c := _) hr6 (upd_cell (j := 5) hr6 (.int .i64 v)) hb ht.2.1 ht.2.2.1 ht.2.2.2.1 ht.2.2.2.2
  have fin0 : ¬ 0 < D.after → DiskAt (W.setCell ⟨b, 6, none⟩ (.bool false)) base b D.step ∧ DR dTy base W (W.setCell ⟨b, 6, none⟩ (.bool false)) := fun hq =>
    ⟨⟨mS, mN, lv, tv, (by unfold Dk.step; rw [if_neg hq]; exact hr6), hb, hS, hN, hne, ht.2.1, ht.2.2.1, ht.2.2.2.1, ht.2.2.2.2⟩, ht.1⟩
  have fin1 : 0 < D.after → DiskAt ((W.setCell ⟨b, 6, none⟩ (.bool false)).setCell ⟨b, 5, none⟩ (.int .i64 (D.after - 1))) base b D.step ∧ DR dTy base W ((W.setCell ⟨b, 6, none⟩ (.bool false)).setCell ⟨b, 5, none⟩ (.int .i64 (D.after - 1))) := fun hq =>
    ⟨⟨mS, mN, lv, tv, (by unfold Dk.step; rw [if_pos hq]; exact hr6.set 5 _), hb, hS, hN, hne, (ht2 _).2.1, (ht2 _).2.2.1, (ht2 _).2.2.2.1, (ht2 _).2.2.2.2⟩, ht.1.trans (ht2 _).1⟩
  have c5 := hrow.cell 5 rfl
  have c6 := hrow.cell 6 rfl
  have fz := hrow.free
  clear hrow hr6 ht ht2 h1 h2 h3 h4 h
  unfold Dk.goes at hg
  generalize D.step = D' at fin0 fin1
  obtain ⟨_, _, _, _, _, _, _, af, off, _⟩ := D
  simp only at c5 c6 hg fin0 fin1 haf
  simp only [Bool.or_eq_false_iff, beq_eq_false_iff_ne] at hg
  obtain ⟨rfl, hz⟩ := hg
  have hz' : (af == 0) = false := by simp [hz]
  by_cases hq : 0 < af
  · have fin := fin1 hq
    clear fin0 fin1 hz
    go_enter Try.func63, Try.ntmps63
    go_wp2
    refine bodyPost_end (by simp [results, Try.results63]) rfl ⟨rfl, fin⟩
  · have fin := fin0 hq
    clear fin0 fin1 hz
    go_enter Try.func63, Try.ntmps63
    go_wp2
    refine bodyPost_end (by simp [results, Try.results63]) rfl ⟨rfl, fin⟩
end Go.Proofs.Ytlbpmboknmbcgaa
