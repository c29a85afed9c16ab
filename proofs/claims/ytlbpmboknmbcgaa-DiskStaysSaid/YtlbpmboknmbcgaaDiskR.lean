/- Contracts of the device: block, Read. -/
import Derived.Test.YtlbpmboknmbcgaaDiskE
set_option linter.unusedVariables false
set_option linter.unusedSimpArgs false
namespace Go.Proofs.Ytlbpmboknmbcgaa
open Go.RowKit

theorem c_blockNo (W : World) (base b : Nat) (D : Dk) (mv : Value) (at_ : Int) (h : DiskAt W base b D) (hh : D.has at_ = false) :
    Calls Try.prog 67 #[.pointer (some ⟨b, 0, none⟩), mv, .int .i64 at_] W fun e w' => e = .returned (.slice none 0 0) ∧ W = w' := by
  go_enter Try.func67, Try.ntmps67
  go_wp2_with (go_at_call 66; refine (c_diskHas _ base b D _ false h hh).mono ?_; rintro e w' ⟨rfl, rfl⟩)
  go_ret
  exact ⟨rfl, rfl⟩
/-- what stands at a place, in a map of blocks -/
def Dk.at_ (D : Dk) (m : Int → List UInt8) (at_ : Int) : List UInt8 := if D.has at_ then fitL D.size (m at_) else []
structure DkOk (D : Dk) : Prop where
  lo : 0 ≤ D.size
  hi : D.size ≤ 60000
  bl : 0 ≤ D.blocks
  bh : D.blocks ≤ 100000
  ln : D.trace.length ≤ 900000
  ll : D.loose.length ≤ 900000
  cs : D.cS ≤ 900000
  cn : D.cN ≤ 900000
  af : D.after ≤ 9223372036854775807
theorem c_dBlock (W : World) (base b mb nb : Nat) (D : Dk) (m : Int → List UInt8) (at_ : Int) (h : DiskAt W base b D) (hm : MapB W base mb nb m) (hk : DkOk D) (hat : (Lit.int .i64 at_).wf = true) :
    Calls Try.prog 67 #[.pointer (some ⟨b, 0, none⟩), .map (some mb), .int .i64 at_] W fun e w' => ∃ v, e = .returned v ∧ OwnB w' W.heap.size 5 v (D.at_ m at_) ∧ Below W.heap.size W w' := by
  unfold Dk.at_
  cases hh : D.has at_ with
  | true => exact c_diskBlock W base b mb nb D m at_ h hm hat hh ⟨hk.lo, hk.hi⟩
  | false =>
    refine (c_blockNo W base b D _ at_ h hh).mono ?_
    rintro e w' ⟨rfl, rfl⟩
    exact ⟨_, rfl, OwnB.nil_ _ _ _, Below.refl _ _⟩
theorem DiskAt.dr {W W' : World} {base b : Nat} {D : Dk} (h : DiskAt W base b D) (hf : FR [] [] base W W') : DiskAt W' base b D := by
  obtain ⟨mS, mN, lv, tv, hrow, hbb, hbS, hbN, hne, h1, h2, h3, h4⟩ := h.out
  exact ⟨⟨mS, mN, lv, tv, hf.row hrow (by simp), hbb, hbS, hbN, hne, h1.fr hf (by simp) (by simp) (Nat.le_refl _), h2.fr hf (by simp) (by simp) (Nat.le_refl _), h3.fr hf (by simp) (by simp), h4.fr hf (by simp) (by simp)⟩⟩
theorem OwnB.dr {S : List TypeId} {W W' : World} {base B : Nat} {v : Value} {xs : List UInt8} (h : OwnB W B 5 v xs) (hd : DR S base W W') (hS : 5 ∉ S) : OwnB W' B 5 v xs := by
  refine ⟨h.1, ?_⟩
  rcases h.2 with h | ⟨g, cap, cur, hv, hg, hh, r⟩
  · exact .inl h
  · exact .inr ⟨g, cap, cur, hv, hg, hd.typ _ _ _ _ hh hS, r⟩
/-- a read that is done -/
def Dk.read (D : Dk) (at_ : Int) : Dk := D.step.noted ⟨1, at_, headL (D.at_ D.now at_), []⟩
theorem c_readNo (W : World) (base b : Nat) (D : Dk) (at_ : Int) (h : DiskAt W base b D) (hg : D.goes = true) :
    Calls Try.prog 20 #[.pointer (some ⟨b, 0, none⟩), .int .i64 at_] W fun e w' => e = gonePanic ∧ DiskAt w' base b D.dead ∧ DR dTy base W w' := by
  have hc := c_countNo W base b D h hg
  go_enter Try.func20, Try.ntmps20
  go_wp2_with fail
  refine hc.mono ?_
  rintro e w' ⟨rfl, hd, hr⟩
  exact ⟨rfl, rfl, hd, hr⟩
theorem c_readYes (W : World) (base b : Nat) (D : Dk) (at_ : Int) (h : DiskAt W base b D) (hg : D.goes = false) (hk : DkOk D) (hB : base ≤ W.heap.size) (hat : (Lit.int .i64 at_).wf = true) :
    Calls Try.prog 20 #[.pointer (some ⟨b, 0, none⟩), .int .i64 at_] W fun e w' => ∃ v, e = .returned v ∧ OwnB w' W.heap.size 5 v (D.at_ D.now at_) ∧ DiskAt w' base b (D.read at_) ∧ DR dTy base W w' := by
  have hc := c_countYes W base b D h hg hk.af
  have hkS : DkOk D.step := ⟨hk.lo, hk.hi, hk.bl, hk.bh, hk.ln, hk.ll, hk.cs, hk.cn, by unfold Dk.step; simp only; have := hk.af; split <;> omega⟩
  have HAT := Lib.hid hat
  clear hat h
  go_enter Try.func20, Try.ntmps20
  go_wp2_with fail
  refine hc.mono ?_
  rintro e w1 ⟨rfl, hd1, hr1⟩
  have hd1c := hd1
  obtain ⟨mS, mN, lv, tv, hrow, hbb, hbS, hbN, hne, h1, h2, h3, h4⟩ := hd1c.out
  have c3 := hrow.cell 3 rfl
  have hs1 := hr1.below.size
  have hB1 : base ≤ w1.heap.size := by omega
  clear hc
  go_wp2_with fail
  refine (c_dBlock w1 base b mN D.cN D.step D.now at_ hd1 h2 hkS HAT.out).mono ?_
  rintro e w2 ⟨v, rfl, ho, hb2⟩
  have hf2 : FR [] [] base w1 w2 := FR.of_below hb2 hB1
  have hs2 := hb2.size
  clear c3 hrow
  go_wp2_with fail
  refine (c_diskNote w2 base b D.step 1 at_ v (.slice none 0 0) _ [] (hd1.dr hf2) (BytesAt.of_own ho) (BytesAt.nil_ _ _) (by omega) (Nat.le_trans hkS.ln (by decide))).mono ?_
  rintro e w3 ⟨rfl, hd3, hr3⟩
  go_wp2
  go_ret
  exact ⟨_, rfl, (ho.mono hs1).dr hr3 (by decide), hd3, hr1.trans ((hf2.dr.less (by simp)).trans hr3)⟩
end Go.Proofs.Ytlbpmboknmbcgaa
