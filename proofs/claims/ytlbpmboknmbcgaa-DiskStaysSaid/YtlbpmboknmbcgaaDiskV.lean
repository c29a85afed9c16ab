/- The device as a walk carries it: bounds that grow by one with each step, contracts on the bundle, Try over a closure that works on it. -/
import Derived.Test.YtlbpmboknmbcgaaDiskX
import Derived.Test.YtlbpmboknmbcgaaTry
import Derived.Test.YtlbpmboknmbcgaaDiskL
import Derived.Test.YtlbpmboknmbcgaaDiskW
set_option linter.unusedVariables false
set_option linter.unusedSimpArgs false
namespace Go.Proofs.Ytlbpmboknmbcgaa
open Go.RowKit

theorem Row.dr {S : List TypeId} {base g : Nat} {c : Array Value} {T : TypeId} {W W' : World} (h : Row W g c T) (hd : DR S base W W') (hT : T ∉ S) : Row W' g c T := hd.typ _ _ _ _ h hT
/-- a device after at most n steps -/
structure DkB (D : Dk) (n : Nat) : Prop where
  lo : 0 ≤ D.size
  hi : D.size ≤ 60000
  bl : 0 ≤ D.blocks
  bh : D.blocks ≤ 100000
  ln : D.trace.length ≤ n
  cl : D.cS + D.loose.length ≤ n
  cn : D.cN ≤ n
  af : D.after ≤ 9223372036854775807
  lw : ∀ x ∈ D.loose, (Lit.int .i64 x.1).wf = true ∧ x.2.length ≤ 60000
  tb : ∀ e ∈ D.trace, e.body.length ≤ 60000
theorem DkB.ok {D : Dk} {n : Nat} (h : DkB D n) (hn : n ≤ 900000) : DkOk D :=
  ⟨h.lo, h.hi, h.bl, h.bh, Nat.le_trans h.ln hn, by have := h.cl; omega, by have := h.cl; omega, by have := h.cn; omega, h.af⟩
theorem DkB.mono {D : Dk} {n m : Nat} (h : DkB D n) (hn : n ≤ m) : DkB D m :=
  ⟨h.lo, h.hi, h.bl, h.bh, Nat.le_trans h.ln hn, by have := h.cl; omega, by have := h.cn; omega, h.af, h.lw, h.tb⟩
theorem step_af {D : Dk} (h : D.after ≤ 9223372036854775807) : D.step.after ≤ 9223372036854775807 := by
  show (if 0 < D.after then D.after - 1 else D.after) ≤ _
  split <;> omega
theorem DkB.stepped {D : Dk} {n : Nat} (h : DkB D n) : DkB D.step n :=
  ⟨h.lo, h.hi, h.bl, h.bh, h.ln, h.cl, h.cn, step_af h.af, h.lw, h.tb⟩
theorem DkB.noted {D : Dk} {n : Nat} (h : DkB D n) (e : Ev) (he : e.body.length ≤ 60000) : DkB (D.noted e) (n + 1) :=
  ⟨h.lo, h.hi, h.bl, h.bh, by have := h.ln; show (D.trace ++ [e]).length ≤ _; simp; omega, by have := h.cl; show D.cS + D.loose.length ≤ _; omega, by have := h.cn; show D.cN ≤ _; omega, h.af, h.lw, fun x hx => by
    have hx' : x ∈ D.trace ++ [e] := hx
    rcases List.mem_append.1 hx' with h' | h'
    · exact h.tb x h'
    · rw [List.mem_singleton.1 h']; exact he⟩
theorem DkB.new (bl sz : Int) : DkB (dkNew bl sz) 0 := by
  refine ⟨?_, ?_, ?_, ?_, Nat.zero_le _, Nat.zero_le _, Nat.zero_le _, (by show (-1 : Int) ≤ _; decide), (fun x h => by cases h), (fun x h => by cases h)⟩
  all_goals simp only [dkNew]; omega
theorem fit_le {D : Dk} (h : D.size ≤ 60000) (xs : List UInt8) : (fitL D.size xs).length ≤ 60000 := by rw [fitL_length]; omega
theorem DkB.write {D : Dk} {n : Nat} (h : DkB D n) (at_ : Int) (xs : List UInt8) (hat : (Lit.int .i64 at_).wf = true) : DkB (D.write at_ xs) (n + 1) := by
  have h1 := h.stepped.noted ⟨2, at_, headL (fitL D.size xs), fitL D.size xs⟩ (fit_le h.hi xs)
  unfold Dk.write
  split
  · refine ⟨h.lo, h.hi, h.bl, h.bh, h1.ln, ?_, ?_, h1.af, fun x hx => ?_, h1.tb⟩
    · have := h.cl; show D.cS + (D.loose ++ [_]).length ≤ _; simp; omega
    · have := h.cn; show D.cN + 1 ≤ _; omega
    · have hx' : x ∈ D.loose ++ [(at_, fitL D.size xs)] := hx
      rcases List.mem_append.1 hx' with h' | h'
      · exact h.lw x h'
      · rw [List.mem_singleton.1 h']; exact ⟨hat, fit_le h.hi xs⟩
  · exact h1
theorem DkB.read {D : Dk} {n : Nat} (h : DkB D n) (at_ : Int) : DkB (D.read at_) (n + 1) := h.stepped.noted _ (Nat.zero_le _)
theorem DkB.flush {D : Dk} {n : Nat} (h : DkB D n) : DkB D.flush (n + 1) := by
  have h1 := h.stepped.noted ⟨3, 0, headL [], []⟩ (Nat.zero_le _)
  refine ⟨h.lo, h.hi, h.bl, h.bh, h1.ln, ?_, h1.cn, h1.af, (fun x hx => by cases hx), h1.tb⟩
  have := h.cl
  show D.cS + D.loose.length + 0 ≤ _
  omega
theorem DkB.crash {D : Dk} {n : Nat} (h : DkB D n) (ch : List Int) : DkB (D.crash ch) (n + 1) := by
  have h1 := h.noted ⟨4, 0, headL [], []⟩ (Nat.zero_le _)
  refine ⟨h.lo, h.hi, h.bl, h.bh, h1.ln, ?_, ?_, by show (-1 : Int) ≤ _; decide, (fun x hx => by cases hx), h1.tb⟩
  · have := h.cl; show D.cS + D.loose.length + 0 ≤ _; omega
  · have := h.cl; show D.cS + D.loose.length ≤ _; omega
theorem DkB.cut {D : Dk} {n : Nat} (h : DkB D n) (k : Int) (hk : k ≤ 9223372036854775807) : DkB (D.cut k) n :=
  ⟨h.lo, h.hi, h.bl, h.bh, h.ln, h.cl, h.cn, by show max k (-1) ≤ _; omega, h.lw, h.tb⟩
theorem DkB.dead {D : Dk} {n : Nat} (h : DkB D n) : DkB D.dead n := ⟨h.lo, h.hi, h.bl, h.bh, h.ln, h.cl, h.cn, h.af, h.lw, h.tb⟩

/-- the device, from block 'base' on, with its bounds -/
structure In (W : World) (base b : Nat) (D : Dk) (n : Nat) : Prop where
  dk : DiskAt W base b D
  le : base ≤ W.heap.size
  bd : DkB D n
theorem In.fr {W W' : World} {base b n : Nat} {D : Dk} (h : In W base b D n) (hf : FR [] [] base W W') : In W' base b D n := ⟨h.dk.dr hf, Nat.le_trans h.le hf.size, h.bd⟩
theorem In.below {W W' : World} {base b n : Nat} {D : Dk} (h : In W base b D n) (hb : Below W.heap.size W W') : In W' base b D n := h.fr (FR.of_below hb h.le)
theorem In.alloc {W : World} {base b n : Nat} {D : Dk} (h : In W base b D n) (o : Obj) : In (W.alloc o) base b D n := h.below (below_alloc (Below.refl _ _) o)
/-- a block of a type that the device does not use, turned -/
theorem In.set {W : World} {base b n g j : Nat} {D : Dk} {c : Array Value} {T : TypeId} (h : In W base b D n) (hr : Row W g c T) (v : Value) (hT : T ∉ 5 :: dTy) (hg : base ≤ g) : In (W.setCell ⟨g, j, none⟩ v) base b D n := by
  have hf : FR [T] [] base W (W.setCell ⟨g, j, none⟩ v) := FR.of_upd (upd_cell hr v) hr (by simp) hg
  have hT' : 5 ∉ [T] ∧ 82 ∉ [T] ∧ 85 ∉ [T] ∧ 32 ∉ [T] := by
    simp only [dTy, List.mem_cons, List.not_mem_nil, or_false, not_or] at hT ⊢
    exact ⟨fun e => hT.1 e.symm, fun e => hT.2.1 e.symm, fun e => hT.2.2.1 e.symm, fun e => hT.2.2.2 e.symm⟩
  obtain ⟨mS, mN, lv, tv, hrow, hbb, hbS, hbN, hne, h1, h2, h3, h4⟩ := h.dk.out
  exact ⟨⟨⟨mS, mN, lv, tv, hf.row hrow hT'.2.1, hbb, hbS, hbN, hne, h1.fr hf hT'.1 (by simp) (Nat.le_refl _), h2.fr hf hT'.1 (by simp) (Nat.le_refl _), h3.fr hf hT'.1 hT'.2.2.1, h4.fr hf hT'.1 hT'.2.2.2⟩⟩, Nat.le_trans h.le hf.size, h.bd⟩

theorem In.after {W W' : World} {base b n n' : Nat} {D D' : Dk} (h : In W base b D n) (hd : DiskAt W' base b D') (hr : DR dTy base W W') (hb : DkB D' n') : In W' base b D' n' :=
  ⟨hd, Nat.le_trans h.le hr.below.size, hb⟩
theorem i_new (bl sz : Int) (w : World) (h1 : (Lit.int .i64 bl).wf = true) (h2 : (Lit.int .i64 sz).wf = true) :
    Calls Try.prog 17 #[.int .i64 bl, .int .i64 sz] w fun e w' => ∃ b, e = .returned (.pointer (some ⟨b, 0, none⟩)) ∧ In w' w.heap.size b (dkNew bl sz) 0 ∧ Below w.heap.size w w' := by
  have wf : ∀ x : Int, (Lit.int .i64 x).wf = true → -9223372036854775808 ≤ x ∧ x ≤ 9223372036854775807 := fun x hx => by
    have h : (IntKind.i64.min ≤ x ∧ x ≤ 9223372036854775807) := by simpa [Lit.wf] using hx
    exact h
  refine (c_diskNew bl sz w (wf _ h1) (wf _ h2)).mono ?_
  rintro e w' ⟨b, rfl, hd, hb⟩
  exact ⟨b, rfl, ⟨hd, hb.size, DkB.new bl sz⟩, hb⟩
variable {W : World} {base b n : Nat} {D : Dk}
theorem i_write (h : In W base b D n) (hn : n ≤ 900000) (hg : D.goes = false) (at_ : Int) (v : Value) (xs : List UInt8) (hat : (Lit.int .i64 at_).wf = true) (hv : BytesAt W base v xs) :
    Calls Try.prog 19 #[.pointer (some ⟨b, 0, none⟩), .int .i64 at_, v] W fun e w' => e = .returned (.tuple #[]) ∧ In w' base b (D.write at_ xs) (n + 1) ∧ DR dTy base W w' := by
  refine (c_writeYes W base b D at_ v xs h.dk hg (h.bd.ok hn) h.le hat hv).mono ?_
  rintro e w' ⟨rfl, hd, hr⟩
  exact ⟨rfl, h.after hd hr (h.bd.write at_ xs hat), hr⟩
theorem i_writeNo (h : In W base b D n) (hg : D.goes = true) (at_ : Int) (v : Value) :
    Calls Try.prog 19 #[.pointer (some ⟨b, 0, none⟩), .int .i64 at_, v] W fun e w' => e = gonePanic ∧ In w' base b D.dead n ∧ DR dTy base W w' := by
  refine (c_writeNo W base b D at_ v h.dk hg).mono ?_
  rintro e w' ⟨rfl, hd, hr⟩
  exact ⟨rfl, h.after hd hr h.bd.dead, hr⟩
theorem i_read (h : In W base b D n) (hn : n ≤ 900000) (hg : D.goes = false) (at_ : Int) (hat : (Lit.int .i64 at_).wf = true) :
    Calls Try.prog 20 #[.pointer (some ⟨b, 0, none⟩), .int .i64 at_] W fun e w' => ∃ v, e = .returned v ∧ OwnB w' W.heap.size 5 v (D.at_ D.now at_) ∧ In w' base b (D.read at_) (n + 1) ∧ DR dTy base W w' := by
  refine (c_readYes W base b D at_ h.dk hg (h.bd.ok hn) h.le hat).mono ?_
  rintro e w' ⟨v, rfl, ho, hd, hr⟩
  exact ⟨v, rfl, ho, h.after hd hr (h.bd.read at_), hr⟩
theorem i_readNo (h : In W base b D n) (hg : D.goes = true) (at_ : Int) :
    Calls Try.prog 20 #[.pointer (some ⟨b, 0, none⟩), .int .i64 at_] W fun e w' => e = gonePanic ∧ In w' base b D.dead n ∧ DR dTy base W w' := by
  refine (c_readNo W base b D at_ h.dk hg).mono ?_
  rintro e w' ⟨rfl, hd, hr⟩
  exact ⟨rfl, h.after hd hr h.bd.dead, hr⟩
theorem i_flush (h : In W base b D n) (hn : n ≤ 900000) (hg : D.goes = false) :
    Calls Try.prog 21 #[.pointer (some ⟨b, 0, none⟩)] W fun e w' => e = .returned (.tuple #[]) ∧ In w' base b D.flush (n + 1) ∧ DR dTy base W w' := by
  refine (c_flushYes W base b D h.dk hg (h.bd.ok hn) h.le (fun x hx => (h.bd.lw x hx).1)).mono ?_
  rintro e w' ⟨rfl, hd, hr⟩
  exact ⟨rfl, h.after hd hr h.bd.flush, hr⟩
theorem i_flushNo (h : In W base b D n) (hg : D.goes = true) :
    Calls Try.prog 21 #[.pointer (some ⟨b, 0, none⟩)] W fun e w' => e = gonePanic ∧ In w' base b D.dead n ∧ DR dTy base W w' := by
  refine (c_flushNo W base b D h.dk hg).mono ?_
  rintro e w' ⟨rfl, hd, hr⟩
  exact ⟨rfl, h.after hd hr h.bd.dead, hr⟩
theorem i_cut (h : In W base b D n) (k : Int) (hk : k ≤ 9223372036854775807) :
    Calls Try.prog 24 #[.pointer (some ⟨b, 0, none⟩), .int .i64 k] W fun e w' => e = .returned (.tuple #[]) ∧ In w' base b (D.cut k) n ∧ DR dTy base W w' := by
  refine (c_cut W base b D k h.dk).mono ?_
  rintro e w' ⟨rfl, hd, hr⟩
  exact ⟨rfl, h.after hd hr (h.bd.cut k hk), hr⟩
theorem i_crash (h : In W base b D n) (hn : n ≤ 900000) (Ac : Option Addr) (nc cc : Nat) (ch : List Int) (hch : Rd W Ac nc (iv ch)) (hci : ∀ c ∈ ch, -9223372036854775808 ≤ c ∧ c ≤ 9223372036854775807) (hnc : 0 ≤ nc) (hcb : ∀ ad, Ac = some ad → 0 < nc → ad.block < base ∨ ∃ cs fr, W.heap[ad.block]? = some (.cells cs 3 fr)) :
    Calls Try.prog 29 #[.pointer (some ⟨b, 0, none⟩), .slice Ac nc cc] W fun e w' => e = .returned (.tuple #[]) ∧ In w' base b (D.crash ch) (n + 1) ∧ DR dTy base W w' := by
  refine (c_crash W base b D Ac nc cc ch h.dk (h.bd.ok hn) h.le h.bd.lw hch hci hnc hcb).mono ?_
  rintro e w' ⟨rfl, hd, hr⟩
  exact ⟨rfl, h.after hd hr (h.bd.crash ch), hr⟩
theorem i_stable (h : In W base b D n) (hn : n ≤ 900000) (at_ : Int) (hat : (Lit.int .i64 at_).wf = true) :
    Calls Try.prog 22 #[.pointer (some ⟨b, 0, none⟩), .int .i64 at_] W fun e w' => ∃ v, e = .returned v ∧ OwnB w' W.heap.size 5 v (D.at_ D.stable at_) ∧ In w' base b D n ∧ Below W.heap.size W w' := by
  refine (c_stable W base b D at_ h.dk (h.bd.ok hn) hat).mono ?_
  rintro e w' ⟨v, rfl, ho, hb⟩
  exact ⟨v, rfl, ho, h.below hb, hb⟩
theorem i_trace (h : In W base b D n) (hn : n ≤ 900000) :
    Calls Try.prog 23 #[.pointer (some ⟨b, 0, none⟩)] W fun e w' => ∃ v, e = .returned v ∧ TraceAt w' W.heap.size v D.trace ∧ In w' base b D n ∧ Below W.heap.size W w' := by
  refine (c_trace W base b D h.dk (h.bd.ok hn) h.bd.tb).mono ?_
  rintro e w' ⟨v, rfl, ho, hb⟩
  exact ⟨v, rfl, ho, h.below hb, hb⟩
/-- Try over a closure that ends -/
theorem i_tryOk {K : FuncId} {caps : Array Value} {n' : Nat} {D' : Dk} (hcf : ∀ w, (callFunc K caps).run Try.prog w = .ok (.enter K caps) w) (h : In W base b D n)
    (hc : ∀ W0, Below W.heap.size W W0 → In W0 base b D n → Calls Try.prog K caps W0 fun e w' => e = .returned (.tuple #[]) ∧ In w' base b D' n' ∧ DR dTy base W0 w') :
    Calls Try.prog 25 #[.func (Fn.func K) #[] caps] W fun e w' => e = .returned (.bool true) ∧ In w' base b D' n' ∧ DR dTy base W w' := by
  have hb0 := below_alloc (Below.refl W.heap.size W) (.cells #[.bool false] 4)
  have hr0 : Row (W.alloc (.cells #[.bool false] 4)) W.heap.size #[.bool false] 4 := Row.new _ _ _
  refine (c_tryOk W (fun w => In w base b D' n' ∧ DR dTy base (W.alloc (.cells #[.bool false] 4)) w) hcf ((hc _ hb0 (h.below hb0)).mono ?_)).mono ?_
  · rintro e w' ⟨rfl, hi, hd⟩
    exact ⟨rfl, Row.dr hr0 hd (by decide), hi, hd⟩
  · rintro e w' ⟨rfl, w1, ⟨hi, hd⟩, hr, rfl⟩
    refine ⟨rfl, hi.set hr _ (by decide) h.le, ?_⟩
    have hq := (DR.of_below (S := dTy) hb0 h.le).trans hd
    refine ⟨hq.below.trans ((upd_cell hr _).below h.le), fun k x U fr hk hU => ?_⟩
    rw [heap_setCell_other _ _ _ _ (by have := (Array.getElem?_eq_some_iff.1 hk).1; show k ≠ W.heap.size; omega)]
    exact hq.typ k x U fr hk hU
/-- Try over a closure that stops where the power is gone -/
theorem i_tryGone {K : FuncId} {caps : Array Value} {n' : Nat} {D' : Dk} (hcf : ∀ w, (callFunc K caps).run Try.prog w = .ok (.enter K caps) w) (h : In W base b D n)
    (hc : ∀ W0, Below W.heap.size W W0 → In W0 base b D n → Calls Try.prog K caps W0 fun e w' => e = gonePanic ∧ In w' base b D' n' ∧ DR dTy base W0 w') :
    Calls Try.prog 25 #[.func (Fn.func K) #[] caps] W fun e w' => e = .returned (.bool false) ∧ In w' base b D' n' ∧ DR dTy base W w' := by
  have hb0 := below_alloc (Below.refl W.heap.size W) (.cells #[.bool false] 4)
  have hr0 : Row (W.alloc (.cells #[.bool false] 4)) W.heap.size #[.bool false] 4 := Row.new _ _ _
  refine (c_tryGone W (fun w => In w base b D' n' ∧ DR dTy base (W.alloc (.cells #[.bool false] 4)) w) hcf ((hc _ hb0 (h.below hb0)).mono ?_)).mono ?_
  · rintro e w' ⟨rfl, hi, hd⟩
    exact ⟨rfl, Row.dr hr0 hd (by decide), hi, hd⟩
  · rintro e w' ⟨rfl, w1, ⟨hi, hd⟩, hr, rfl⟩
    refine ⟨rfl, (hi.alloc _).set (hr.alloc _) _ (by decide) h.le, ?_⟩
    have hq := ((DR.of_below (S := dTy) hb0 h.le).trans hd).alloc hi.le (.cells #[] 88)
    refine ⟨hq.below.trans ((upd_cell (hr.alloc _) _).below h.le), fun k x U fr hk hU => ?_⟩
    rw [heap_setCell_other _ _ _ _ (by have := (Array.getElem?_eq_some_iff.1 hk).1; show k ≠ W.heap.size; omega)]
    exact hq.typ k x U fr hk hU
end Go.Proofs.Ytlbpmboknmbcgaa
