/- SuprHolds: the closure, and Try over it. -/
import Derived.Test.YtmdmhjcdaejlkaaSuprF
set_option linter.unusedVariables false
set_option linter.unusedSimpArgs false
namespace Go.Proofs.Ytmdmhjcdaejlkaa
open Go.RowKit

theorem In.monoR {W : World} {base b n m : Nat} {D : Dk} (h : In W base b D n) (hn : n ≤ m) : In W base b D m := ⟨h.dk, h.le, h.bd.mono hn⟩
/-- all but the blocks of X and the device's stay -/
def PX (X : List Nat) (base : Nat) (W W' : World) : Prop := Below base W W' ∧ ∀ k c T, Row W k c T → T ∉ dTy → k ∉ X → Row W' k c T
theorem PX.of_pr {g base : Nat} {W W' : World} {X : List Nat} (h : PR g base W W') (hg : g ∈ X) : PX X base W W' := ⟨h.1, fun k c T hr hT hk => h.2 k c T hr hT (fun e => hk (e ▸ hg))⟩
theorem PX.trans {X : List Nat} {base : Nat} {a b c : World} (h1 : PX X base a b) (h2 : PX X base b c) : PX X base a c := ⟨h1.1.trans h2.1, fun k x T hr hT hk => h2.2 k x T (h1.2 k x T hr hT hk) hT hk⟩
theorem PX.of_below {X : List Nat} {base : Nat} {W W' : World} (hb : Below W.heap.size W W') (hbase : base ≤ W.heap.size) : PX X base W W' := ⟨hb.mono hbase, fun k c T hr _ _ => hr.below hb hr.lt⟩
theorem PX.set {X : List Nat} {base g j : Nat} {W : World} {v : Value} (hg : base ≤ g) (hX : g ∈ X) : PX X base W (W.setCell ⟨g, j, none⟩ v) := ⟨(Below.refl base W).setCell (p := ⟨g, j, none⟩) hg v, fun k c T hr hT hk => hr.set_other j v (fun e => hk (e ▸ hX))⟩
theorem PX.less {X Y : List Nat} {base : Nat} {W W' : World} (h : PX X base W W') (hXY : ∀ x ∈ X, x ∈ Y) : PX Y base W W' := ⟨h.1, fun k c T hr hT hk => h.2 k c T hr hT (fun hx => hk (hXY k hx))⟩
theorem PenAt.set {W : World} {b g k j boot seq : Nat} {key : List UInt8} (h : PenAt W g b key boot seq) (v : Value) (hk : g ≠ k) : PenAt (W.setCell ⟨k, j, none⟩ v) g b key boot seq := ⟨h.row.set_other j v hk, h.kl, h.bl⟩
variable {W : World} {base b n g g10 g11 g13 boot : Nat} {D : Dk} {key : List UInt8}
/-- Try over a closure that ends: the fresh cell of its own aside -/
theorem px_tryOk {K : FuncId} {caps : Array Value} {n' : Nat} {D' : Dk} {X : List Nat} {R : World → Prop} (hcf : ∀ w, (callFunc K caps).run Try.prog w = .ok (.enter K caps) w) (h : In W base b D n) (hX : ∀ x ∈ X, x < W.heap.size)
    (hRs : ∀ w v, Row w W.heap.size #[.bool false] 4 → R w → R (w.setCell ⟨W.heap.size, 0, none⟩ v))
    (hc : ∀ W0, Below W.heap.size W W0 → Calls Try.prog K caps W0 fun e w' => e = .returned (.tuple #[]) ∧ In w' base b D' n' ∧ PX X base W0 w' ∧ R w') :
    Calls Try.prog 44 #[.func (Fn.func K) #[] caps] W fun e w' => e = .returned (.bool true) ∧ In w' base b D' n' ∧ PX X base W w' ∧ R w' := by
  have hb0 := below_alloc (Below.refl W.heap.size W) (.cells #[.bool false] 4)
  have hr0 : Row (W.alloc (.cells #[.bool false] 4)) W.heap.size #[.bool false] 4 := Row.new _ _ _
  have hnX : W.heap.size ∉ X := fun hx => Nat.lt_irrefl _ (hX _ hx)
  refine (c_tryOk W (fun w => In w base b D' n' ∧ PX X base (W.alloc (.cells #[.bool false] 4)) w ∧ R w) hcf ((hc _ hb0).mono ?_)).mono ?_
  · rintro e w' ⟨rfl, hi, hp, hr⟩
    exact ⟨rfl, hp.2 _ _ _ hr0 (by decide) hnX, hi, hp, hr⟩
  · rintro e w' ⟨rfl, w1, ⟨hi, hp, hR⟩, hr, rfl⟩
    refine ⟨rfl, hi.set hr _ (by decide) h.le, ⟨((hb0.mono h.le).trans hp.1).setCell (p := ⟨W.heap.size, 0, none⟩) h.le _, fun k c T hk hT hkX => ?_⟩, hRs _ _ hr hR⟩
    exact (hp.2 k c T (hk.alloc _) hT hkX).set_other 0 _ (by have := hk.lt; omega)
theorem px_tryGone {K : FuncId} {caps : Array Value} {n' : Nat} {D' : Dk} {X : List Nat} {R : World → Prop} (hcf : ∀ w, (callFunc K caps).run Try.prog w = .ok (.enter K caps) w) (h : In W base b D n) (hX : ∀ x ∈ X, x < W.heap.size)
    (hRs : ∀ w v, Row w W.heap.size #[.bool false] 4 → R w → R ((w.alloc (.cells #[] 112)).setCell ⟨W.heap.size, 0, none⟩ v))
    (hc : ∀ W0, Below W.heap.size W W0 → Calls Try.prog K caps W0 fun e w' => e = gonePanic ∧ In w' base b D' n' ∧ PX X base W0 w' ∧ R w') :
    Calls Try.prog 44 #[.func (Fn.func K) #[] caps] W fun e w' => e = .returned (.bool false) ∧ In w' base b D' n' ∧ PX X base W w' ∧ R w' := by
  have hb0 := below_alloc (Below.refl W.heap.size W) (.cells #[.bool false] 4)
  have hr0 : Row (W.alloc (.cells #[.bool false] 4)) W.heap.size #[.bool false] 4 := Row.new _ _ _
  have hnX : W.heap.size ∉ X := fun hx => Nat.lt_irrefl _ (hX _ hx)
  refine (c_tryGone W (fun w => In w base b D' n' ∧ PX X base (W.alloc (.cells #[.bool false] 4)) w ∧ R w) hcf ((hc _ hb0).mono ?_)).mono ?_
  · rintro e w' ⟨rfl, hi, hp, hr⟩
    exact ⟨rfl, hp.2 _ _ _ hr0 (by decide) hnX, hi, hp, hr⟩
  · rintro e w' ⟨rfl, w1, ⟨hi, hp, hR⟩, hr, rfl⟩
    refine ⟨rfl, (hi.alloc _).set (hr.alloc _) _ (by decide) h.le, ⟨(((hb0.mono h.le).trans hp.1).alloc hi.le _).setCell (p := ⟨W.heap.size, 0, none⟩) h.le _, fun k c T hk hT hkX => ?_⟩, hRs _ _ hr hR⟩
    exact ((hp.2 k c T (hk.alloc _) hT hkX).alloc _).set_other 0 _ (by have := hk.lt; omega)
set_option maxHeartbeats 1000000 in
set_option maxRecDepth 100000 in
theorem hold_ok (hI : In W base b D n) (hn : n ≤ 600000) (hP : PenAt W g b key boot 0) (r10 : Row W g10 #[.pointer (some ⟨g, 0, none⟩)] 28) (h : Nat) (hh : h < 18446744073709551615) (r11 : Row W g11 #[.int .u64 (h : Int)] 34) (r13 : Row W g13 #[.bool false] 4)
    (hgb : base ≤ g) (h13 : base ≤ g13) (hg13 : g13 ≠ g) (hs : 35 ≤ D.size) (hg : D.goes = false) (hg2 : (D.write ((1 + (h + 1) % 2 : Nat) : Int) (sealL key boot 0 (textL (h + 1)) D.size.toNat)).goes = false) :
    Calls Try.prog 45 #[.pointer (some ⟨g10, 0, none⟩), .pointer (some ⟨g11, 0, none⟩), .pointer (some ⟨g13, 0, none⟩)] W fun e w' => e = .returned (.tuple #[]) ∧ In w' base b (comD D key boot 0 1 (h + 1)) (n + 2) ∧ PX [g, g13] base W w' ∧ PenAt w' g b key boot 1 ∧ Row w' g13 #[.bool true] 4 := by
  have c10 := r10.cell 0 rfl
  have c11 := r11.cell 0 rfl
  have hco := c_commitG hP hI (by omega) hgb 1 (h + 1) hg hg2 (by decide) (by omega) (by decide) hs
  obtain ⟨y, hy⟩ : ∃ y : Nat, h + 1 = y := ⟨_, rfl⟩
  rw [hy] at hco ⊢
  simp only [show ((1 : Nat) : Int) = 1 from rfl] at hco
  have HC := Lib.hid hco
  have hyi : (h : Int) + 1 = (y : Int) := by omega
  have hwy : IntKind.u64.wrap (y : Int) = (y : Int) := IntWalk.u64_in _ ⟨by omega, by omega⟩
  clear hco hg hg2 hh hy hI hP
  generalize comD D key boot 0 1 y = D1 at *
  go_enter Try.func45, Try.ntmps45
  go_wp2_with fail
  refine HC.out.mono ?_
  rintro e w1 ⟨rfl, hI1, hP1, hp1⟩
  have q13 := hp1.2 _ _ _ r13 (by decide) hg13
  have c13 := q13.cell 0 rfl
  have z13 := q13.free 0
  have hI2 := hI1.set (j := 0) q13 (.bool true) (by decide) h13
  have hP2 : PenAt (w1.setCell ⟨g13, 0, none⟩ (.bool true)) g b key boot (0 + 1) := hP1.set (j := 0) (.bool true) (Ne.symm hg13)
  have s13 := q13.set 0 (.bool true)
  have hpx : PX [g, g13] base W (w1.setCell ⟨g13, 0, none⟩ (.bool true)) := (PX.of_pr hp1 (by simp)).trans (PX.set h13 (by simp))
  have H := Lib.hid (And.intro hI2 (And.intro hpx (And.intro hP2 s13)))
  clear hI1 hI2 hP1 hP2 hp1 hpx s13 r10 r11 r13 q13 HC
  go_wp2
  exact ⟨rfl, _, by simp [results, Try.results45], rfl, H.out⟩
theorem hold_no (r10 : Row W g10 #[.pointer (some ⟨g, 0, none⟩)] 28) (h : Nat) (hh : h < 18446744073709551615) (r11 : Row W g11 #[.int .u64 (h : Int)] 34) {n' : Nat} {D' : Dk}
    (hc : Calls Try.prog 32 #[.pointer (some ⟨g, 0, none⟩), .int .i64 ((1 : Nat) : Int), .int .u64 ((h + 1 : Nat) : Int)] W fun e w' => e = gonePanic ∧ In w' base b D' n' ∧ PenAt w' g b key boot (0 + 1) ∧ PR g base W w') :
    Calls Try.prog 45 #[.pointer (some ⟨g10, 0, none⟩), .pointer (some ⟨g11, 0, none⟩), .pointer (some ⟨g13, 0, none⟩)] W fun e w' => e = gonePanic ∧ In w' base b D' n' ∧ PX [g] base W w' ∧ PenAt w' g b key boot 1 := by
  have c10 := r10.cell 0 rfl
  have c11 := r11.cell 0 rfl
  obtain ⟨y, hy⟩ : ∃ y : Nat, h + 1 = y := ⟨_, rfl⟩
  rw [hy] at hc
  simp only [show ((1 : Nat) : Int) = 1 from rfl] at hc
  have hyi : (h : Int) + 1 = (y : Int) := by omega
  have hwy : IntKind.u64.wrap (y : Int) = (y : Int) := IntWalk.u64_in _ ⟨by omega, by omega⟩
  have HC := Lib.hid hc
  clear hc hy hh
  go_enter Try.func45, Try.ntmps45
  go_wp2_with fail
  refine HC.out.mono ?_
  rintro e w' ⟨rfl, h1, h2, h3⟩
  exact ⟨rfl, rfl, h1, PX.of_pr h3 (by simp), h2⟩
structure AfS (D : Dk) (x : Int) : Prop where
  off : D.off = false
  af : D.after = x
theorem AfS.no {D : Dk} {x : Int} (h : AfS D x) (hx : x ≠ 0) : D.goes = false := by
  unfold Dk.goes; rw [h.off, h.af]; simp [hx]
theorem AfS.yes {D : Dk} (h : AfS D 0) : D.goes = true := by unfold Dk.goes; rw [h.off, h.af]; rfl
theorem AfS.write {D : Dk} {x : Int} (h : AfS D x) (a : Int) (xs : List UInt8) : AfS (D.write a xs) (if 0 < x then x - 1 else x) := by
  unfold Dk.write
  split
  · exact ⟨rfl, by show (if 0 < D.after then D.after - 1 else D.after) = _; rw [h.af]⟩
  · exact ⟨rfl, by show (if 0 < D.after then D.after - 1 else D.after) = _; rw [h.af]⟩
set_option maxHeartbeats 4000000 in
/-- Try over the closure: whatever the cut -/
theorem hold_try (c : Int) (hc1 : -1 ≤ c) (h : Nat) (hH : Hd key D h) (hh : h < 18446744073709551615) (hI : In W base b (D.cut c) n) (hn : n ≤ 600000) (hP : PenAt W g b key boot 0) (r10 : Row W g10 #[.pointer (some ⟨g, 0, none⟩)] 28) (r11 : Row W g11 #[.int .u64 (h : Int)] 34) (r13 : Row W g13 #[.bool false] 4)
    (hgb : base ≤ g) (h13 : base ≤ g13) (hg13 : g13 ≠ g) :
    Calls Try.prog 44 #[.func (Fn.func 45) #[] #[.pointer (some ⟨g10, 0, none⟩), .pointer (some ⟨g11, 0, none⟩), .pointer (some ⟨g13, 0, none⟩)]] W fun e w' => ∃ (r dn : Bool) (D' : Dk),
      e = .returned (.bool r) ∧ In w' base b D' (n + 2) ∧ PX [g, g13] base W w' ∧ PenAt w' g b key boot 1 ∧ Row w' g13 #[.bool dn] 4 ∧ (r = true → dn = true) ∧ LooseT D' ∧
      ∀ ch, FairOk key D' ch → ∃ h', (h' = h ∨ h' = h + 1) ∧ (r = true → h' = h + 1) ∧ Hd key (D'.crash ch) h' := by
  have ha : AfS (D.cut c) c := ⟨hH.fr.off, by show max c (-1) = c; omega⟩
  have hs : 35 ≤ (D.cut c).size := by show 35 ≤ D.size; rw [hH.sz]; decide
  have hX : ∀ x ∈ [g, g13], x < W.heap.size := by
    intro x hx
    simp only [List.mem_cons, List.not_mem_nil, or_false] at hx
    rcases hx with rfl | rfl
    · exact hP.lt
    · exact r13.lt
  have hltW := hP.lt
  have h13W := r13.lt
  have gone : ∀ (D' : Dk) (n' : Nat), n' ≤ n + 2 → LooseT D' → (∀ W0, Below W.heap.size W W0 → In W0 base b (D.cut c) n → PenAt W0 g b key boot 0 → Calls Try.prog 32 #[.pointer (some ⟨g, 0, none⟩), .int .i64 ((1 : Nat) : Int), .int .u64 ((h + 1 : Nat) : Int)] W0 fun e w' => e = gonePanic ∧ In w' base b D' n' ∧ PenAt w' g b key boot (0 + 1) ∧ PR g base W0 w') →
      (∀ ch, FairOk key D' ch → ∃ h', (h' = h ∨ h' = h + 1) ∧ Hd key (D'.crash ch) h') →
      Calls Try.prog 44 #[.func (Fn.func 45) #[] #[.pointer (some ⟨g10, 0, none⟩), .pointer (some ⟨g11, 0, none⟩), .pointer (some ⟨g13, 0, none⟩)]] W fun e w' => ∃ (r dn : Bool) (D' : Dk),
      e = .returned (.bool r) ∧ In w' base b D' (n + 2) ∧ PX [g, g13] base W w' ∧ PenAt w' g b key boot 1 ∧ Row w' g13 #[.bool dn] 4 ∧ (r = true → dn = true) ∧ LooseT D' ∧
      ∀ ch, FairOk key D' ch → ∃ h', (h' = h ∨ h' = h + 1) ∧ (r = true → h' = h + 1) ∧ Hd key (D'.crash ch) h' := by
    intro D' n' hn' hlt hcall hch
    refine (px_tryGone (n' := n') (D' := D') (X := [g]) (R := fun w => PenAt w g b key boot 1) (fun _ => by kernel_rfl) hI (fun x hx => hX x (by simp only [List.mem_singleton] at hx; simp [hx])) (fun w v hr hp => ?_) fun W0 hb0 => ?_).mono ?_
    · exact ⟨(hp.row.alloc _).set_other 0 v (by omega), hp.kl, hp.bl⟩
    · exact hold_no (r10.below hb0 r10.lt) h hh (r11.below hb0 r11.lt) (hcall W0 hb0 (hI.below hb0) (hP.below hb0 hltW))
    · rintro e w' ⟨rfl, hi, hpx, hp⟩
      refine ⟨false, false, D', rfl, hi.monoR hn', hpx.less (by simp), hp, hpx.2 _ _ _ r13 (by decide) (by simpa using hg13), fun h => (by cases h), hlt, fun ch hf => ?_⟩
      obtain ⟨h', q1, q2⟩ := hch ch hf
      exact ⟨h', q1, fun h => (by cases h), q2⟩
  by_cases c0 : c = 0
  · subst c0
    exact gone (D.cut 0).dead n (by omega) (hH.lt.cut 0).dead (fun W0 _ hi0 hp0 => c_commitNo1 hp0 hi0 (by omega) hgb 1 (h + 1) ha.yes (by decide) (by omega) (by decide) hs) (fun ch _ => ⟨h, .inl rfl, hH.none_ 0 ch⟩)
  have hg1 := ha.no c0
  have a1 := ha.write ((1 + (h + 1) % 2 : Nat) : Int) (sealL key boot 0 (textL (h + 1)) (D.cut c).size.toNat)
  by_cases c1 : c = 1
  · subst c1
    exact gone ((D.cut 1).write ((1 + (h + 1) % 2 : Nat) : Int) (sealL key boot 0 (textL (h + 1)) (D.cut 1).size.toNat)).dead (n + 1) (by omega) ((hH.lt.cut 1).write _ _).dead (fun W0 _ hi0 hp0 => c_commitNo2 hp0 hi0 (by omega) hgb 1 (h + 1) hg1 a1.yes (by decide) (by omega) (by decide) hs) (fun ch hf => hH.loose (by omega) 1 hf)
  have hg2 := a1.no (by split <;> omega)
  refine (px_tryOk (n' := n + 2) (D' := comD (D.cut c) key boot 0 1 (h + 1)) (X := [g, g13]) (R := fun w => PenAt w g b key boot 1 ∧ Row w g13 #[.bool true] 4) (fun _ => by kernel_rfl) hI hX (fun w v hr hp => ?_) fun W0 hb0 => ?_).mono ?_
  · exact ⟨hp.1.set v (by omega), hp.2.set_other 0 v (by omega)⟩
  · exact hold_ok (hI.below hb0) hn (hP.below hb0 hltW) (r10.below hb0 r10.lt) h hh (r11.below hb0 r11.lt) (r13.below hb0 h13W) hgb h13 hg13 hs hg1 hg2
  · rintro e w' ⟨rfl, hi, hpx, hp, s13⟩
    exact ⟨true, true, _, rfl, hi, hpx, hp, s13, fun _ => rfl, ((hH.lt.cut c).write _ _).flush, fun ch _ => ⟨h + 1, .inr rfl, fun _ => rfl, hH.done (by omega) c ch⟩⟩
end Go.Proofs.Ytmdmhjcdaejlkaa
