/- BootRises: the closure, and Try over it. -/
import Derived.Test.YtlbpmboknmbcgaaRiseP
set_option linter.unusedVariables false
set_option linter.unusedSimpArgs false
namespace Go.Proofs.Ytlbpmboknmbcgaa
open Go.RowKit

theorem In.monoR {W : World} {base b n m : Nat} {D : Dk} (h : In W base b D n) (hn : n ≤ m) : In W base b D m := ⟨h.dk, h.le, h.bd.mono hn⟩
structure Af (D : Dk) (x : Int) : Prop where
  off : D.off = false
  af : D.after = x
theorem Af.no {D : Dk} {x : Int} (h : Af D x) (hx : x ≠ 0) : D.goes = false := by
  unfold Dk.goes; rw [h.off, h.af]; simp [hx]
theorem Af.yes {D : Dk} (h : Af D 0) : D.goes = true := by unfold Dk.goes; rw [h.off, h.af]; rfl
theorem Af.read {D : Dk} {x : Int} (h : Af D x) (a : Int) : Af (D.read a) (if 0 < x then x - 1 else x) := ⟨rfl, by show (if 0 < D.after then D.after - 1 else D.after) = _; rw [h.af]⟩
theorem Af.write {D : Dk} {x : Int} (h : Af D x) (a : Int) (xs : List UInt8) : Af (D.write a xs) (if 0 < x then x - 1 else x) := by
  unfold Dk.write
  split
  · exact ⟨rfl, by show (if 0 < D.after then D.after - 1 else D.after) = _; rw [h.af]⟩
  · exact ⟨rfl, by show (if 0 < D.after then D.after - 1 else D.after) = _; rw [h.af]⟩
theorem Af.bump {D : Dk} {x : Int} (h : Af (look D ((0 : Nat) : Int)) x) : Af (bumpW D 0) (if 0 < x then x - 1 else x) := h.write _ _
theorem Ri.cut {D : Dk} {L : Nat} (h : Ri D L) (c : Int) (hc : -1 ≤ c) : Af (D.cut c) c := ⟨h.fr.off, by show max c (-1) = c; omega⟩
variable {W : World} {base b n g5 g8 g9 : Nat} {D : Dk}
set_option maxHeartbeats 1000000 in
set_option maxRecDepth 100000 in
theorem rise_ok (h : In W base b D n) (hn : n ≤ 800000) (r5 : Row W g5 #[.pointer (some ⟨b, 0, none⟩)] 23) (r8 : Row W g8 #[.int .u32 0] 49) (r9 : Row W g9 #[.int .i64 0] 65) (h8 : base ≤ g8) (h9 : base ≤ g9) (h89 : g8 ≠ g9)
    (hg : D.goes = false) (hg2 : (D.read ((0 : Nat) : Int)).goes = false) (L : Nat) (hL : lastN D 0 = L) (hm : L < 4294967295) (hg3 : (look D ((0 : Nat) : Int)).goes = false) (hg4 : (bumpW D 0).goes = false) :
    Calls Try.prog 60 #[.pointer (some ⟨g5, 0, none⟩), .pointer (some ⟨g8, 0, none⟩), .pointer (some ⟨g9, 0, none⟩)] W fun e w' => e = .returned (.tuple #[]) ∧ In w' base b (bumpW D 0).flush (n + 4) ∧ Row w' g8 #[.int .u32 ((L + 1 : Nat) : Int)] 49 ∧ Row w' g9 #[.int .i64 0] 65 ∧ Below base W w' ∧
      ∀ k c T, Row W k c T → k ≠ g8 → k ≠ g9 → T ∉ dTy → Row w' k c T := by
  have c5 := r5.cell 0 rfl
  have HB := Lib.hid (c_bumpOk h hn 0 (by omega) hg hg2 (show lastN D 0 < _ by rw [hL]; exact hm) hg3 hg4)
  have HL := Lib.hid hL
  clear hg hg2 hL hg3 hg4 hm
  go_enter Try.func60, Try.ntmps60
  go_wp2_with fail
  refine HB.out.mono ?_
  rintro e w1 ⟨rfl, hI, hd⟩
  rw [show lastN D ((0 : Nat)) = L from HL.out]
  obtain ⟨y, hy⟩ : ∃ y : Int, ((L + 1 : Nat) : Int) = y := ⟨_, rfl⟩
  rw [hy]
  have HY := Lib.hid hy
  clear hy
  have q8 := r8.dr hd (by decide)
  have q9 := r9.dr hd (by decide)
  have c8 := q8.cell 0 rfl
  have z8 := q8.free 0
  have p9 := q9.set_other 0 (.int .u32 y) (Ne.symm h89)
  have c9 := p9.cell 0 rfl
  have z9 := p9.free 0
  have c9' := q9.cell 0 rfl
  have z9' := q9.free 0
  have hI2 := (hI.set (j := 0) q8 (.int .u32 y) (by decide) h8)
  have hI3 := (hI2.set (j := 0) p9 (.int .i64 0) (by decide) h9)
  have s8 := (q8.set 0 (.int .u32 y)).set_other 0 (.int .i64 0) h89
  have s9 := p9.set 0 (.int .i64 0)
  have hB : Below base W ((w1.setCell ⟨g8, 0, none⟩ (.int .u32 y)).setCell ⟨g9, 0, none⟩ (.int .i64 0)) := (hd.below.setCell (p := ⟨g8, 0, none⟩) h8 _).setCell (p := ⟨g9, 0, none⟩) h9 _
  have hK : ∀ k c T, Row W k c T → k ≠ g8 → k ≠ g9 → T ∉ dTy → Row ((w1.setCell ⟨g8, 0, none⟩ (.int .u32 y)).setCell ⟨g9, 0, none⟩ (.int .i64 0)) k c T := fun k c T hr h1 h2 hT => ((hr.dr hd hT).set_other 0 _ h1).set_other 0 _ h2
  have H := Lib.hid (And.intro hI3 (And.intro s8 (And.intro s9 (And.intro hB hK))))
  clear hI hI2 hI3 s8 s9 hB hK hd r5 r8 r9 q8 q9 p9 HB HL
  go_wp2
  exact ⟨rfl, _, by simp [results, Try.results60], rfl, by rw [HY.out]; exact H.out⟩
theorem rise_no (h : In W base b D n) (r5 : Row W g5 #[.pointer (some ⟨b, 0, none⟩)] 23) {n' : Nat} {D' : Dk}
    (hc : Calls Try.prog 51 #[.pointer (some ⟨b, 0, none⟩), .int .i64 0] W fun e w' => e = gonePanic ∧ In w' base b D' n' ∧ DR dTy base W w') :
    Calls Try.prog 60 #[.pointer (some ⟨g5, 0, none⟩), .pointer (some ⟨g8, 0, none⟩), .pointer (some ⟨g9, 0, none⟩)] W fun e w' => e = gonePanic ∧ In w' base b D' n' ∧ DR dTy base W w' := by
  have c5 := r5.cell 0 rfl
  have HC := Lib.hid hc
  clear hc
  go_enter Try.func60, Try.ntmps60
  go_wp2_with fail
  refine HC.out.mono ?_
  rintro e w' ⟨rfl, h1, h2⟩
  exact ⟨rfl, rfl, h1, h2⟩
set_option maxHeartbeats 8000000 in
/-- Try over the closure: whatever the cut -/
theorem rise_try (c : Int) (hc1 : -1 ≤ c) (L : Nat) (hR : Ri D L) (hL : L < 4294967295) (h : In W base b (D.cut c) n) (hn : n ≤ 800000) (r5 : Row W g5 #[.pointer (some ⟨b, 0, none⟩)] 23) (r8 : Row W g8 #[.int .u32 0] 49) (r9 : Row W g9 #[.int .i64 0] 65) (h8 : base ≤ g8) (h9 : base ≤ g9) (h89 : g8 ≠ g9) :
    Calls Try.prog 25 #[.func (Fn.func 60) #[] #[.pointer (some ⟨g5, 0, none⟩), .pointer (some ⟨g8, 0, none⟩), .pointer (some ⟨g9, 0, none⟩)]] W fun e w' => ∃ (r : Bool) (nv : Nat) (D' : Dk),
      e = .returned (.bool r) ∧ In w' base b D' (n + 4) ∧ Row w' g5 #[.pointer (some ⟨b, 0, none⟩)] 23 ∧ Row w' g8 #[.int .u32 (nv : Int)] 49 ∧ Row w' g9 #[.int .i64 0] 65 ∧ Below base W w' ∧ (r = true → nv = L + 1) ∧
      ∀ ch, ∃ L', L ≤ L' ∧ L' ≤ L + 1 ∧ (r = true → L' = L + 1) ∧ Ri (D'.crash ch) L' := by
  have ha := hR.cut c hc1
  have hla : lastN (D.cut c) 0 = L := hR.la
  have hb5 := r5.lt
  have hb8 := r8.lt
  have hb9 := r9.lt
  have gone : ∀ (D' : Dk) (n' : Nat), n' ≤ n + 4 → (∀ W0, Below W.heap.size W W0 → In W0 base b (D.cut c) n → Calls Try.prog 51 #[.pointer (some ⟨b, 0, none⟩), .int .i64 0] W0 fun e w' => e = gonePanic ∧ In w' base b D' n' ∧ DR dTy base W0 w') →
      (∀ ch, ∃ L', L ≤ L' ∧ L' ≤ L + 1 ∧ Ri (D'.crash ch) L') → Calls Try.prog 25 #[.func (Fn.func 60) #[] #[.pointer (some ⟨g5, 0, none⟩), .pointer (some ⟨g8, 0, none⟩), .pointer (some ⟨g9, 0, none⟩)]] W fun e w' => ∃ (r : Bool) (nv : Nat) (D' : Dk),
      e = .returned (.bool r) ∧ In w' base b D' (n + 4) ∧ Row w' g5 #[.pointer (some ⟨b, 0, none⟩)] 23 ∧ Row w' g8 #[.int .u32 (nv : Int)] 49 ∧ Row w' g9 #[.int .i64 0] 65 ∧ Below base W w' ∧ (r = true → nv = L + 1) ∧
      ∀ ch, ∃ L', L ≤ L' ∧ L' ≤ L + 1 ∧ (r = true → L' = L + 1) ∧ Ri (D'.crash ch) L' := by
    intro D' n' hn' hcall hch
    refine (i_tryGone (fun _ => by kernel_rfl) h fun W0 hb0 hi0 => rise_no hi0 (r5.below hb0 hb5) (hcall W0 hb0 hi0)).mono ?_
    rintro e w' ⟨rfl, hi, hd⟩
    refine ⟨false, 0, D', rfl, hi.monoR hn', r5.dr hd (by decide), r8.dr hd (by decide), r9.dr hd (by decide), hd.below, fun h => (by cases h), fun ch => ?_⟩
    obtain ⟨L', h1, h2, h3⟩ := hch ch
    exact ⟨L', h1, h2, fun h => (by cases h), h3⟩
  have keep : ∀ (D' : Dk), D'.stable = D.stable → D'.loose = [] → D'.blocks = D.blocks → D'.size = D.size → ∀ ch, ∃ L', L ≤ L' ∧ L' ≤ L + 1 ∧ Ri (D'.crash ch) L' := fun D' q1 q2 q3 q4 ch => ⟨L, by omega, by omega, hR.crash q1 q2 q3 q4 ch⟩
  by_cases c0 : c = 0
  · subst c0
    exact gone (D.cut 0).dead n (by omega) (fun W0 _ hi0 => c_bumpNo1 hi0 0 ha.yes) (keep _ rfl hR.lo rfl rfl)
  have hg1 := ha.no c0
  have a1 := ha.read ((0 : Nat) : Int)
  by_cases c1 : c = 1
  · subst c1
    exact gone ((D.cut 1).read ((0 : Nat) : Int)).dead (n + 1) (by omega) (fun W0 _ hi0 => c_bumpNo2 hi0 hn 0 (by omega) hg1 a1.yes) (keep _ rfl hR.lo rfl rfl)
  have hg2 : ((D.cut c).read ((0 : Nat) : Int)).goes = false := a1.no (by split <;> omega)
  have a2 := a1.read (((0 : Nat) : Int) + 1)
  by_cases c2 : c = 2
  · subst c2
    exact gone (look (D.cut 2) ((0 : Nat) : Int)).dead (n + 2) (by omega) (fun W0 _ hi0 => c_bumpNo3 hi0 hn 0 (by omega) hg1 hg2 (show lastN (D.cut 2) 0 < _ by rw [hla]; exact hL) a2.yes) (keep _ rfl hR.lo rfl rfl)
  have hg3 : (look (D.cut c) ((0 : Nat) : Int)).goes = false := a2.no (by split <;> split at * <;> omega)
  have a3 := Af.bump a2
  by_cases c3 : c = 3
  · subst c3
    exact gone (bumpW (D.cut 3) 0).dead (n + 3) (by omega) (fun W0 _ hi0 => c_bumpNo4 hi0 hn 0 (by omega) hg1 hg2 (show lastN (D.cut 3) 0 < _ by rw [hla]; exact hL) hg3 a3.yes) (fun ch => hR.loose hL 3 ch)
  have hg4 : (bumpW (D.cut c) 0).goes = false := a3.no (by split <;> split at * <;> split at * <;> omega)
  have hb0 := below_alloc (Below.refl W.heap.size W) (.cells #[.bool false] 4)
  have hr0 : Row (W.alloc (.cells #[.bool false] 4)) W.heap.size #[.bool false] 4 := Row.new _ _ _
  refine (c_tryOk W (fun w => In w base b (bumpW (D.cut c) 0).flush (n + 4) ∧ Row w g5 #[.pointer (some ⟨b, 0, none⟩)] 23 ∧ Row w g8 #[.int .u32 ((L + 1 : Nat) : Int)] 49 ∧ Row w g9 #[.int .i64 0] 65 ∧ Below base W w) (fun _ => by kernel_rfl) ((rise_ok (h.below hb0) hn (r5.alloc _) (r8.alloc _) (r9.alloc _) h8 h9 h89 hg1 hg2 L hla hL hg3 hg4).mono ?_)).mono ?_
  · rintro e w' ⟨rfl, hi, s8, s9, hB, hK⟩
    exact ⟨rfl, hK _ _ _ hr0 (by omega) (by omega) (by decide), hi, hK _ _ _ (r5.alloc _) (fun e => by subst e; have h1 := (r5.symm.trans r8); simp at h1) (fun e => by subst e; have h1 := (r5.symm.trans r9); simp at h1) (by decide), s8, s9, (hb0.mono h.le).trans hB⟩
  · rintro e w' ⟨rfl, w1, ⟨hi, s5, s8, s9, hB⟩, hr, rfl⟩
    refine ⟨true, L + 1, _, rfl, hi.set hr _ (by decide) h.le, s5.set_other 0 _ (by omega), s8.set_other 0 _ (by omega), s9.set_other 0 _ (by omega), hB.setCell (p := ⟨W.heap.size, 0, none⟩) h.le _, fun _ => rfl, fun ch => ⟨L + 1, by omega, by omega, fun _ => rfl, hR.done hL c ch⟩⟩
end Go.Proofs.Ytlbpmboknmbcgaa
