/- RingForms: its closure, its device. -/
import Derived.Test.YtmdmhjcdaejlkaaGT
import Derived.Test.YtmdmhjcdaejlkaaBlank10
import Derived.Lib.AppendStr
set_option linter.unusedVariables false
set_option linter.unusedSimpArgs false
namespace Go.Proofs.Ytmdmhjcdaejlkaa
open Go.RowKit

set_option maxHeartbeats 2000000 in
set_option maxRecDepth 100000 in
theorem c_lay (e n : Nat) (s : List UInt8) (sb : ByteArray) (hsb : Go.Lib.strCells sb = bv s) (hss : sb.size = s.length) (hs1 : s.length ≤ 10) (w : World) :
    Calls Try.prog 39 #[.int .u64 (e : Int), .int .u64 (n : Int), .string sb] w fun x w' => ∃ v, x = .returned v ∧ OwnB w' w.heap.size 5 v (rhL e n ++ s) ∧ Below w.heap.size w w' := by
  obtain ⟨i, hi, hz, hs, hby⟩ := info_parts8
  have H1 := Lib.hid (fun W => c_rPut8 e W)
  have H2 := Lib.hid (fun W => c_rPut4 n W)
  have HI := Lib.hid (And.intro hi (And.intro hz (And.intro hs hby)))
  have HSB := Lib.hid (And.intro hsb hss)
  clear hi hz hs hby hsb hss
  go_enter Try.func39, Try.ntmps39
  go_wp2_with fail
  refine (H1.out _).mono ?_
  rintro x w1 ⟨A1, c1, rfl, lc1, ho1, hr1, hb1⟩
  go_wp2_with fail
  refine (H2.out _).mono ?_
  rintro x w2 ⟨A2, c2, rfl, lc2, ho2, hr2, hb2⟩
  have ho1' := ho1.below hb2
  have hB2 := below_two hb1 hb2
  clear ho1 ho2 hr1 hb1 hb2 H1 H2
  go_wp2_with (first | (at_builtin; refine wpl_cat (w0 := w) rfl _ _ 24 rfl w.heap.size 5 Try.underlying24 info_u8 ho1' rfl hr2 rfl hB2 hB2.size (by rw [leP_length]; decide) ?_; intro v3 w3 ho3 hb3 _ _; try simp only [Act.put]) | (at_builtin; refine Go.Lib.wpList_append_own_string w3 rfl _ _ 24 9 rfl w.heap.size 5 i Try.underlying24 Try.underlying9 HI.out.1 HI.out.2.1 HI.out.2.2.1 HI.out.2.2.2 v3 12 (bv (leP e 8 ++ leP n 4)) rfl (by have := ho3; unfold OwnB at this; rw [List.length_append, leP_length, leP_length] at this; exact this) sb rfl (by rw [HSB.out.2]; unfold maxLen; omega) (by rw [HSB.out.2]; omega) hb3.size ?_; intro v4 w4 ho4 hg4 _; try simp only [Act.put]))
  go_ret
  refine ⟨v4, rfl, ?_, hb3.grown hg4 hb3.size (own_base ho3)⟩
  unfold OwnB rhL
  rw [HSB.out.1, HSB.out.2, ← bv_append] at ho4
  rw [List.length_append, List.length_append, leP_length, leP_length]
  exact ho4
/-- the device with three records, the middle one turned -/
structure Rf (key : List UInt8) (D : Dk) (e : Nat) (X : Option (List UInt8)) : Prop where
  fr : Free D
  sz : D.size = ((60 : Nat) : Int)
  bl : D.blocks = 5
  t0 : txA key D 1 0 = some (rhL e 0 ++ [97])
  t1 : txA key D 1 1 = X
  t2 : txA key D 1 2 = some (rhL e 2 ++ [99])
theorem Rf.reads {key : List UInt8} {D : Dk} {e : Nat} {X : Option (List UInt8)} (h : Rf key D e X) (a : Int) (n : Nat) : Rf key (readsD D a n) e X :=
  ⟨h.fr.reads _ _, by rw [reads_size]; exact h.sz, by rw [reads_blocks]; exact h.bl, by rw [txA_reads]; exact h.t0, by rw [txA_reads]; exact h.t1, by rw [txA_reads]; exact h.t2⟩
/-- three records, one behind the other -/
theorem rf_add {key : List UInt8} {D0 : Dk} {e : Nat} (h0 : Free D0) (hs : D0.size = ((60 : Nat) : Int)) (hb : D0.blocks = 5) : Rf key (addWr (addWr (addWr D0 key 1 0 1 0 e [97]).flush key 1 (0 + 1) 1 (0 + 1) e [98]).flush key 1 (0 + 1 + 1) 1 (0 + 1 + 1) e [99]).flush e (some (rhL e 1 ++ [98])) := by
  have g0 : D0.has ((1 + 0 : Nat) : Int) = true := has_true (by decide) (by rw [hb]; decide)
  have a1 := fun i => txA_add (key := key) (boot := 1) (seq := 0) (at_ := 1) (n := 0) (epoch := e) (rec := [97]) hs (by decide) (by rw [hs]; decide) g0 i
  have s1 := (add_size (D := D0) (key := key) (boot := 1) (seq := 0) (at_ := 1) (n := 0) (epoch := e) (rec := [97])).trans hs
  have b1 := (add_blocks (D := D0) (key := key) (boot := 1) (seq := 0) (at_ := 1) (n := 0) (epoch := e) (rec := [97])).trans hb
  have f1 := add_free (key := key) (boot := 1) (seq := 0) (at_ := 1) (n := 0) (epoch := e) (rec := [97]) h0
  generalize (addWr D0 key 1 0 1 0 e [97]).flush = D1 at *
  have g1 : D1.has ((1 + (0 + 1) : Nat) : Int) = true := has_true (by decide) (by rw [b1]; decide)
  have a2 := fun i => txA_add (key := key) (boot := 1) (seq := 0 + 1) (at_ := 1) (n := 0 + 1) (epoch := e) (rec := [98]) s1 (by decide) (by rw [s1]; decide) g1 i
  have s2 := (add_size (D := D1) (key := key) (boot := 1) (seq := 0 + 1) (at_ := 1) (n := 0 + 1) (epoch := e) (rec := [98])).trans s1
  have b2 := (add_blocks (D := D1) (key := key) (boot := 1) (seq := 0 + 1) (at_ := 1) (n := 0 + 1) (epoch := e) (rec := [98])).trans b1
  have f2 := add_free (key := key) (boot := 1) (seq := 0 + 1) (at_ := 1) (n := 0 + 1) (epoch := e) (rec := [98]) f1
  generalize (addWr D1 key 1 (0 + 1) 1 (0 + 1) e [98]).flush = D2 at *
  have g2 : D2.has ((1 + (0 + 1 + 1) : Nat) : Int) = true := has_true (by decide) (by rw [b2]; decide)
  have a3 := fun i => txA_add (key := key) (boot := 1) (seq := 0 + 1 + 1) (at_ := 1) (n := 0 + 1 + 1) (epoch := e) (rec := [99]) s2 (by decide) (by rw [s2]; decide) g2 i
  refine ⟨add_free f2, add_size.trans s2, add_blocks.trans b2, ?_, ?_, ?_⟩
  · rw [a3, if_neg (by decide), a2, if_neg (by decide), a1, if_pos rfl]
  · rw [a3, if_neg (by decide), a2, if_pos rfl]
  · rw [a3, if_pos rfl]
/-- the middle place, written otherwise -/
theorem Rf.mid {key : List UInt8} {D : Dk} {e : Nat} {X : Option (List UInt8)} (h : Rf key D e X) (boot seq : Nat) {Y : List UInt8} (hY : Y.length ≤ 38) : Rf key (D.write 2 (sealL key boot seq Y 60)) e (some Y) := by
  have hl : (sealL key boot seq Y 60).length = 60 := sealL_length (by omega)
  have hh : D.has 2 = true := has_true (by decide) (by rw [h.bl]; decide)
  have hat := seal_at (D := D) (q := 2) (s := 60) hh h.sz hl
  have ho := openL_sealL (key := key) (boot := boot) (seq := seq) (plain := Y) (size := 60) (by omega) (by decide)
  generalize sealL key boot seq Y 60 = B at *
  refine ⟨h.fr.write _ _, by rw [write_size]; exact h.sz, by rw [write_blocks]; exact h.bl, ?_, ?_, ?_⟩
  · rw [← h.t0]; unfold txA; rw [write_at_ne (by decide)]
  · unfold txA; rw [show ((1 : Nat) : Int) + ((1 : Nat) : Int) = 2 from rfl, hat]; exact ho
  · rw [← h.t2]; unfold txA; rw [write_at_ne (by decide)]
/-- what is loaded where the middle one is of its place -/
theorem Rf.load3 {key : List UInt8} {D : Dk} {e : Nat} {x : List UInt8} (h : Rf key D e (some (rhL e 1 ++ x))) (he : e < 18446744073709551616) : loadN key D ((1 : Nat) : Int) e 3 = [[97], x, [99]] := by
  have := load_full (key := key) (D := D) (at_ := 1) (e := e) (l := [[97], x, [99]]) (fun j y hj => by
    rw [recA_tx]
    match j, hj with
    | 0, hj => cases hj; rw [h.t0]; exact (recN_rh he he (by decide) (by decide) _).trans (if_pos ⟨rfl, rfl⟩)
    | 1, hj => cases hj; rw [h.t1]; exact (recN_rh he he (by decide) (by decide) _).trans (if_pos ⟨rfl, rfl⟩)
    | 2, hj => cases hj; rw [h.t2]; exact (recN_rh he he (by decide) (by decide) _).trans (if_pos ⟨rfl, rfl⟩)
    | j + 3, hj => simp at hj) 3 (by simp)
  rw [this]; rfl
/-- where it is none of its place -/
theorem Rf.load1 {key : List UInt8} {D : Dk} {e : Nat} {X : List UInt8} (h : Rf key D e (some X)) (he : e < 18446744073709551616) (hX : recN X e 1 = none) : loadN key D ((1 : Nat) : Int) e 3 = [[97]] := by
  have := load_pre (key := key) (D := D) (at_ := 1) (e := e) (l := [[97]]) (fun j y hj => by
    rw [recA_tx]
    match j, hj with
    | 0, hj => cases hj; rw [h.t0]; exact (recN_rh he he (by decide) (by decide) _).trans (if_pos ⟨rfl, rfl⟩)
    | j + 1, hj => simp at hj) (by rw [recA_tx]; show (txA key D 1 1).bind _ = none; rw [h.t1]; exact hX) 3
  rw [this]; rfl
/-- with noughts at the first place nothing is loaded -/
theorem load_nought {key : List UInt8} {D : Dk} {e : Nat} (hs : D.size = ((60 : Nat) : Int)) (hb : D.blocks = 5) (hn : openL key (List.replicate 60 0) = none) : loadN key (D.write 1 (List.replicate 60 0)) ((1 : Nat) : Int) e 3 = [] := by
  have hh : D.has 1 = true := has_true (by decide) (by rw [hb]; decide)
  have hat := seal_at (D := D) (q := 1) (s := 60) hh hs (B := List.replicate 60 0) (by simp)
  have := load_pre (key := key) (D := D.write 1 (List.replicate 60 0)) (at_ := 1) (e := e) (l := []) (fun j y hj => by simp at hj) (by
    rw [recA_tx]
    have t : txA key (D.write 1 (List.replicate 60 0)) 1 0 = none := by unfold txA; rw [show ((1 : Nat) : Int) + ((0 : Nat) : Int) = 1 from rfl, hat]; exact hn
    show (txA key (D.write 1 (List.replicate 60 0)) 1 0).bind _ = none
    rw [t]; rfl) 3
  rw [this]; simp
end Go.Proofs.Ytmdmhjcdaejlkaa
