/- supr.Commit. -/
import Derived.Test.YtmdmhjcdaejlkaaSuprA
set_option linter.unusedVariables false
set_option linter.unusedSimpArgs false
namespace Go.Proofs.Ytmdmhjcdaejlkaa
open Go.RowKit

/-- an epoch, sealed at its place, flushed -/
def comD (D : Dk) (key : List UInt8) (boot seq at_ e : Nat) : Dk := (D.write ((at_ + e % 2 : Nat) : Int) (sealL key boot seq (textL e) D.size.toNat)).flush
variable {W : World} {g b base n : Nat} {key : List UInt8} {boot seq : Nat} {D : Dk}
set_option maxHeartbeats 4000000 in
set_option maxRecDepth 100000 in
theorem c_commit (hP : PenAt W g b key boot seq) (hI : In W base b D n) (hn : n ≤ 700000) (hgb : base ≤ g) (hfr : Free D) (at_ e : Nat) (hat : at_ ≤ 1000) (he : e < 18446744073709551616) (hq : seq < 18446744073709551615) (hs : 35 ≤ D.size) :
    Calls Try.prog 32 #[.pointer (some ⟨g, 0, none⟩), .int .i64 (at_ : Int), .int .u64 (e : Int)] W fun r w' => r = .returned (.bool true) ∧ In w' base b (comD D key boot seq at_ e) (n + 2) ∧ PenAt w' g b key boot (seq + 1) ∧ PR g base W w' := by
  have HT := Lib.hid (c_text e W)
  have hglt := hP.lt
  have hle := hI.le
  have hlt := textL_length e
  have HLT := Lib.hid hlt
  obtain ⟨r2, hr2⟩ : ∃ r2 : Nat, e % 2 = r2 := ⟨_, rfl⟩
  have hr21 : r2 ≤ 1 := by omega
  have hr3 : (e : Int) % 2 = (r2 : Int) := by omega
  have hr4 : (e : Int).tmod 2 = (r2 : Int) := by rw [Int.tmod_eq_emod_of_nonneg (by omega)]; exact hr3
  obtain ⟨q, hqq⟩ : ∃ q : Nat, at_ + r2 = q := ⟨_, rfl⟩
  have hqi : (at_ : Int) + (r2 : Int) = (q : Int) := by omega
  have hwq : IntKind.i64.wrap (q : Int) = (q : Int) := IntWalk.i64_in _ (by omega)
  have hwr : IntKind.i64.wrap (r2 : Int) = (r2 : Int) := IntWalk.i64_in _ (by omega)
  have hcd : comD D key boot seq at_ e = (D.write (q : Int) (sealL key boot seq (textL e) D.size.toNat)).flush := by unfold comD; rw [hr2, hqq]
  rw [hcd]
  have hS1 := hI.bd.hi
  have hff : fitsB 13 D.size = true := by rw [fitsB_iff]; omega
  have HPW := Lib.hid (fun w' (A : Option Addr) (c : Nat) (hb : Below W.heap.size W w') (hR : RdB w' A 13 (textL e)) => p_write (hP.below hb hglt) (hI.below hb) (by omega) hgb hfr.goes (q : Int) (wf_i64 (by omega) (by omega)) A 13 c (textL e) hR (Nat.zero_le _) hq true hff)
  simp only [if_true] at HPW
  have hfr2 : Free (D.write (q : Int) (sealL key boot seq (textL e) D.size.toNat)) := hfr.write _ _
  clear hr2 hqq hcd hff hlt he hq hP hI hfr
  generalize D.write (q : Int) (sealL key boot seq (textL e) D.size.toNat) = D1 at *
  have HFL := Lib.hid (fun w' (hP : PenAt w' g b key boot (seq + 1)) (hI : In w' base b D1 (n + 1)) => p_flush hP hI (by omega) hfr2.goes)
  go_enter Try.func32, Try.ntmps32
  go_wp2_with (first | (go_at_call 70; (with_reducible refine HT.out.mono ?_); rintro r w1 ⟨v1, rfl, ho1, hb1⟩; (obtain ⟨A1, c1, rfl, -, -, hr1⟩ := ho1.form); (rw [HLT.out] at hr1 ⊢)) | (go_at_call 19; (with_reducible refine (HPW.out _ A1 c1 hb1 hr1).mono ?_); rintro r w2 ⟨rfl, hI2, hP2, hp2⟩) | (go_at_call 28; (with_reducible refine (HFL.out _ hP2 hI2).mono ?_); rintro r w3 ⟨rfl, hI3, hd3⟩))
  go_ret
  exact ⟨rfl, hI3, hP2.dr hd3, ((PR.of_dr g (DR.of_below (S := dTy) hb1 hle)).trans hp2).trans (PR.of_dr g hd3)⟩
end Go.Proofs.Ytmdmhjcdaejlkaa
