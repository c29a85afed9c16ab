/- Epochs on the device: plain laws of what is committed. -/
import Derived.Test.YtmdmhjcdaejlkaaSuprC
import Derived.Test.YtmdmhjcdaejlkaaBlankP
set_option linter.unusedVariables false
namespace Go.Proofs.Ytmdmhjcdaejlkaa

variable {D : Dk} {key : List UInt8} {boot seq at_ e s : Nat}
theorem comD_size : (comD D key boot seq at_ e).size = D.size := by unfold comD; exact write_size _ _ _
theorem comD_blocks : (comD D key boot seq at_ e).blocks = D.blocks := by unfold comD; exact write_blocks _ _ _
theorem comD_has (q : Int) : (comD D key boot seq at_ e).has q = D.has q := by unfold Dk.has; rw [comD_blocks]
theorem comD_free (h : Free D) : Free (comD D key boot seq at_ e) := (h.write _ _).flush
theorem flush_at (D : Dk) (q : Int) : D.flush.at_ D.flush.now q = D.at_ D.now q := rfl
theorem write_at_ne {D : Dk} {p q : Int} {X : List UInt8} (h : q ≠ p) : (D.write p X).at_ (D.write p X).now q = D.at_ D.now q := by
  unfold Dk.at_
  rw [write_has, write_size]
  by_cases hp : D.has p = true
  · rw [write_now hp]
    simp only [h, if_false]
  · have : (D.write p X).now = D.now := by unfold Dk.write; rw [if_neg hp]; rfl
    rw [this]
theorem com_at (hs : D.size = (s : Int)) (hs1 : 35 ≤ s) (hq : D.has ((at_ + e % 2 : Nat) : Int) = true) : (comD D key boot seq at_ e).at_ (comD D key boot seq at_ e).now ((at_ + e % 2 : Nat) : Int) = sealL key boot seq (textL e) s := by
  have hl : (sealL key boot seq (textL e) s).length = s := sealL_length (by rw [textL_length]; omega)
  unfold comD
  rw [flush_at, hs, Int.toNat_natCast]
  exact seal_at hq hs hl
theorem com_at_ne {q : Int} (h : q ≠ ((at_ + e % 2 : Nat) : Int)) : (comD D key boot seq at_ e).at_ (comD D key boot seq at_ e).now q = D.at_ D.now q := by
  unfold comD
  rw [flush_at]
  exact write_at_ne h
theorem epAt_com (hs : D.size = (s : Int)) (hs1 : 35 ≤ s) (hs2 : s ≤ 60000) (hq : D.has ((at_ + e % 2 : Nat) : Int) = true) (he : e < 18446744073709551616) (i : Nat) :
    epAt key (comD D key boot seq at_ e) (at_ : Int) i = if i = e % 2 then some e else epAt key D (at_ : Int) i := by
  unfold epAt
  by_cases h : i = e % 2
  · subst h
    rw [if_pos rfl, show (at_ : Int) + ((e % 2 : Nat) : Int) = ((at_ + e % 2 : Nat) : Int) by omega, com_at hs hs1 hq, openL_sealL (by rw [textL_length]; omega) (by omega)]
    exact epN_text he rfl
  · rw [if_neg h, com_at_ne (by omega)]
theorem openL_nil (key : List UInt8) : openL key [] = none := by unfold openL; exact if_neg (fun h => by have := h.1; simp at this)
theorem fresh_at {bl : Int} {s : Nat} (hs : s ≤ 60000) (q : Int) : (dkNew bl s).at_ (dkNew bl s).now q = [] ∨ (dkNew bl s).at_ (dkNew bl s).now q = List.replicate s 0 := by
  by_cases h : (dkNew bl s).has q = true
  · right
    rw [at_yes h]
    show fitL (min (max (s : Int) 0) 60000) [] = _
    rw [fitL_nil, show (min (max (s : Int) 0) 60000).toNat = s by omega]
  · left
    exact at_not (by simpa using h) _
theorem epAt_fresh {bl : Int} {s : Nat} (hs : s ≤ 60000) (hb : openL key (List.replicate s 0) = none) (a : Int) (i : Nat) : epAt key (dkNew bl s) a i = none := by
  apply epAt_none
  rcases fresh_at (bl := bl) hs (a + (i : Int)) with h | h
  · rw [h]; exact openL_nil key
  · rw [h]; exact hb
theorem epAt_reads (a b : Int) (n i : Nat) : epAt key (readsD D a n) b i = epAt key D b i := by unfold epAt; rw [readsD_at]
theorem reads_size (D : Dk) (a : Int) (n : Nat) : (readsD D a n).size = D.size := by
  induction n with
  | zero => rfl
  | succ n ih => exact ih
theorem reads_blocks (D : Dk) (a : Int) (n : Nat) : (readsD D a n).blocks = D.blocks := by
  induction n with
  | zero => rfl
  | succ n ih => exact ih
theorem reads_has (D : Dk) (a : Int) (n : Nat) (q : Int) : (readsD D a n).has q = D.has q := by unfold Dk.has; rw [reads_blocks]
end Go.Proofs.Ytmdmhjcdaejlkaa
