/- Epochs on the device: plain laws. -/
import Derived.Test.YtmdmhjcdaejlkaaSuprB
set_option linter.unusedVariables false
namespace Go.Proofs.Ytmdmhjcdaejlkaa

/-- the number that a text tells -/
def nOf (b : List UInt8) : Nat := leN ((b.drop (min b.length 5)).take 8)
/-- a text's epoch, at the i-th place; none: it is none of that place -/
def epN (b : List UInt8) (i : Nat) : Option Nat := if b = textL (nOf b) ∧ nOf b % 2 = i then some (nOf b) else none
theorem nOf_text {e : Nat} (h : e < 18446744073709551616) : nOf (textL e) = e := by
  unfold nOf
  rw [textL_length, show min 13 5 = 5 from rfl]
  unfold textL
  rw [show ([101, 112, 111, 99, 104] ++ leP e 8 : List UInt8).drop 5 = leP e 8 from List.drop_left' (by rfl), List.take_of_length_le (by rw [leP_length]; exact Nat.le_refl _), leN_leP64 e h]
theorem epN_text {e i : Nat} (h : e < 18446744073709551616) (hi : e % 2 = i) : epN (textL e) i = some e := by
  unfold epN
  rw [nOf_text h]
  exact if_pos ⟨rfl, hi⟩
theorem epN_some {b : List UInt8} {i e : Nat} (h : epN b i = some e) : b = textL e ∧ e % 2 = i := by
  unfold epN at h
  split at h
  · rename_i hc
    cases h
    exact hc
  · cases h
/-- the epoch that stands at the i-th place, under a key -/
def epAt (key : List UInt8) (D : Dk) (at_ : Int) (i : Nat) : Option Nat := (openL key (D.at_ D.now (at_ + (i : Int)))).bind fun b => epN b i
/-- the greater of two that may be none -/
def maxO : Option Nat → Option Nat → Option Nat
  | none, y => y
  | x, none => x
  | some x, some y => some (max x y)
/-- the epoch that holds -/
def epLast (key : List UInt8) (D : Dk) (at_ : Int) : Option Nat := maxO (epAt key D at_ 0) (epAt key D at_ 1)
end Go.Proofs.Ytmdmhjcdaejlkaa
