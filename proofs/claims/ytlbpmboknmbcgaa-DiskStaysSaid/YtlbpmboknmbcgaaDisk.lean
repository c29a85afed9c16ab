/- The device in memory: what stands where. -/
import Derived.Test.YtlbpmboknmbcgaaDR
set_option linter.unusedVariables false
set_option linter.unusedSimpArgs false
namespace Go.Proofs.Ytlbpmboknmbcgaa
open Go.RowKit

/-- an event that was noted -/
structure Ev where
  (kind at_ : Int)
  head : List UInt8
  body : List UInt8
/-- the device as data -/
structure Dk where
  (blocks size : Int)
  (stable now : Int → List UInt8)
  (cS cN : Nat)
  loose : List (Int × List UInt8)
  after : Int
  off : Bool
  trace : List Ev
/-- the types that the device writes -/
def dTy : List TypeId := [82, 85, 32]
/-- a map of slices reads as the blocks 'm' (no bytes where nothing stands) -/
structure MapB (W : World) (base b n : Nat) (m : Int → List UInt8) : Prop where
  mk :: (out : ∃ f, MapI W b n f ∧ ∀ i, BytesAt W base (f i) (m i))
theorem MapB.keep {base b n : Nat} {m : Int → List UInt8} {W W' : World} (h : MapB W base b n m) (hd : DR dTy base W W') (he : W'.heap[b]? = W.heap[b]?) : MapB W' base b n m := by
  obtain ⟨f, hf, hb⟩ := h.out
  exact ⟨f, hf.below he, fun i => (hb i).keep hd (by decide)⟩
/-- rows of a place and a block's bytes -/
def LooseAt (W : World) (base : Nat) (v : Value) (l : List (Int × List UInt8)) : Prop :=
  ∃ vs : List Value, vs.length = l.length ∧ (∀ (k : Nat) u x, vs[k]? = some u → l[k]? = some x → BytesAt W base u x.2) ∧
    W.ownsRow base 85 2 v l.length ((l.zip vs).flatMap fun p => [.int .i64 p.1.1, p.2])
def evCells (e : Ev) (u : Value) : List Value := [.int .i64 e.kind, .int .i64 e.at_] ++ bv e.head ++ [u]
def TraceAt (W : World) (base : Nat) (v : Value) (l : List Ev) : Prop :=
  ∃ vs : List Value, vs.length = l.length ∧ (∀ (k : Nat) u x, vs[k]? = some u → l[k]? = some x → BytesAt W base u x.body ∧ x.head.length = 12) ∧
    W.ownsRow base 32 15 v l.length ((l.zip vs).flatMap fun p => evCells p.1 p.2)
/-- the device's struct lies at block b, all that it owns from 'base' on -/
structure DiskAt (W : World) (base b : Nat) (D : Dk) : Prop where
  mk :: (out : ∃ mS mN lv tv, Row W b #[.int .i64 D.blocks, .int .i64 D.size, .map (some mS), .map (some mN), lv, .int .i64 D.after, .bool D.off, tv] 82 ∧ base ≤ b ∧ base ≤ mS ∧ base ≤ mN ∧ mS ≠ mN ∧
    MapB W base mS D.cS D.stable ∧ MapB W base mN D.cN D.now ∧ LooseAt W base lv D.loose ∧ TraceAt W base tv D.trace)
end Go.Proofs.Ytlbpmboknmbcgaa
