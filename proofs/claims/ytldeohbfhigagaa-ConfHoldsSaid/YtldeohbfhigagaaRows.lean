/-
  No cell of these rows narrows 'for every input' (looked for: loops, veiled, ifaces, maps, wideKeys, modest, calm, conditions, laid).
  DERIVED. THE GIVEN ROWS OF THIS SEAT. 12 by the template 'for every input the law returns true; each argument reads behind the call as it read before'; 0 by the template 'total and deterministic' (their statements: YtldeohbfhigagaaTotals.lean).
  GIVEN WITH THE SEED: the statements are not yours to turn. If you find one false, say at which input.
  Laid BY PROGRAM, IN A SANDBOX (cutbox-rows.mjs): the forced cells as the released guide's own fill.sh prints them over the translation f011fabd641d914b… (all of the seat's roots in one cut). By AI agents, Wed Nov 11 2026. No macro, syntax, notation, axiom, sorry.
-/
import Derived.Test.YtldeohbfhigagaaChecked
import GoSem.Claim
import GoSem.ClaimJoined
import GoSem.ClaimMapViews
import Derived.JoinedTies
import Derived.KernelRfl
namespace Go.Proofs.Ytldeohbfhigagaa
/- THE CELL 'sum', in the pinned program and in every row, IS THE sha256 OF THE DUMP (.gsa) THAT YtldeohbfhigagaaProg.lean LOADS. Nothing in Lean hashes anything: it is a label: what it is worth is what the hold of that sum in a sandbox is worth. -/
noncomputable def Try.pinned : Pinned := { name := "ytldeohbfhigagaa", sum := "f011fabd641d914b0f7bf2d18d5cd3e8c43c8587e52304eaf32a84f5e90799a5", checked := Try.checked }
namespace Rows
def none {H : Type} : Left H := { results := [], args := [] }

/-- 'dumbwaiterlaw5.FlotEdges': WHATEVER THE INPUT: true; the input reads as it did. -/
def flotEdgesSpec : ChangeSpec := { name := "flotEdges", fn := fun _ => fun
  | [d] => { results := [.lit (.bool true)], args := [d] }
  | _ => none }
def flotEdgesRow : OpenClaim := { program := "ytldeohbfhigagaa", sum := "f011fabd641d914b0f7bf2d18d5cd3e8c43c8587e52304eaf32a84f5e90799a5", func := "dumbwaiter/dumbwaiterlaw5.FlotEdges", spec := "flotEdges", inPlace := ["math.Float64frombits", "math.Float64bits"], unfollowed := true, recurses := true, apart := false }
def FlotEdgesSaid : Prop := flotEdgesRow.holds Try.pinned (OpenSpec.ofChange flotEdgesSpec)

/-- ITS FALSE NEIGHBOUR: 'it returns false'. Refute it at one input. -/
def flotEdgesWrong : ChangeSpec := { name := "flotEdges", fn := fun _ => fun
  | [d] => { results := [.lit (.bool false)], args := [d] }
  | _ => none }
def FlotEdgesWrongFalsely : Prop := flotEdgesRow.holds Try.pinned (OpenSpec.ofChange flotEdgesWrong)

/-- 'dumbwaiterlaw5.FlotRising': WHATEVER THE INPUT: true; the input reads as it did. -/
def flotRisingSpec : ChangeSpec := { name := "flotRising", fn := fun _ => fun
  | [d1, d2] => { results := [.lit (.bool true)], args := [d1, d2] }
  | _ => none }
def flotRisingRow : OpenClaim := { program := "ytldeohbfhigagaa", sum := "f011fabd641d914b0f7bf2d18d5cd3e8c43c8587e52304eaf32a84f5e90799a5", func := "dumbwaiter/dumbwaiterlaw5.FlotRising", spec := "flotRising", inPlace := ["math.Float64frombits", "math.Float64bits"], unfollowed := true, recurses := true, apart := false }
def FlotRisingSaid : Prop := flotRisingRow.holds Try.pinned (OpenSpec.ofChange flotRisingSpec)

/-- ITS FALSE NEIGHBOUR: 'it returns false'. Refute it at one input. -/
def flotRisingWrong : ChangeSpec := { name := "flotRising", fn := fun _ => fun
  | [d1, d2] => { results := [.lit (.bool false)], args := [d1, d2] }
  | _ => none }
def FlotRisingWrongFalsely : Prop := flotRisingRow.holds Try.pinned (OpenSpec.ofChange flotRisingWrong)

/-- 'dumbwaiterlaw5.FlotFills': WHATEVER THE INPUT: true; the input reads as it did. -/
def flotFillsSpec : ChangeSpec := { name := "flotFills", fn := fun _ => fun
  | [d1, d2, d3, d4] => { results := [.lit (.bool true)], args := [d1, d2, d3, d4] }
  | _ => none }
def flotFillsRow : OpenClaim := { program := "ytldeohbfhigagaa", sum := "f011fabd641d914b0f7bf2d18d5cd3e8c43c8587e52304eaf32a84f5e90799a5", func := "dumbwaiter/dumbwaiterlaw5.FlotFills", spec := "flotFills", inPlace := ["math.Float64frombits", "math.Float64bits"], unfollowed := true, recurses := true, apart := false }
def FlotFillsSaid : Prop := flotFillsRow.holds Try.pinned (OpenSpec.ofChange flotFillsSpec)

/-- ITS FALSE NEIGHBOUR: 'it returns false'. Refute it at one input. -/
def flotFillsWrong : ChangeSpec := { name := "flotFills", fn := fun _ => fun
  | [d1, d2, d3, d4] => { results := [.lit (.bool false)], args := [d1, d2, d3, d4] }
  | _ => none }
def FlotFillsWrongFalsely : Prop := flotFillsRow.holds Try.pinned (OpenSpec.ofChange flotFillsWrong)

/-- 'dumbwaiterlaw5.FlotBits': WHATEVER THE INPUT: true; the input reads as it did. -/
def flotBitsSpec : ChangeSpec := { name := "flotBits", fn := fun _ => fun
  | [d1, d2] => { results := [.lit (.bool true)], args := [d1, d2] }
  | _ => none }
def flotBitsRow : OpenClaim := { program := "ytldeohbfhigagaa", sum := "f011fabd641d914b0f7bf2d18d5cd3e8c43c8587e52304eaf32a84f5e90799a5", func := "dumbwaiter/dumbwaiterlaw5.FlotBits", spec := "flotBits", inPlace := ["math.Float64frombits", "math.Float64bits"], unfollowed := true, recurses := true, apart := false }
def FlotBitsSaid : Prop := flotBitsRow.holds Try.pinned (OpenSpec.ofChange flotBitsSpec)

/-- ITS FALSE NEIGHBOUR: 'it returns false'. Refute it at one input. -/
def flotBitsWrong : ChangeSpec := { name := "flotBits", fn := fun _ => fun
  | [d1, d2] => { results := [.lit (.bool false)], args := [d1, d2] }
  | _ => none }
def FlotBitsWrongFalsely : Prop := flotBitsRow.holds Try.pinned (OpenSpec.ofChange flotBitsWrong)

/-- 'dumbwaiterlaw5.FlotTells': WHATEVER THE INPUT: true; the input reads as it did. -/
def flotTellsSpec : ChangeSpec := { name := "flotTells", fn := fun _ => fun
  | [d1, d2, d3] => { results := [.lit (.bool true)], args := [d1, d2, d3] }
  | _ => none }
def flotTellsRow : OpenClaim := { program := "ytldeohbfhigagaa", sum := "f011fabd641d914b0f7bf2d18d5cd3e8c43c8587e52304eaf32a84f5e90799a5", func := "dumbwaiter/dumbwaiterlaw5.FlotTells", spec := "flotTells", inPlace := ["math.Float64frombits", "math.Float64bits"], unfollowed := true, recurses := true, apart := false }
def FlotTellsSaid : Prop := flotTellsRow.holds Try.pinned (OpenSpec.ofChange flotTellsSpec)

/-- ITS FALSE NEIGHBOUR: 'it returns false'. Refute it at one input. -/
def flotTellsWrong : ChangeSpec := { name := "flotTells", fn := fun _ => fun
  | [d1, d2, d3] => { results := [.lit (.bool false)], args := [d1, d2, d3] }
  | _ => none }
def FlotTellsWrongFalsely : Prop := flotTellsRow.holds Try.pinned (OpenSpec.ofChange flotTellsWrong)

/-- 'dumbwaiterlaw5.FlotOrder': WHATEVER THE INPUT: true; the input reads as it did. -/
def flotOrderSpec : ChangeSpec := { name := "flotOrder", fn := fun _ => fun
  | [d1, d2, d3] => { results := [.lit (.bool true)], args := [d1, d2, d3] }
  | _ => none }
def flotOrderRow : OpenClaim := { program := "ytldeohbfhigagaa", sum := "f011fabd641d914b0f7bf2d18d5cd3e8c43c8587e52304eaf32a84f5e90799a5", func := "dumbwaiter/dumbwaiterlaw5.FlotOrder", spec := "flotOrder", inPlace := ["math.Float64frombits", "math.Float64bits"], unfollowed := true, recurses := true, apart := false }
def FlotOrderSaid : Prop := flotOrderRow.holds Try.pinned (OpenSpec.ofChange flotOrderSpec)

/-- ITS FALSE NEIGHBOUR: 'it returns false'. Refute it at one input. -/
def flotOrderWrong : ChangeSpec := { name := "flotOrder", fn := fun _ => fun
  | [d1, d2, d3] => { results := [.lit (.bool false)], args := [d1, d2, d3] }
  | _ => none }
def FlotOrderWrongFalsely : Prop := flotOrderRow.holds Try.pinned (OpenSpec.ofChange flotOrderWrong)

/-- 'dumbwaiterlaw5.FlotParts': WHATEVER THE INPUT: true; the input reads as it did. -/
def flotPartsSpec : ChangeSpec := { name := "flotParts", fn := fun _ => fun
  | [d1, d2] => { results := [.lit (.bool true)], args := [d1, d2] }
  | _ => none }
def flotPartsRow : OpenClaim := { program := "ytldeohbfhigagaa", sum := "f011fabd641d914b0f7bf2d18d5cd3e8c43c8587e52304eaf32a84f5e90799a5", func := "dumbwaiter/dumbwaiterlaw5.FlotParts", spec := "flotParts", inPlace := ["math.Float64frombits", "math.Float64bits"], unfollowed := true, recurses := true, apart := false }
def FlotPartsSaid : Prop := flotPartsRow.holds Try.pinned (OpenSpec.ofChange flotPartsSpec)

/-- ITS FALSE NEIGHBOUR: 'it returns false'. Refute it at one input. -/
def flotPartsWrong : ChangeSpec := { name := "flotParts", fn := fun _ => fun
  | [d1, d2] => { results := [.lit (.bool false)], args := [d1, d2] }
  | _ => none }
def FlotPartsWrongFalsely : Prop := flotPartsRow.holds Try.pinned (OpenSpec.ofChange flotPartsWrong)

/-- 'dumbwaiterlaw20.ConfErrors': WHATEVER THE INPUT: true; the input reads as it did. -/
def confErrorsSpec : ChangeSpec := { name := "confErrors", fn := fun _ => fun
  | [d1, d2] => { results := [.lit (.bool true)], args := [d1, d2] }
  | _ => none }
def confErrorsRow : OpenClaim := { program := "ytldeohbfhigagaa", sum := "f011fabd641d914b0f7bf2d18d5cd3e8c43c8587e52304eaf32a84f5e90799a5", func := "dumbwaiter/dumbwaiterlaw20.ConfErrors", spec := "confErrors", inPlace := ["math.Float64frombits"], unfollowed := true, recurses := true, apart := false }
def ConfErrorsSaid : Prop := confErrorsRow.holds Try.pinned (OpenSpec.ofChange confErrorsSpec)

/-- ITS FALSE NEIGHBOUR: 'it returns false'. Refute it at one input. -/
def confErrorsWrong : ChangeSpec := { name := "confErrors", fn := fun _ => fun
  | [d1, d2] => { results := [.lit (.bool false)], args := [d1, d2] }
  | _ => none }
def ConfErrorsWrongFalsely : Prop := confErrorsRow.holds Try.pinned (OpenSpec.ofChange confErrorsWrong)

/-- 'dumbwaiterlaw20.ConfGrows': WHATEVER THE INPUT: true; the input reads as it did. -/
def confGrowsSpec : ChangeSpec := { name := "confGrows", fn := fun _ => fun
  | [d1, d2, d3] => { results := [.lit (.bool true)], args := [d1, d2, d3] }
  | _ => none }
def confGrowsRow : OpenClaim := { program := "ytldeohbfhigagaa", sum := "f011fabd641d914b0f7bf2d18d5cd3e8c43c8587e52304eaf32a84f5e90799a5", func := "dumbwaiter/dumbwaiterlaw20.ConfGrows", spec := "confGrows", inPlace := ["math.Float64frombits"], unfollowed := true, recurses := true, apart := false }
def ConfGrowsSaid : Prop := confGrowsRow.holds Try.pinned (OpenSpec.ofChange confGrowsSpec)

/-- ITS FALSE NEIGHBOUR: 'it returns false'. Refute it at one input. -/
def confGrowsWrong : ChangeSpec := { name := "confGrows", fn := fun _ => fun
  | [d1, d2, d3] => { results := [.lit (.bool false)], args := [d1, d2, d3] }
  | _ => none }
def ConfGrowsWrongFalsely : Prop := confGrowsRow.holds Try.pinned (OpenSpec.ofChange confGrowsWrong)

/-- 'dumbwaiterlaw20.ConfHolds': WHATEVER THE INPUT: true; the input reads as it did. -/
def confHoldsSpec : ChangeSpec := { name := "confHolds", fn := fun _ => fun
  | [d] => { results := [.lit (.bool true)], args := [d] }
  | _ => none }
def confHoldsRow : OpenClaim := { program := "ytldeohbfhigagaa", sum := "f011fabd641d914b0f7bf2d18d5cd3e8c43c8587e52304eaf32a84f5e90799a5", func := "dumbwaiter/dumbwaiterlaw20.ConfHolds", spec := "confHolds", inPlace := ["math.Float64frombits"], unfollowed := true, recurses := true, apart := false }
def ConfHoldsSaid : Prop := confHoldsRow.holds Try.pinned (OpenSpec.ofChange confHoldsSpec)

/-- ITS FALSE NEIGHBOUR: 'it returns false'. Refute it at one input. -/
def confHoldsWrong : ChangeSpec := { name := "confHolds", fn := fun _ => fun
  | [d] => { results := [.lit (.bool false)], args := [d] }
  | _ => none }
def ConfHoldsWrongFalsely : Prop := confHoldsRow.holds Try.pinned (OpenSpec.ofChange confHoldsWrong)

/-- 'dumbwaiterlaw20.ConfFills': WHATEVER THE INPUT: true; the input reads as it did. -/
def confFillsSpec : ChangeSpec := { name := "confFills", fn := fun _ => fun
  | [d1, d2, d3] => { results := [.lit (.bool true)], args := [d1, d2, d3] }
  | _ => none }
def confFillsRow : OpenClaim := { program := "ytldeohbfhigagaa", sum := "f011fabd641d914b0f7bf2d18d5cd3e8c43c8587e52304eaf32a84f5e90799a5", func := "dumbwaiter/dumbwaiterlaw20.ConfFills", spec := "confFills", inPlace := ["math.Float64frombits", "math.Float64bits"], unfollowed := true, recurses := true, apart := false }
def ConfFillsSaid : Prop := confFillsRow.holds Try.pinned (OpenSpec.ofChange confFillsSpec)

/-- ITS FALSE NEIGHBOUR: 'it returns false'. Refute it at one input. -/
def confFillsWrong : ChangeSpec := { name := "confFills", fn := fun _ => fun
  | [d1, d2, d3] => { results := [.lit (.bool false)], args := [d1, d2, d3] }
  | _ => none }
def ConfFillsWrongFalsely : Prop := confFillsRow.holds Try.pinned (OpenSpec.ofChange confFillsWrong)

/-- 'dumbwaiterlaw20.ConfTells': WHATEVER THE INPUT: true; the input reads as it did. -/
def confTellsSpec : ChangeSpec := { name := "confTells", fn := fun _ => fun
  | [d1, d2, d3, d4] => { results := [.lit (.bool true)], args := [d1, d2, d3, d4] }
  | _ => none }
def confTellsRow : OpenClaim := { program := "ytldeohbfhigagaa", sum := "f011fabd641d914b0f7bf2d18d5cd3e8c43c8587e52304eaf32a84f5e90799a5", func := "dumbwaiter/dumbwaiterlaw20.ConfTells", spec := "confTells", inPlace := ["math.Float64frombits", "math.Float64bits"], unfollowed := true, recurses := true, apart := false }
def ConfTellsSaid : Prop := confTellsRow.holds Try.pinned (OpenSpec.ofChange confTellsSpec)

/-- ITS FALSE NEIGHBOUR: 'it returns false'. Refute it at one input. -/
def confTellsWrong : ChangeSpec := { name := "confTells", fn := fun _ => fun
  | [d1, d2, d3, d4] => { results := [.lit (.bool false)], args := [d1, d2, d3, d4] }
  | _ => none }
def ConfTellsWrongFalsely : Prop := confTellsRow.holds Try.pinned (OpenSpec.ofChange confTellsWrong)

/- THE SECOND FORM. 'bulk': how many values and letters a reading holds, each counted each time it is reached (what is shared counts as often as it is met; a slice's spare places count too). A statement '..UptoSaid' is the law's where the arguments, and the package variables that the reading takes, are together of bulk at most 1048576: NARROWER than '..Said'. Prove '..Said' where nothing that the law and all that it calls make is longer than what came in: it says more and counts as full. Else prove '..UptoSaid'. A law counts once. -/
mutual
def uptoBulk {H : Type} : DataW H → Nat
  | .lit (.string bytes) => bytes.length + 1
  | .lit _ => 1
  | .nil => 1
  | .ptr d => uptoBulk d + 1
  | .slice elems spare => uptoBulkAll elems + uptoBulkAll spare + 1
  | .agg parts => uptoBulkAll parts + 1
  | .iface _ d => uptoBulk d + 1
  | .map entries => uptoBulkEntries entries + 1
  | .held _ => 1
def uptoBulkAll {H : Type} : List (DataW H) → Nat
  | [] => 0
  | d :: r => uptoBulk d + uptoBulkAll r
def uptoBulkEntries {H : Type} : List (Lit × DataW H) → Nat
  | [] => 0
  | x :: r => uptoBulkEntry x + uptoBulkEntries r
def uptoBulkEntry {H : Type} : Lit × DataW H → Nat
  | (.string bytes, d) => bytes.length + uptoBulk d + 1
  | (_, d) => uptoBulk d + 1
 end
def uptoSmall : (H : Type) → List (DataW H) → Bool := fun _ ds => decide (uptoBulkAll ds ≤ 1048576)
def OpenSpec.upto (s : _root_.Go.ChangeSpec) : _root_.Go.OpenSpec := { _root_.Go.OpenSpec.ofChange s with cond := some uptoSmall }

/-- 'dumbwaiterlaw5.FlotEdges', WHERE WHAT IT READS IS OF BULK AT MOST 1048576: true; the input reads as it did. -/
def flotEdgesUptoRow : OpenClaim := { program := "ytldeohbfhigagaa", sum := "f011fabd641d914b0f7bf2d18d5cd3e8c43c8587e52304eaf32a84f5e90799a5", func := "dumbwaiter/dumbwaiterlaw5.FlotEdges", spec := "flotEdges", inPlace := ["math.Float64frombits", "math.Float64bits"], unfollowed := true, recurses := true, apart := false, narrowed := true }
def FlotEdgesUptoSaid : Prop := flotEdgesUptoRow.holds Try.pinned (OpenSpec.upto flotEdgesSpec)

/-- 'dumbwaiterlaw5.FlotRising', WHERE WHAT IT READS IS OF BULK AT MOST 1048576: true; the input reads as it did. -/
def flotRisingUptoRow : OpenClaim := { program := "ytldeohbfhigagaa", sum := "f011fabd641d914b0f7bf2d18d5cd3e8c43c8587e52304eaf32a84f5e90799a5", func := "dumbwaiter/dumbwaiterlaw5.FlotRising", spec := "flotRising", inPlace := ["math.Float64frombits", "math.Float64bits"], unfollowed := true, recurses := true, apart := false, narrowed := true }
def FlotRisingUptoSaid : Prop := flotRisingUptoRow.holds Try.pinned (OpenSpec.upto flotRisingSpec)

/-- 'dumbwaiterlaw5.FlotFills', WHERE WHAT IT READS IS OF BULK AT MOST 1048576: true; the input reads as it did. -/
def flotFillsUptoRow : OpenClaim := { program := "ytldeohbfhigagaa", sum := "f011fabd641d914b0f7bf2d18d5cd3e8c43c8587e52304eaf32a84f5e90799a5", func := "dumbwaiter/dumbwaiterlaw5.FlotFills", spec := "flotFills", inPlace := ["math.Float64frombits", "math.Float64bits"], unfollowed := true, recurses := true, apart := false, narrowed := true }
def FlotFillsUptoSaid : Prop := flotFillsUptoRow.holds Try.pinned (OpenSpec.upto flotFillsSpec)

/-- 'dumbwaiterlaw5.FlotBits', WHERE WHAT IT READS IS OF BULK AT MOST 1048576: true; the input reads as it did. -/
def flotBitsUptoRow : OpenClaim := { program := "ytldeohbfhigagaa", sum := "f011fabd641d914b0f7bf2d18d5cd3e8c43c8587e52304eaf32a84f5e90799a5", func := "dumbwaiter/dumbwaiterlaw5.FlotBits", spec := "flotBits", inPlace := ["math.Float64frombits", "math.Float64bits"], unfollowed := true, recurses := true, apart := false, narrowed := true }
def FlotBitsUptoSaid : Prop := flotBitsUptoRow.holds Try.pinned (OpenSpec.upto flotBitsSpec)

/-- 'dumbwaiterlaw5.FlotTells', WHERE WHAT IT READS IS OF BULK AT MOST 1048576: true; the input reads as it did. -/
def flotTellsUptoRow : OpenClaim := { program := "ytldeohbfhigagaa", sum := "f011fabd641d914b0f7bf2d18d5cd3e8c43c8587e52304eaf32a84f5e90799a5", func := "dumbwaiter/dumbwaiterlaw5.FlotTells", spec := "flotTells", inPlace := ["math.Float64frombits", "math.Float64bits"], unfollowed := true, recurses := true, apart := false, narrowed := true }
def FlotTellsUptoSaid : Prop := flotTellsUptoRow.holds Try.pinned (OpenSpec.upto flotTellsSpec)

/-- 'dumbwaiterlaw5.FlotOrder', WHERE WHAT IT READS IS OF BULK AT MOST 1048576: true; the input reads as it did. -/
def flotOrderUptoRow : OpenClaim := { program := "ytldeohbfhigagaa", sum := "f011fabd641d914b0f7bf2d18d5cd3e8c43c8587e52304eaf32a84f5e90799a5", func := "dumbwaiter/dumbwaiterlaw5.FlotOrder", spec := "flotOrder", inPlace := ["math.Float64frombits", "math.Float64bits"], unfollowed := true, recurses := true, apart := false, narrowed := true }
def FlotOrderUptoSaid : Prop := flotOrderUptoRow.holds Try.pinned (OpenSpec.upto flotOrderSpec)

/-- 'dumbwaiterlaw5.FlotParts', WHERE WHAT IT READS IS OF BULK AT MOST 1048576: true; the input reads as it did. -/
def flotPartsUptoRow : OpenClaim := { program := "ytldeohbfhigagaa", sum := "f011fabd641d914b0f7bf2d18d5cd3e8c43c8587e52304eaf32a84f5e90799a5", func := "dumbwaiter/dumbwaiterlaw5.FlotParts", spec := "flotParts", inPlace := ["math.Float64frombits", "math.Float64bits"], unfollowed := true, recurses := true, apart := false, narrowed := true }
def FlotPartsUptoSaid : Prop := flotPartsUptoRow.holds Try.pinned (OpenSpec.upto flotPartsSpec)

/-- 'dumbwaiterlaw20.ConfErrors', WHERE WHAT IT READS IS OF BULK AT MOST 1048576: true; the input reads as it did. -/
def confErrorsUptoRow : OpenClaim := { program := "ytldeohbfhigagaa", sum := "f011fabd641d914b0f7bf2d18d5cd3e8c43c8587e52304eaf32a84f5e90799a5", func := "dumbwaiter/dumbwaiterlaw20.ConfErrors", spec := "confErrors", inPlace := ["math.Float64frombits"], unfollowed := true, recurses := true, apart := false, narrowed := true }
def ConfErrorsUptoSaid : Prop := confErrorsUptoRow.holds Try.pinned (OpenSpec.upto confErrorsSpec)

/-- 'dumbwaiterlaw20.ConfGrows', WHERE WHAT IT READS IS OF BULK AT MOST 1048576: true; the input reads as it did. -/
def confGrowsUptoRow : OpenClaim := { program := "ytldeohbfhigagaa", sum := "f011fabd641d914b0f7bf2d18d5cd3e8c43c8587e52304eaf32a84f5e90799a5", func := "dumbwaiter/dumbwaiterlaw20.ConfGrows", spec := "confGrows", inPlace := ["math.Float64frombits"], unfollowed := true, recurses := true, apart := false, narrowed := true }
def ConfGrowsUptoSaid : Prop := confGrowsUptoRow.holds Try.pinned (OpenSpec.upto confGrowsSpec)

/-- 'dumbwaiterlaw20.ConfHolds', WHERE WHAT IT READS IS OF BULK AT MOST 1048576: true; the input reads as it did. -/
def confHoldsUptoRow : OpenClaim := { program := "ytldeohbfhigagaa", sum := "f011fabd641d914b0f7bf2d18d5cd3e8c43c8587e52304eaf32a84f5e90799a5", func := "dumbwaiter/dumbwaiterlaw20.ConfHolds", spec := "confHolds", inPlace := ["math.Float64frombits"], unfollowed := true, recurses := true, apart := false, narrowed := true }
def ConfHoldsUptoSaid : Prop := confHoldsUptoRow.holds Try.pinned (OpenSpec.upto confHoldsSpec)

/-- 'dumbwaiterlaw20.ConfFills', WHERE WHAT IT READS IS OF BULK AT MOST 1048576: true; the input reads as it did. -/
def confFillsUptoRow : OpenClaim := { program := "ytldeohbfhigagaa", sum := "f011fabd641d914b0f7bf2d18d5cd3e8c43c8587e52304eaf32a84f5e90799a5", func := "dumbwaiter/dumbwaiterlaw20.ConfFills", spec := "confFills", inPlace := ["math.Float64frombits", "math.Float64bits"], unfollowed := true, recurses := true, apart := false, narrowed := true }
def ConfFillsUptoSaid : Prop := confFillsUptoRow.holds Try.pinned (OpenSpec.upto confFillsSpec)

/-- 'dumbwaiterlaw20.ConfTells', WHERE WHAT IT READS IS OF BULK AT MOST 1048576: true; the input reads as it did. -/
def confTellsUptoRow : OpenClaim := { program := "ytldeohbfhigagaa", sum := "f011fabd641d914b0f7bf2d18d5cd3e8c43c8587e52304eaf32a84f5e90799a5", func := "dumbwaiter/dumbwaiterlaw20.ConfTells", spec := "confTells", inPlace := ["math.Float64frombits", "math.Float64bits"], unfollowed := true, recurses := true, apart := false, narrowed := true }
def ConfTellsUptoSaid : Prop := confTellsUptoRow.holds Try.pinned (OpenSpec.upto confTellsSpec)

end Rows
end Go.Proofs.Ytldeohbfhigagaa
