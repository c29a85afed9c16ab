/-
  No cell of these rows narrows 'for every input' (looked for: loops, veiled, ifaces, maps, wideKeys, modest, calm, conditions, laid).
  DERIVED. THE GIVEN ROWS OF THIS SEAT. 13 by the template 'for every input the law returns true; each argument reads behind the call as it read before'; 0 by the template 'total and deterministic' (their statements: YtmdmhjcdaejlkaaTotals.lean).
  GIVEN WITH THE SEED: the statements are not yours to turn. If you find one false, say at which input.
  Laid BY PROGRAM, IN A SANDBOX (cutbox-rows.mjs): the forced cells as the released guide's own fill.sh prints them over the translation 4485df3557a45e5e… (all of the seat's roots in one cut). By AI agents, Wed Nov 11 2026. No macro, syntax, notation, axiom, sorry.
-/
import Derived.Test.YtmdmhjcdaejlkaaChecked
import GoSem.Claim
import GoSem.ClaimJoined
import GoSem.ClaimMapViews
import Derived.JoinedTies
import Derived.KernelRfl
namespace Go.Proofs.Ytmdmhjcdaejlkaa
/- THE CELL 'sum', in the pinned program and in every row, IS THE sha256 OF THE DUMP (.gsa) THAT YtmdmhjcdaejlkaaProg.lean LOADS. Nothing in Lean hashes anything: it is a label: what it is worth is what the hold of that sum in a sandbox is worth. -/
noncomputable def Try.pinned : Pinned := { name := "ytmdmhjcdaejlkaa", sum := "4485df3557a45e5ea2b59f7003a62aad11b62da9aceddd7c50da049002e41111", checked := Try.checked }
namespace Rows
def none {H : Type} : Left H := { results := [], args := [] }

/-- 'dumbwaiterlaw9.PenOthers': WHATEVER THE INPUT: true; the input reads as it did. -/
def penOthersSpec : ChangeSpec := { name := "penOthers", fn := fun _ => fun
  | [d1, d2, d3, d4, d5] => { results := [.lit (.bool true)], args := [d1, d2, d3, d4, d5] }
  | _ => none }
def penOthersRow : OpenClaim := { program := "ytmdmhjcdaejlkaa", sum := "4485df3557a45e5ea2b59f7003a62aad11b62da9aceddd7c50da049002e41111", func := "dumbwaiter/dumbwaiterlaw9.PenOthers", spec := "penOthers", apart := false }
def PenOthersSaid : Prop := penOthersRow.holds Try.pinned (OpenSpec.ofChange penOthersSpec)

/-- ITS FALSE NEIGHBOUR: 'it returns false'. Refute it at one input. -/
def penOthersWrong : ChangeSpec := { name := "penOthers", fn := fun _ => fun
  | [d1, d2, d3, d4, d5] => { results := [.lit (.bool false)], args := [d1, d2, d3, d4, d5] }
  | _ => none }
def PenOthersWrongFalsely : Prop := penOthersRow.holds Try.pinned (OpenSpec.ofChange penOthersWrong)

/-- 'dumbwaiterlaw9.PenCounts': WHATEVER THE INPUT: true; the input reads as it did. -/
def penCountsSpec : ChangeSpec := { name := "penCounts", fn := fun _ => fun
  | [d1, d2, d3] => { results := [.lit (.bool true)], args := [d1, d2, d3] }
  | _ => none }
def penCountsRow : OpenClaim := { program := "ytmdmhjcdaejlkaa", sum := "4485df3557a45e5ea2b59f7003a62aad11b62da9aceddd7c50da049002e41111", func := "dumbwaiter/dumbwaiterlaw9.PenCounts", spec := "penCounts", apart := false }
def PenCountsSaid : Prop := penCountsRow.holds Try.pinned (OpenSpec.ofChange penCountsSpec)

/-- ITS FALSE NEIGHBOUR: 'it returns false'. Refute it at one input. -/
def penCountsWrong : ChangeSpec := { name := "penCounts", fn := fun _ => fun
  | [d1, d2, d3] => { results := [.lit (.bool false)], args := [d1, d2, d3] }
  | _ => none }
def PenCountsWrongFalsely : Prop := penCountsRow.holds Try.pinned (OpenSpec.ofChange penCountsWrong)

/-- 'dumbwaiterlaw10.SuprForms': WHATEVER THE INPUT: true; the input reads as it did. -/
def suprFormsSpec : ChangeSpec := { name := "suprForms", fn := fun _ => fun
  | [d1, d2, d3] => { results := [.lit (.bool true)], args := [d1, d2, d3] }
  | _ => none }
def suprFormsRow : OpenClaim := { program := "ytmdmhjcdaejlkaa", sum := "4485df3557a45e5ea2b59f7003a62aad11b62da9aceddd7c50da049002e41111", func := "dumbwaiter/dumbwaiterlaw10.SuprForms", spec := "suprForms", apart := false }
def SuprFormsSaid : Prop := suprFormsRow.holds Try.pinned (OpenSpec.ofChange suprFormsSpec)

/-- ITS FALSE NEIGHBOUR: 'it returns false'. Refute it at one input. -/
def suprFormsWrong : ChangeSpec := { name := "suprForms", fn := fun _ => fun
  | [d1, d2, d3] => { results := [.lit (.bool false)], args := [d1, d2, d3] }
  | _ => none }
def SuprFormsWrongFalsely : Prop := suprFormsRow.holds Try.pinned (OpenSpec.ofChange suprFormsWrong)

/-- 'dumbwaiterlaw10.SuprPlaces': WHATEVER THE INPUT: true; the input reads as it did. -/
def suprPlacesSpec : ChangeSpec := { name := "suprPlaces", fn := fun _ => fun
  | [d1, d2, d3] => { results := [.lit (.bool true)], args := [d1, d2, d3] }
  | _ => none }
def suprPlacesRow : OpenClaim := { program := "ytmdmhjcdaejlkaa", sum := "4485df3557a45e5ea2b59f7003a62aad11b62da9aceddd7c50da049002e41111", func := "dumbwaiter/dumbwaiterlaw10.SuprPlaces", spec := "suprPlaces", apart := false }
def SuprPlacesSaid : Prop := suprPlacesRow.holds Try.pinned (OpenSpec.ofChange suprPlacesSpec)

/-- ITS FALSE NEIGHBOUR: 'it returns false'. Refute it at one input. -/
def suprPlacesWrong : ChangeSpec := { name := "suprPlaces", fn := fun _ => fun
  | [d1, d2, d3] => { results := [.lit (.bool false)], args := [d1, d2, d3] }
  | _ => none }
def SuprPlacesWrongFalsely : Prop := suprPlacesRow.holds Try.pinned (OpenSpec.ofChange suprPlacesWrong)

/-- 'dumbwaiterlaw10.SuprRises': WHATEVER THE INPUT: true; the input reads as it did. -/
def suprRisesSpec : ChangeSpec := { name := "suprRises", fn := fun _ => fun
  | [d] => { results := [.lit (.bool true)], args := [d] }
  | _ => none }
def suprRisesRow : OpenClaim := { program := "ytmdmhjcdaejlkaa", sum := "4485df3557a45e5ea2b59f7003a62aad11b62da9aceddd7c50da049002e41111", func := "dumbwaiter/dumbwaiterlaw10.SuprRises", spec := "suprRises", apart := false }
def SuprRisesSaid : Prop := suprRisesRow.holds Try.pinned (OpenSpec.ofChange suprRisesSpec)

/-- ITS FALSE NEIGHBOUR: 'it returns false'. Refute it at one input. -/
def suprRisesWrong : ChangeSpec := { name := "suprRises", fn := fun _ => fun
  | [d] => { results := [.lit (.bool false)], args := [d] }
  | _ => none }
def SuprRisesWrongFalsely : Prop := suprRisesRow.holds Try.pinned (OpenSpec.ofChange suprRisesWrong)

/-- 'dumbwaiterlaw11.RingForms': WHATEVER THE INPUT: true; the input reads as it did. -/
def ringFormsSpec : ChangeSpec := { name := "ringForms", fn := fun _ => fun
  | [d1, d2, d3] => { results := [.lit (.bool true)], args := [d1, d2, d3] }
  | _ => none }
def ringFormsRow : OpenClaim := { program := "ytmdmhjcdaejlkaa", sum := "4485df3557a45e5ea2b59f7003a62aad11b62da9aceddd7c50da049002e41111", func := "dumbwaiter/dumbwaiterlaw11.RingForms", spec := "ringForms", unfollowed := true, recurses := true, apart := false }
def RingFormsSaid : Prop := ringFormsRow.holds Try.pinned (OpenSpec.ofChange ringFormsSpec)

/-- ITS FALSE NEIGHBOUR: 'it returns false'. Refute it at one input. -/
def ringFormsWrong : ChangeSpec := { name := "ringForms", fn := fun _ => fun
  | [d1, d2, d3] => { results := [.lit (.bool false)], args := [d1, d2, d3] }
  | _ => none }
def RingFormsWrongFalsely : Prop := ringFormsRow.holds Try.pinned (OpenSpec.ofChange ringFormsWrong)

/-- 'dumbwaiterlaw11.RingPlays': WHATEVER THE INPUT: true; the input reads as it did. -/
def ringPlaysSpec : ChangeSpec := { name := "ringPlays", fn := fun _ => fun
  | [d1, d2, d3, d4] => { results := [.lit (.bool true)], args := [d1, d2, d3, d4] }
  | _ => none }
def ringPlaysRow : OpenClaim := { program := "ytmdmhjcdaejlkaa", sum := "4485df3557a45e5ea2b59f7003a62aad11b62da9aceddd7c50da049002e41111", func := "dumbwaiter/dumbwaiterlaw11.RingPlays", spec := "ringPlays", apart := false }
def RingPlaysSaid : Prop := ringPlaysRow.holds Try.pinned (OpenSpec.ofChange ringPlaysSpec)

/-- ITS FALSE NEIGHBOUR: 'it returns false'. Refute it at one input. -/
def ringPlaysWrong : ChangeSpec := { name := "ringPlays", fn := fun _ => fun
  | [d1, d2, d3, d4] => { results := [.lit (.bool false)], args := [d1, d2, d3, d4] }
  | _ => none }
def RingPlaysWrongFalsely : Prop := ringPlaysRow.holds Try.pinned (OpenSpec.ofChange ringPlaysWrong)

/-- 'dumbwaiterlaw10.SuprHolds': WHATEVER THE INPUT: true; the input reads as it did. -/
def suprHoldsSpec : ChangeSpec := { name := "suprHolds", fn := fun _ => fun
  | [d1, d2, d3, d4] => { results := [.lit (.bool true)], args := [d1, d2, d3, d4] }
  | _ => none }
def suprHoldsRow : OpenClaim := { program := "ytmdmhjcdaejlkaa", sum := "4485df3557a45e5ea2b59f7003a62aad11b62da9aceddd7c50da049002e41111", func := "dumbwaiter/dumbwaiterlaw10.SuprHolds", spec := "suprHolds", unfollowed := true, recurses := true, apart := false }
def SuprHoldsSaid : Prop := suprHoldsRow.holds Try.pinned (OpenSpec.ofChange suprHoldsSpec)

/-- ITS FALSE NEIGHBOUR: 'it returns false'. Refute it at one input. -/
def suprHoldsWrong : ChangeSpec := { name := "suprHolds", fn := fun _ => fun
  | [d1, d2, d3, d4] => { results := [.lit (.bool false)], args := [d1, d2, d3, d4] }
  | _ => none }
def SuprHoldsWrongFalsely : Prop := suprHoldsRow.holds Try.pinned (OpenSpec.ofChange suprHoldsWrong)

/-- 'dumbwaiterlaw11.RingSteps': WHATEVER THE INPUT: true; the input reads as it did. -/
def ringStepsSpec : ChangeSpec := { name := "ringSteps", fn := fun _ => fun
  | [d1, d2] => { results := [.lit (.bool true)], args := [d1, d2] }
  | _ => none }
def ringStepsRow : OpenClaim := { program := "ytmdmhjcdaejlkaa", sum := "4485df3557a45e5ea2b59f7003a62aad11b62da9aceddd7c50da049002e41111", func := "dumbwaiter/dumbwaiterlaw11.RingSteps", spec := "ringSteps", apart := false }
def RingStepsSaid : Prop := ringStepsRow.holds Try.pinned (OpenSpec.ofChange ringStepsSpec)

/-- ITS FALSE NEIGHBOUR: 'it returns false'. Refute it at one input. -/
def ringStepsWrong : ChangeSpec := { name := "ringSteps", fn := fun _ => fun
  | [d1, d2] => { results := [.lit (.bool false)], args := [d1, d2] }
  | _ => none }
def RingStepsWrongFalsely : Prop := ringStepsRow.holds Try.pinned (OpenSpec.ofChange ringStepsWrong)

/-- 'dumbwaiterlaw12.BankPlays': WHATEVER THE INPUT: true; the input reads as it did. -/
def bankPlaysSpec : ChangeSpec := { name := "bankPlays", fn := fun _ => fun
  | [d1, d2, d3] => { results := [.lit (.bool true)], args := [d1, d2, d3] }
  | _ => none }
def bankPlaysRow : OpenClaim := { program := "ytmdmhjcdaejlkaa", sum := "4485df3557a45e5ea2b59f7003a62aad11b62da9aceddd7c50da049002e41111", func := "dumbwaiter/dumbwaiterlaw12.BankPlays", spec := "bankPlays", apart := false }
def BankPlaysSaid : Prop := bankPlaysRow.holds Try.pinned (OpenSpec.ofChange bankPlaysSpec)

/-- ITS FALSE NEIGHBOUR: 'it returns false'. Refute it at one input. -/
def bankPlaysWrong : ChangeSpec := { name := "bankPlays", fn := fun _ => fun
  | [d1, d2, d3] => { results := [.lit (.bool false)], args := [d1, d2, d3] }
  | _ => none }
def BankPlaysWrongFalsely : Prop := bankPlaysRow.holds Try.pinned (OpenSpec.ofChange bankPlaysWrong)

/-- 'dumbwaiterlaw12.BankStates': WHATEVER THE INPUT: true; the input reads as it did. -/
def bankStatesSpec : ChangeSpec := { name := "bankStates", fn := fun _ => fun
  | [d1, d2] => { results := [.lit (.bool true)], args := [d1, d2] }
  | _ => none }
def bankStatesRow : OpenClaim := { program := "ytmdmhjcdaejlkaa", sum := "4485df3557a45e5ea2b59f7003a62aad11b62da9aceddd7c50da049002e41111", func := "dumbwaiter/dumbwaiterlaw12.BankStates", spec := "bankStates", apart := false }
def BankStatesSaid : Prop := bankStatesRow.holds Try.pinned (OpenSpec.ofChange bankStatesSpec)

/-- ITS FALSE NEIGHBOUR: 'it returns false'. Refute it at one input. -/
def bankStatesWrong : ChangeSpec := { name := "bankStates", fn := fun _ => fun
  | [d1, d2] => { results := [.lit (.bool false)], args := [d1, d2] }
  | _ => none }
def BankStatesWrongFalsely : Prop := bankStatesRow.holds Try.pinned (OpenSpec.ofChange bankStatesWrong)

/-- 'dumbwaiterlaw12.BankTurns': WHATEVER THE INPUT: true; the input reads as it did. -/
def bankTurnsSpec : ChangeSpec := { name := "bankTurns", fn := fun _ => fun
  | [d1, d2] => { results := [.lit (.bool true)], args := [d1, d2] }
  | _ => none }
def bankTurnsRow : OpenClaim := { program := "ytmdmhjcdaejlkaa", sum := "4485df3557a45e5ea2b59f7003a62aad11b62da9aceddd7c50da049002e41111", func := "dumbwaiter/dumbwaiterlaw12.BankTurns", spec := "bankTurns", apart := false }
def BankTurnsSaid : Prop := bankTurnsRow.holds Try.pinned (OpenSpec.ofChange bankTurnsSpec)

/-- ITS FALSE NEIGHBOUR: 'it returns false'. Refute it at one input. -/
def bankTurnsWrong : ChangeSpec := { name := "bankTurns", fn := fun _ => fun
  | [d1, d2] => { results := [.lit (.bool false)], args := [d1, d2] }
  | _ => none }
def BankTurnsWrongFalsely : Prop := bankTurnsRow.holds Try.pinned (OpenSpec.ofChange bankTurnsWrong)

/-- 'dumbwaiterlaw11.RingPower': WHATEVER THE INPUT: true; the input reads as it did. -/
def ringPowerSpec : ChangeSpec := { name := "ringPower", fn := fun _ => fun
  | [d1, d2, d3, d4] => { results := [.lit (.bool true)], args := [d1, d2, d3, d4] }
  | _ => none }
def ringPowerRow : OpenClaim := { program := "ytmdmhjcdaejlkaa", sum := "4485df3557a45e5ea2b59f7003a62aad11b62da9aceddd7c50da049002e41111", func := "dumbwaiter/dumbwaiterlaw11.RingPower", spec := "ringPower", unfollowed := true, recurses := true, apart := false }
def RingPowerSaid : Prop := ringPowerRow.holds Try.pinned (OpenSpec.ofChange ringPowerSpec)

/-- ITS FALSE NEIGHBOUR: 'it returns false'. Refute it at one input. -/
def ringPowerWrong : ChangeSpec := { name := "ringPower", fn := fun _ => fun
  | [d1, d2, d3, d4] => { results := [.lit (.bool false)], args := [d1, d2, d3, d4] }
  | _ => none }
def RingPowerWrongFalsely : Prop := ringPowerRow.holds Try.pinned (OpenSpec.ofChange ringPowerWrong)

/- THE SECOND FORM. 'bulk': how many values and letters a reading holds, each counted each time it is reached (what is shared counts as often as it is met; a slice's spare places count too). A statement '..UptoSaid' is the law's where the arguments, and the package variables that the reading takes, are together of bulk at most 1048576: NARROWER than '..Said'. Prove '..Said' where nothing that the law and all that it calls make is longer than what came in: it says more and counts as full. Else prove '..UptoSaid'. A law counts once. -/
mutual
def uptoBulk {H : Type} : DataW H → Nat
  | .lit (.string bytes) => bytes.length + 1
  | .lit _ => 1
  | .nil => 1
  | .ptr d => uptoBulk d + 1
  | .slice elems spare => uptoBulkAll elems + uptoBulkAll spare + 1
  | .agg parts => uptoBulkAll parts + 1
  | .iface _ d => uptoBulk d + 1
  | .map entries => uptoBulkEntries entries + 1
  | .held _ => 1
def uptoBulkAll {H : Type} : List (DataW H) → Nat
  | [] => 0
  | d :: r => uptoBulk d + uptoBulkAll r
def uptoBulkEntries {H : Type} : List (Lit × DataW H) → Nat
  | [] => 0
  | x :: r => uptoBulkEntry x + uptoBulkEntries r
def uptoBulkEntry {H : Type} : Lit × DataW H → Nat
  | (.string bytes, d) => bytes.length + uptoBulk d + 1
  | (_, d) => uptoBulk d + 1
 end
def uptoSmall : (H : Type) → List (DataW H) → Bool := fun _ ds => decide (uptoBulkAll ds ≤ 1048576)
def OpenSpec.upto (s : _root_.Go.ChangeSpec) : _root_.Go.OpenSpec := { _root_.Go.OpenSpec.ofChange s with cond := some uptoSmall }

/-- 'dumbwaiterlaw9.PenOthers', WHERE WHAT IT READS IS OF BULK AT MOST 1048576: true; the input reads as it did. -/
def penOthersUptoRow : OpenClaim := { program := "ytmdmhjcdaejlkaa", sum := "4485df3557a45e5ea2b59f7003a62aad11b62da9aceddd7c50da049002e41111", func := "dumbwaiter/dumbwaiterlaw9.PenOthers", spec := "penOthers", apart := false, narrowed := true }
def PenOthersUptoSaid : Prop := penOthersUptoRow.holds Try.pinned (OpenSpec.upto penOthersSpec)

/-- 'dumbwaiterlaw9.PenCounts', WHERE WHAT IT READS IS OF BULK AT MOST 1048576: true; the input reads as it did. -/
def penCountsUptoRow : OpenClaim := { program := "ytmdmhjcdaejlkaa", sum := "4485df3557a45e5ea2b59f7003a62aad11b62da9aceddd7c50da049002e41111", func := "dumbwaiter/dumbwaiterlaw9.PenCounts", spec := "penCounts", apart := false, narrowed := true }
def PenCountsUptoSaid : Prop := penCountsUptoRow.holds Try.pinned (OpenSpec.upto penCountsSpec)

/-- 'dumbwaiterlaw10.SuprForms', WHERE WHAT IT READS IS OF BULK AT MOST 1048576: true; the input reads as it did. -/
def suprFormsUptoRow : OpenClaim := { program := "ytmdmhjcdaejlkaa", sum := "4485df3557a45e5ea2b59f7003a62aad11b62da9aceddd7c50da049002e41111", func := "dumbwaiter/dumbwaiterlaw10.SuprForms", spec := "suprForms", apart := false, narrowed := true }
def SuprFormsUptoSaid : Prop := suprFormsUptoRow.holds Try.pinned (OpenSpec.upto suprFormsSpec)

/-- 'dumbwaiterlaw10.SuprPlaces', WHERE WHAT IT READS IS OF BULK AT MOST 1048576: true; the input reads as it did. -/
def suprPlacesUptoRow : OpenClaim := { program := "ytmdmhjcdaejlkaa", sum := "4485df3557a45e5ea2b59f7003a62aad11b62da9aceddd7c50da049002e41111", func := "dumbwaiter/dumbwaiterlaw10.SuprPlaces", spec := "suprPlaces", apart := false, narrowed := true }
def SuprPlacesUptoSaid : Prop := suprPlacesUptoRow.holds Try.pinned (OpenSpec.upto suprPlacesSpec)

/-- 'dumbwaiterlaw10.SuprRises', WHERE WHAT IT READS IS OF BULK AT MOST 1048576: true; the input reads as it did. -/
def suprRisesUptoRow : OpenClaim := { program := "ytmdmhjcdaejlkaa", sum := "4485df3557a45e5ea2b59f7003a62aad11b62da9aceddd7c50da049002e41111", func := "dumbwaiter/dumbwaiterlaw10.SuprRises", spec := "suprRises", apart := false, narrowed := true }
def SuprRisesUptoSaid : Prop := suprRisesUptoRow.holds Try.pinned (OpenSpec.upto suprRisesSpec)

/-- 'dumbwaiterlaw11.RingForms', WHERE WHAT IT READS IS OF BULK AT MOST 1048576: true; the input reads as it did. -/
def ringFormsUptoRow : OpenClaim := { program := "ytmdmhjcdaejlkaa", sum := "4485df3557a45e5ea2b59f7003a62aad11b62da9aceddd7c50da049002e41111", func := "dumbwaiter/dumbwaiterlaw11.RingForms", spec := "ringForms", unfollowed := true, recurses := true, apart := false, narrowed := true }
def RingFormsUptoSaid : Prop := ringFormsUptoRow.holds Try.pinned (OpenSpec.upto ringFormsSpec)

/-- 'dumbwaiterlaw11.RingPlays', WHERE WHAT IT READS IS OF BULK AT MOST 1048576: true; the input reads as it did. -/
def ringPlaysUptoRow : OpenClaim := { program := "ytmdmhjcdaejlkaa", sum := "4485df3557a45e5ea2b59f7003a62aad11b62da9aceddd7c50da049002e41111", func := "dumbwaiter/dumbwaiterlaw11.RingPlays", spec := "ringPlays", apart := false, narrowed := true }
def RingPlaysUptoSaid : Prop := ringPlaysUptoRow.holds Try.pinned (OpenSpec.upto ringPlaysSpec)

/-- 'dumbwaiterlaw10.SuprHolds', WHERE WHAT IT READS IS OF BULK AT MOST 1048576: true; the input reads as it did. -/
def suprHoldsUptoRow : OpenClaim := { program := "ytmdmhjcdaejlkaa", sum := "4485df3557a45e5ea2b59f7003a62aad11b62da9aceddd7c50da049002e41111", func := "dumbwaiter/dumbwaiterlaw10.SuprHolds", spec := "suprHolds", unfollowed := true, recurses := true, apart := false, narrowed := true }
def SuprHoldsUptoSaid : Prop := suprHoldsUptoRow.holds Try.pinned (OpenSpec.upto suprHoldsSpec)

/-- 'dumbwaiterlaw11.RingSteps', WHERE WHAT IT READS IS OF BULK AT MOST 1048576: true; the input reads as it did. -/
def ringStepsUptoRow : OpenClaim := { program := "ytmdmhjcdaejlkaa", sum := "4485df3557a45e5ea2b59f7003a62aad11b62da9aceddd7c50da049002e41111", func := "dumbwaiter/dumbwaiterlaw11.RingSteps", spec := "ringSteps", apart := false, narrowed := true }
def RingStepsUptoSaid : Prop := ringStepsUptoRow.holds Try.pinned (OpenSpec.upto ringStepsSpec)

/-- 'dumbwaiterlaw12.BankPlays', WHERE WHAT IT READS IS OF BULK AT MOST 1048576: true; the input reads as it did. -/
def bankPlaysUptoRow : OpenClaim := { program := "ytmdmhjcdaejlkaa", sum := "4485df3557a45e5ea2b59f7003a62aad11b62da9aceddd7c50da049002e41111", func := "dumbwaiter/dumbwaiterlaw12.BankPlays", spec := "bankPlays", apart := false, narrowed := true }
def BankPlaysUptoSaid : Prop := bankPlaysUptoRow.holds Try.pinned (OpenSpec.upto bankPlaysSpec)

/-- 'dumbwaiterlaw12.BankStates', WHERE WHAT IT READS IS OF BULK AT MOST 1048576: true; the input reads as it did. -/
def bankStatesUptoRow : OpenClaim := { program := "ytmdmhjcdaejlkaa", sum := "4485df3557a45e5ea2b59f7003a62aad11b62da9aceddd7c50da049002e41111", func := "dumbwaiter/dumbwaiterlaw12.BankStates", spec := "bankStates", apart := false, narrowed := true }
def BankStatesUptoSaid : Prop := bankStatesUptoRow.holds Try.pinned (OpenSpec.upto bankStatesSpec)

/-- 'dumbwaiterlaw12.BankTurns', WHERE WHAT IT READS IS OF BULK AT MOST 1048576: true; the input reads as it did. -/
def bankTurnsUptoRow : OpenClaim := { program := "ytmdmhjcdaejlkaa", sum := "4485df3557a45e5ea2b59f7003a62aad11b62da9aceddd7c50da049002e41111", func := "dumbwaiter/dumbwaiterlaw12.BankTurns", spec := "bankTurns", apart := false, narrowed := true }
def BankTurnsUptoSaid : Prop := bankTurnsUptoRow.holds Try.pinned (OpenSpec.upto bankTurnsSpec)

/-- 'dumbwaiterlaw11.RingPower', WHERE WHAT IT READS IS OF BULK AT MOST 1048576: true; the input reads as it did. -/
def ringPowerUptoRow : OpenClaim := { program := "ytmdmhjcdaejlkaa", sum := "4485df3557a45e5ea2b59f7003a62aad11b62da9aceddd7c50da049002e41111", func := "dumbwaiter/dumbwaiterlaw11.RingPower", spec := "ringPower", unfollowed := true, recurses := true, apart := false, narrowed := true }
def RingPowerUptoSaid : Prop := ringPowerUptoRow.holds Try.pinned (OpenSpec.upto ringPowerSpec)

end Rows
end Go.Proofs.Ytmdmhjcdaejlkaa
