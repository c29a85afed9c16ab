/-
  No cell of these rows narrows 'for every input' (looked for: loops, veiled, ifaces, maps, wideKeys, modest, calm, conditions, laid).
  DERIVED. THE GIVEN ROWS OF THIS SEAT. 14 by the template 'for every input the law returns true; each argument reads behind the call as it read before'; 0 by the template 'total and deterministic' (their statements: YtlbpmboknmbcgaaTotals.lean).
  GIVEN WITH THE SEED: the statements are not yours to turn. If you find one false, say at which input.
  Laid BY PROGRAM, IN A SANDBOX (cutbox-rows.mjs): the forced cells as the released guide's own fill.sh prints them over the translation ba32465c46fb8f1e… (all of the seat's roots in one cut). By AI agents, Wed Nov 11 2026. No macro, syntax, notation, axiom, sorry.
-/
import Derived.Test.YtlbpmboknmbcgaaChecked
import GoSem.Claim
import GoSem.ClaimJoined
import GoSem.ClaimMapViews
import Derived.JoinedTies
import Derived.KernelRfl
namespace Go.Proofs.Ytlbpmboknmbcgaa
/- THE CELL 'sum', in the pinned program and in every row, IS THE sha256 OF THE DUMP (.gsa) THAT YtlbpmboknmbcgaaProg.lean LOADS. Nothing in Lean hashes anything: it is a label: what it is worth is what the hold of that sum in a sandbox is worth. -/
noncomputable def Try.pinned : Pinned := { name := "ytlbpmboknmbcgaa", sum := "ba32465c46fb8f1ec353858f9c1c18d5aee4bc5eddd9bb56db436ae15e0ad27c", checked := Try.checked }
namespace Rows
def none {H : Type} : Left H := { results := [], args := [] }

/-- 'dumbwaiterlaw6.DiskOwn': WHATEVER THE INPUT: true; the input reads as it did. -/
def diskOwnSpec : ChangeSpec := { name := "diskOwn", fn := fun _ => fun
  | [d1, d2] => { results := [.lit (.bool true)], args := [d1, d2] }
  | _ => none }
def diskOwnRow : OpenClaim := { program := "ytlbpmboknmbcgaa", sum := "ba32465c46fb8f1ec353858f9c1c18d5aee4bc5eddd9bb56db436ae15e0ad27c", func := "dumbwaiter/dumbwaiterlaw6.DiskOwn", spec := "diskOwn", unfollowed := true, recurses := true, apart := false }
def DiskOwnSaid : Prop := diskOwnRow.holds Try.pinned (OpenSpec.ofChange diskOwnSpec)

/-- ITS FALSE NEIGHBOUR: 'it returns false'. Refute it at one input. -/
def diskOwnWrong : ChangeSpec := { name := "diskOwn", fn := fun _ => fun
  | [d1, d2] => { results := [.lit (.bool false)], args := [d1, d2] }
  | _ => none }
def DiskOwnWrongFalsely : Prop := diskOwnRow.holds Try.pinned (OpenSpec.ofChange diskOwnWrong)

/-- 'dumbwaiterlaw6.DiskAgain': WHATEVER THE INPUT: true; the input reads as it did. -/
def diskAgainSpec : ChangeSpec := { name := "diskAgain", fn := fun _ => fun
  | [d] => { results := [.lit (.bool true)], args := [d] }
  | _ => none }
def diskAgainRow : OpenClaim := { program := "ytlbpmboknmbcgaa", sum := "ba32465c46fb8f1ec353858f9c1c18d5aee4bc5eddd9bb56db436ae15e0ad27c", func := "dumbwaiter/dumbwaiterlaw6.DiskAgain", spec := "diskAgain", unfollowed := true, recurses := true, apart := false }
def DiskAgainSaid : Prop := diskAgainRow.holds Try.pinned (OpenSpec.ofChange diskAgainSpec)

/-- ITS FALSE NEIGHBOUR: 'it returns false'. Refute it at one input. -/
def diskAgainWrong : ChangeSpec := { name := "diskAgain", fn := fun _ => fun
  | [d] => { results := [.lit (.bool false)], args := [d] }
  | _ => none }
def DiskAgainWrongFalsely : Prop := diskAgainRow.holds Try.pinned (OpenSpec.ofChange diskAgainWrong)

/-- 'dumbwaiterlaw6.DiskTells': WHATEVER THE INPUT: true; the input reads as it did. -/
def diskTellsSpec : ChangeSpec := { name := "diskTells", fn := fun _ => fun
  | [d1, d2] => { results := [.lit (.bool true)], args := [d1, d2] }
  | _ => none }
def diskTellsRow : OpenClaim := { program := "ytlbpmboknmbcgaa", sum := "ba32465c46fb8f1ec353858f9c1c18d5aee4bc5eddd9bb56db436ae15e0ad27c", func := "dumbwaiter/dumbwaiterlaw6.DiskTells", spec := "diskTells", unfollowed := true, recurses := true, apart := false }
def DiskTellsSaid : Prop := diskTellsRow.holds Try.pinned (OpenSpec.ofChange diskTellsSpec)

/-- ITS FALSE NEIGHBOUR: 'it returns false'. Refute it at one input. -/
def diskTellsWrong : ChangeSpec := { name := "diskTells", fn := fun _ => fun
  | [d1, d2] => { results := [.lit (.bool false)], args := [d1, d2] }
  | _ => none }
def DiskTellsWrongFalsely : Prop := diskTellsRow.holds Try.pinned (OpenSpec.ofChange diskTellsWrong)

/-- 'dumbwaiterlaw6.DiskStays': WHATEVER THE INPUT: true; the input reads as it did. -/
def diskStaysSpec : ChangeSpec := { name := "diskStays", fn := fun _ => fun
  | [d1, d2, d3] => { results := [.lit (.bool true)], args := [d1, d2, d3] }
  | _ => none }
def diskStaysRow : OpenClaim := { program := "ytlbpmboknmbcgaa", sum := "ba32465c46fb8f1ec353858f9c1c18d5aee4bc5eddd9bb56db436ae15e0ad27c", func := "dumbwaiter/dumbwaiterlaw6.DiskStays", spec := "diskStays", unfollowed := true, recurses := true, apart := false }
def DiskStaysSaid : Prop := diskStaysRow.holds Try.pinned (OpenSpec.ofChange diskStaysSpec)

/-- ITS FALSE NEIGHBOUR: 'it returns false'. Refute it at one input. -/
def diskStaysWrong : ChangeSpec := { name := "diskStays", fn := fun _ => fun
  | [d1, d2, d3] => { results := [.lit (.bool false)], args := [d1, d2, d3] }
  | _ => none }
def DiskStaysWrongFalsely : Prop := diskStaysRow.holds Try.pinned (OpenSpec.ofChange diskStaysWrong)

/-- 'dumbwaiterlaw6.DiskCuts': WHATEVER THE INPUT: true; the input reads as it did. -/
def diskCutsSpec : ChangeSpec := { name := "diskCuts", fn := fun _ => fun
  | [d1, d2] => { results := [.lit (.bool true)], args := [d1, d2] }
  | _ => none }
def diskCutsRow : OpenClaim := { program := "ytlbpmboknmbcgaa", sum := "ba32465c46fb8f1ec353858f9c1c18d5aee4bc5eddd9bb56db436ae15e0ad27c", func := "dumbwaiter/dumbwaiterlaw6.DiskCuts", spec := "diskCuts", unfollowed := true, recurses := true, apart := false }
def DiskCutsSaid : Prop := diskCutsRow.holds Try.pinned (OpenSpec.ofChange diskCutsSpec)

/-- ITS FALSE NEIGHBOUR: 'it returns false'. Refute it at one input. -/
def diskCutsWrong : ChangeSpec := { name := "diskCuts", fn := fun _ => fun
  | [d1, d2] => { results := [.lit (.bool false)], args := [d1, d2] }
  | _ => none }
def DiskCutsWrongFalsely : Prop := diskCutsRow.holds Try.pinned (OpenSpec.ofChange diskCutsWrong)

/-- 'dumbwaiterlaw6.DiskBounds': WHATEVER THE INPUT: true; the input reads as it did. -/
def diskBoundsSpec : ChangeSpec := { name := "diskBounds", fn := fun _ => fun
  | [d1, d2, d3, d4] => { results := [.lit (.bool true)], args := [d1, d2, d3, d4] }
  | _ => none }
def diskBoundsRow : OpenClaim := { program := "ytlbpmboknmbcgaa", sum := "ba32465c46fb8f1ec353858f9c1c18d5aee4bc5eddd9bb56db436ae15e0ad27c", func := "dumbwaiter/dumbwaiterlaw6.DiskBounds", spec := "diskBounds", unfollowed := true, recurses := true, apart := false }
def DiskBoundsSaid : Prop := diskBoundsRow.holds Try.pinned (OpenSpec.ofChange diskBoundsSpec)

/-- ITS FALSE NEIGHBOUR: 'it returns false'. Refute it at one input. -/
def diskBoundsWrong : ChangeSpec := { name := "diskBounds", fn := fun _ => fun
  | [d1, d2, d3, d4] => { results := [.lit (.bool false)], args := [d1, d2, d3, d4] }
  | _ => none }
def DiskBoundsWrongFalsely : Prop := diskBoundsRow.holds Try.pinned (OpenSpec.ofChange diskBoundsWrong)

/-- 'dumbwaiterlaw7.SealUnlike': WHATEVER THE INPUT: true; the input reads as it did. -/
def sealUnlikeSpec : ChangeSpec := { name := "sealUnlike", fn := fun _ => fun
  | [d1, d2, d3, d4, d5, d6, d7] => { results := [.lit (.bool true)], args := [d1, d2, d3, d4, d5, d6, d7] }
  | _ => none }
def sealUnlikeRow : OpenClaim := { program := "ytlbpmboknmbcgaa", sum := "ba32465c46fb8f1ec353858f9c1c18d5aee4bc5eddd9bb56db436ae15e0ad27c", func := "dumbwaiter/dumbwaiterlaw7.SealUnlike", spec := "sealUnlike", apart := false }
def SealUnlikeSaid : Prop := sealUnlikeRow.holds Try.pinned (OpenSpec.ofChange sealUnlikeSpec)

/-- ITS FALSE NEIGHBOUR: 'it returns false'. Refute it at one input. -/
def sealUnlikeWrong : ChangeSpec := { name := "sealUnlike", fn := fun _ => fun
  | [d1, d2, d3, d4, d5, d6, d7] => { results := [.lit (.bool false)], args := [d1, d2, d3, d4, d5, d6, d7] }
  | _ => none }
def SealUnlikeWrongFalsely : Prop := sealUnlikeRow.holds Try.pinned (OpenSpec.ofChange sealUnlikeWrong)

/-- 'dumbwaiterlaw7.SealRooms': WHATEVER THE INPUT: true; the input reads as it did. -/
def sealRoomsSpec : ChangeSpec := { name := "sealRooms", fn := fun _ => fun
  | [d1, d2, d3] => { results := [.lit (.bool true)], args := [d1, d2, d3] }
  | _ => none }
def sealRoomsRow : OpenClaim := { program := "ytlbpmboknmbcgaa", sum := "ba32465c46fb8f1ec353858f9c1c18d5aee4bc5eddd9bb56db436ae15e0ad27c", func := "dumbwaiter/dumbwaiterlaw7.SealRooms", spec := "sealRooms", apart := false }
def SealRoomsSaid : Prop := sealRoomsRow.holds Try.pinned (OpenSpec.ofChange sealRoomsSpec)

/-- ITS FALSE NEIGHBOUR: 'it returns false'. Refute it at one input. -/
def sealRoomsWrong : ChangeSpec := { name := "sealRooms", fn := fun _ => fun
  | [d1, d2, d3] => { results := [.lit (.bool false)], args := [d1, d2, d3] }
  | _ => none }
def SealRoomsWrongFalsely : Prop := sealRoomsRow.holds Try.pinned (OpenSpec.ofChange sealRoomsWrong)

/-- 'dumbwaiterlaw7.SealTells': WHATEVER THE INPUT: true; the input reads as it did. -/
def sealTellsSpec : ChangeSpec := { name := "sealTells", fn := fun _ => fun
  | [d1, d2, d3, d4, d5, d6, d7, d8] => { results := [.lit (.bool true)], args := [d1, d2, d3, d4, d5, d6, d7, d8] }
  | _ => none }
def sealTellsRow : OpenClaim := { program := "ytlbpmboknmbcgaa", sum := "ba32465c46fb8f1ec353858f9c1c18d5aee4bc5eddd9bb56db436ae15e0ad27c", func := "dumbwaiter/dumbwaiterlaw7.SealTells", spec := "sealTells", apart := false }
def SealTellsSaid : Prop := sealTellsRow.holds Try.pinned (OpenSpec.ofChange sealTellsSpec)

/-- ITS FALSE NEIGHBOUR: 'it returns false'. Refute it at one input. -/
def sealTellsWrong : ChangeSpec := { name := "sealTells", fn := fun _ => fun
  | [d1, d2, d3, d4, d5, d6, d7, d8] => { results := [.lit (.bool false)], args := [d1, d2, d3, d4, d5, d6, d7, d8] }
  | _ => none }
def SealTellsWrongFalsely : Prop := sealTellsRow.holds Try.pinned (OpenSpec.ofChange sealTellsWrong)

/-- 'dumbwaiterlaw7.SealBack': WHATEVER THE INPUT: true; the input reads as it did. -/
def sealBackSpec : ChangeSpec := { name := "sealBack", fn := fun _ => fun
  | [d1, d2, d3, d4, d5] => { results := [.lit (.bool true)], args := [d1, d2, d3, d4, d5] }
  | _ => none }
def sealBackRow : OpenClaim := { program := "ytlbpmboknmbcgaa", sum := "ba32465c46fb8f1ec353858f9c1c18d5aee4bc5eddd9bb56db436ae15e0ad27c", func := "dumbwaiter/dumbwaiterlaw7.SealBack", spec := "sealBack", apart := false }
def SealBackSaid : Prop := sealBackRow.holds Try.pinned (OpenSpec.ofChange sealBackSpec)

/-- ITS FALSE NEIGHBOUR: 'it returns false'. Refute it at one input. -/
def sealBackWrong : ChangeSpec := { name := "sealBack", fn := fun _ => fun
  | [d1, d2, d3, d4, d5] => { results := [.lit (.bool false)], args := [d1, d2, d3, d4, d5] }
  | _ => none }
def SealBackWrongFalsely : Prop := sealBackRow.holds Try.pinned (OpenSpec.ofChange sealBackWrong)

/-- 'dumbwaiterlaw8.BootPlaces': WHATEVER THE INPUT: true; the input reads as it did. -/
def bootPlacesSpec : ChangeSpec := { name := "bootPlaces", fn := fun _ => fun
  | [d1, d2] => { results := [.lit (.bool true)], args := [d1, d2] }
  | _ => none }
def bootPlacesRow : OpenClaim := { program := "ytlbpmboknmbcgaa", sum := "ba32465c46fb8f1ec353858f9c1c18d5aee4bc5eddd9bb56db436ae15e0ad27c", func := "dumbwaiter/dumbwaiterlaw8.BootPlaces", spec := "bootPlaces", apart := false }
def BootPlacesSaid : Prop := bootPlacesRow.holds Try.pinned (OpenSpec.ofChange bootPlacesSpec)

/-- ITS FALSE NEIGHBOUR: 'it returns false'. Refute it at one input. -/
def bootPlacesWrong : ChangeSpec := { name := "bootPlaces", fn := fun _ => fun
  | [d1, d2] => { results := [.lit (.bool false)], args := [d1, d2] }
  | _ => none }
def BootPlacesWrongFalsely : Prop := bootPlacesRow.holds Try.pinned (OpenSpec.ofChange bootPlacesWrong)

/-- 'dumbwaiterlaw8.BootForms': WHATEVER THE INPUT: true; the input reads as it did. -/
def bootFormsSpec : ChangeSpec := { name := "bootForms", fn := fun _ => fun
  | [d] => { results := [.lit (.bool true)], args := [d] }
  | _ => none }
def bootFormsRow : OpenClaim := { program := "ytlbpmboknmbcgaa", sum := "ba32465c46fb8f1ec353858f9c1c18d5aee4bc5eddd9bb56db436ae15e0ad27c", func := "dumbwaiter/dumbwaiterlaw8.BootForms", spec := "bootForms", unfollowed := true, recurses := true, apart := false }
def BootFormsSaid : Prop := bootFormsRow.holds Try.pinned (OpenSpec.ofChange bootFormsSpec)

/-- ITS FALSE NEIGHBOUR: 'it returns false'. Refute it at one input. -/
def bootFormsWrong : ChangeSpec := { name := "bootForms", fn := fun _ => fun
  | [d] => { results := [.lit (.bool false)], args := [d] }
  | _ => none }
def BootFormsWrongFalsely : Prop := bootFormsRow.holds Try.pinned (OpenSpec.ofChange bootFormsWrong)

/-- 'dumbwaiterlaw8.BootTells': WHATEVER THE INPUT: true; the input reads as it did. -/
def bootTellsSpec : ChangeSpec := { name := "bootTells", fn := fun _ => fun
  | [d1, d2, d3, d4, d5] => { results := [.lit (.bool true)], args := [d1, d2, d3, d4, d5] }
  | _ => none }
def bootTellsRow : OpenClaim := { program := "ytlbpmboknmbcgaa", sum := "ba32465c46fb8f1ec353858f9c1c18d5aee4bc5eddd9bb56db436ae15e0ad27c", func := "dumbwaiter/dumbwaiterlaw8.BootTells", spec := "bootTells", apart := false }
def BootTellsSaid : Prop := bootTellsRow.holds Try.pinned (OpenSpec.ofChange bootTellsSpec)

/-- ITS FALSE NEIGHBOUR: 'it returns false'. Refute it at one input. -/
def bootTellsWrong : ChangeSpec := { name := "bootTells", fn := fun _ => fun
  | [d1, d2, d3, d4, d5] => { results := [.lit (.bool false)], args := [d1, d2, d3, d4, d5] }
  | _ => none }
def BootTellsWrongFalsely : Prop := bootTellsRow.holds Try.pinned (OpenSpec.ofChange bootTellsWrong)

/-- 'dumbwaiterlaw8.BootRises': WHATEVER THE INPUT: true; the input reads as it did. -/
def bootRisesSpec : ChangeSpec := { name := "bootRises", fn := fun _ => fun
  | [d1, d2] => { results := [.lit (.bool true)], args := [d1, d2] }
  | _ => none }
def bootRisesRow : OpenClaim := { program := "ytlbpmboknmbcgaa", sum := "ba32465c46fb8f1ec353858f9c1c18d5aee4bc5eddd9bb56db436ae15e0ad27c", func := "dumbwaiter/dumbwaiterlaw8.BootRises", spec := "bootRises", unfollowed := true, recurses := true, apart := false }
def BootRisesSaid : Prop := bootRisesRow.holds Try.pinned (OpenSpec.ofChange bootRisesSpec)

/-- ITS FALSE NEIGHBOUR: 'it returns false'. Refute it at one input. -/
def bootRisesWrong : ChangeSpec := { name := "bootRises", fn := fun _ => fun
  | [d1, d2] => { results := [.lit (.bool false)], args := [d1, d2] }
  | _ => none }
def BootRisesWrongFalsely : Prop := bootRisesRow.holds Try.pinned (OpenSpec.ofChange bootRisesWrong)

/- THE SECOND FORM. 'bulk': how many values and letters a reading holds, each counted each time it is reached (what is shared counts as often as it is met; a slice's spare places count too). A statement '..UptoSaid' is the law's where the arguments, and the package variables that the reading takes, are together of bulk at most 1048576: NARROWER than '..Said'. Prove '..Said' where nothing that the law and all that it calls make is longer than what came in: it says more and counts as full. Else prove '..UptoSaid'. A law counts once. -/
mutual
def uptoBulk {H : Type} : DataW H → Nat
  | .lit (.string bytes) => bytes.length + 1
  | .lit _ => 1
  | .nil => 1
  | .ptr d => uptoBulk d + 1
  | .slice elems spare => uptoBulkAll elems + uptoBulkAll spare + 1
  | .agg parts => uptoBulkAll parts + 1
  | .iface _ d => uptoBulk d + 1
  | .map entries => uptoBulkEntries entries + 1
  | .held _ => 1
def uptoBulkAll {H : Type} : List (DataW H) → Nat
  | [] => 0
  | d :: r => uptoBulk d + uptoBulkAll r
def uptoBulkEntries {H : Type} : List (Lit × DataW H) → Nat
  | [] => 0
  | x :: r => uptoBulkEntry x + uptoBulkEntries r
def uptoBulkEntry {H : Type} : Lit × DataW H → Nat
  | (.string bytes, d) => bytes.length + uptoBulk d + 1
  | (_, d) => uptoBulk d + 1
 end
def uptoSmall : (H : Type) → List (DataW H) → Bool := fun _ ds => decide (uptoBulkAll ds ≤ 1048576)
def OpenSpec.upto (s : _root_.Go.ChangeSpec) : _root_.Go.OpenSpec := { _root_.Go.OpenSpec.ofChange s with cond := some uptoSmall }

/-- 'dumbwaiterlaw6.DiskOwn', WHERE WHAT IT READS IS OF BULK AT MOST 1048576: true; the input reads as it did. -/
def diskOwnUptoRow : OpenClaim := { program := "ytlbpmboknmbcgaa", sum := "ba32465c46fb8f1ec353858f9c1c18d5aee4bc5eddd9bb56db436ae15e0ad27c", func := "dumbwaiter/dumbwaiterlaw6.DiskOwn", spec := "diskOwn", unfollowed := true, recurses := true, apart := false, narrowed := true }
def DiskOwnUptoSaid : Prop := diskOwnUptoRow.holds Try.pinned (OpenSpec.upto diskOwnSpec)

/-- 'dumbwaiterlaw6.DiskAgain', WHERE WHAT IT READS IS OF BULK AT MOST 1048576: true; the input reads as it did. -/
def diskAgainUptoRow : OpenClaim := { program := "ytlbpmboknmbcgaa", sum := "ba32465c46fb8f1ec353858f9c1c18d5aee4bc5eddd9bb56db436ae15e0ad27c", func := "dumbwaiter/dumbwaiterlaw6.DiskAgain", spec := "diskAgain", unfollowed := true, recurses := true, apart := false, narrowed := true }
def DiskAgainUptoSaid : Prop := diskAgainUptoRow.holds Try.pinned (OpenSpec.upto diskAgainSpec)

/-- 'dumbwaiterlaw6.DiskTells', WHERE WHAT IT READS IS OF BULK AT MOST 1048576: true; the input reads as it did. -/
def diskTellsUptoRow : OpenClaim := { program := "ytlbpmboknmbcgaa", sum := "ba32465c46fb8f1ec353858f9c1c18d5aee4bc5eddd9bb56db436ae15e0ad27c", func := "dumbwaiter/dumbwaiterlaw6.DiskTells", spec := "diskTells", unfollowed := true, recurses := true, apart := false, narrowed := true }
def DiskTellsUptoSaid : Prop := diskTellsUptoRow.holds Try.pinned (OpenSpec.upto diskTellsSpec)

/-- 'dumbwaiterlaw6.DiskStays', WHERE WHAT IT READS IS OF BULK AT MOST 1048576: true; the input reads as it did. -/
def diskStaysUptoRow : OpenClaim := { program := "ytlbpmboknmbcgaa", sum := "ba32465c46fb8f1ec353858f9c1c18d5aee4bc5eddd9bb56db436ae15e0ad27c", func := "dumbwaiter/dumbwaiterlaw6.DiskStays", spec := "diskStays", unfollowed := true, recurses := true, apart := false, narrowed := true }
def DiskStaysUptoSaid : Prop := diskStaysUptoRow.holds Try.pinned (OpenSpec.upto diskStaysSpec)

/-- 'dumbwaiterlaw6.DiskCuts', WHERE WHAT IT READS IS OF BULK AT MOST 1048576: true; the input reads as it did. -/
def diskCutsUptoRow : OpenClaim := { program := "ytlbpmboknmbcgaa", sum := "ba32465c46fb8f1ec353858f9c1c18d5aee4bc5eddd9bb56db436ae15e0ad27c", func := "dumbwaiter/dumbwaiterlaw6.DiskCuts", spec := "diskCuts", unfollowed := true, recurses := true, apart := false, narrowed := true }
def DiskCutsUptoSaid : Prop := diskCutsUptoRow.holds Try.pinned (OpenSpec.upto diskCutsSpec)

/-- 'dumbwaiterlaw6.DiskBounds', WHERE WHAT IT READS IS OF BULK AT MOST 1048576: true; the input reads as it did. -/
def diskBoundsUptoRow : OpenClaim := { program := "ytlbpmboknmbcgaa", sum := "ba32465c46fb8f1ec353858f9c1c18d5aee4bc5eddd9bb56db436ae15e0ad27c", func := "dumbwaiter/dumbwaiterlaw6.DiskBounds", spec := "diskBounds", unfollowed := true, recurses := true, apart := false, narrowed := true }
def DiskBoundsUptoSaid : Prop := diskBoundsUptoRow.holds Try.pinned (OpenSpec.upto diskBoundsSpec)

/-- 'dumbwaiterlaw7.SealUnlike', WHERE WHAT IT READS IS OF BULK AT MOST 1048576: true; the input reads as it did. -/
def sealUnlikeUptoRow : OpenClaim := { program := "ytlbpmboknmbcgaa", sum := "ba32465c46fb8f1ec353858f9c1c18d5aee4bc5eddd9bb56db436ae15e0ad27c", func := "dumbwaiter/dumbwaiterlaw7.SealUnlike", spec := "sealUnlike", apart := false, narrowed := true }
def SealUnlikeUptoSaid : Prop := sealUnlikeUptoRow.holds Try.pinned (OpenSpec.upto sealUnlikeSpec)

/-- 'dumbwaiterlaw7.SealRooms', WHERE WHAT IT READS IS OF BULK AT MOST 1048576: true; the input reads as it did. -/
def sealRoomsUptoRow : OpenClaim := { program := "ytlbpmboknmbcgaa", sum := "ba32465c46fb8f1ec353858f9c1c18d5aee4bc5eddd9bb56db436ae15e0ad27c", func := "dumbwaiter/dumbwaiterlaw7.SealRooms", spec := "sealRooms", apart := false, narrowed := true }
def SealRoomsUptoSaid : Prop := sealRoomsUptoRow.holds Try.pinned (OpenSpec.upto sealRoomsSpec)

/-- 'dumbwaiterlaw7.SealTells', WHERE WHAT IT READS IS OF BULK AT MOST 1048576: true; the input reads as it did. -/
def sealTellsUptoRow : OpenClaim := { program := "ytlbpmboknmbcgaa", sum := "ba32465c46fb8f1ec353858f9c1c18d5aee4bc5eddd9bb56db436ae15e0ad27c", func := "dumbwaiter/dumbwaiterlaw7.SealTells", spec := "sealTells", apart := false, narrowed := true }
def SealTellsUptoSaid : Prop := sealTellsUptoRow.holds Try.pinned (OpenSpec.upto sealTellsSpec)

/-- 'dumbwaiterlaw7.SealBack', WHERE WHAT IT READS IS OF BULK AT MOST 1048576: true; the input reads as it did. -/
def sealBackUptoRow : OpenClaim := { program := "ytlbpmboknmbcgaa", sum := "ba32465c46fb8f1ec353858f9c1c18d5aee4bc5eddd9bb56db436ae15e0ad27c", func := "dumbwaiter/dumbwaiterlaw7.SealBack", spec := "sealBack", apart := false, narrowed := true }
def SealBackUptoSaid : Prop := sealBackUptoRow.holds Try.pinned (OpenSpec.upto sealBackSpec)

/-- 'dumbwaiterlaw8.BootPlaces', WHERE WHAT IT READS IS OF BULK AT MOST 1048576: true; the input reads as it did. -/
def bootPlacesUptoRow : OpenClaim := { program := "ytlbpmboknmbcgaa", sum := "ba32465c46fb8f1ec353858f9c1c18d5aee4bc5eddd9bb56db436ae15e0ad27c", func := "dumbwaiter/dumbwaiterlaw8.BootPlaces", spec := "bootPlaces", apart := false, narrowed := true }
def BootPlacesUptoSaid : Prop := bootPlacesUptoRow.holds Try.pinned (OpenSpec.upto bootPlacesSpec)

/-- 'dumbwaiterlaw8.BootForms', WHERE WHAT IT READS IS OF BULK AT MOST 1048576: true; the input reads as it did. -/
def bootFormsUptoRow : OpenClaim := { program := "ytlbpmboknmbcgaa", sum := "ba32465c46fb8f1ec353858f9c1c18d5aee4bc5eddd9bb56db436ae15e0ad27c", func := "dumbwaiter/dumbwaiterlaw8.BootForms", spec := "bootForms", unfollowed := true, recurses := true, apart := false, narrowed := true }
def BootFormsUptoSaid : Prop := bootFormsUptoRow.holds Try.pinned (OpenSpec.upto bootFormsSpec)

/-- 'dumbwaiterlaw8.BootTells', WHERE WHAT IT READS IS OF BULK AT MOST 1048576: true; the input reads as it did. -/
def bootTellsUptoRow : OpenClaim := { program := "ytlbpmboknmbcgaa", sum := "ba32465c46fb8f1ec353858f9c1c18d5aee4bc5eddd9bb56db436ae15e0ad27c", func := "dumbwaiter/dumbwaiterlaw8.BootTells", spec := "bootTells", apart := false, narrowed := true }
def BootTellsUptoSaid : Prop := bootTellsUptoRow.holds Try.pinned (OpenSpec.upto bootTellsSpec)

/-- 'dumbwaiterlaw8.BootRises', WHERE WHAT IT READS IS OF BULK AT MOST 1048576: true; the input reads as it did. -/
def bootRisesUptoRow : OpenClaim := { program := "ytlbpmboknmbcgaa", sum := "ba32465c46fb8f1ec353858f9c1c18d5aee4bc5eddd9bb56db436ae15e0ad27c", func := "dumbwaiter/dumbwaiterlaw8.BootRises", spec := "bootRises", unfollowed := true, recurses := true, apart := false, narrowed := true }
def BootRisesUptoSaid : Prop := bootRisesUptoRow.holds Try.pinned (OpenSpec.upto bootRisesSpec)

end Rows
end Go.Proofs.Ytlbpmboknmbcgaa
