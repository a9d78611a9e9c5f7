/-
  No cell of these rows narrows 'for every input' (looked for: loops, veiled, ifaces, maps, wideKeys, modest, calm, conditions, laid).
  DERIVED. THE GIVEN ROWS OF THIS SEAT. 21 by the template 'for every input the law returns true; each argument reads behind the call as it read before'; 0 by the template 'total and deterministic' (their statements: YtnpghcikhpglkaaTotals.lean).
  GIVEN WITH THE SEED: the statements are not yours to turn. If you find one false, say at which input.
  Laid BY PROGRAM, IN A SANDBOX (cutbox-rows.mjs): the forced cells as the released guide's own fill.sh prints them over the translation ca3e78b809d3d490… (all of the seat's roots in one cut). By AI agents, Wed Nov 11 2026. No macro, syntax, notation, axiom, sorry.
-/
import Derived.Test.YtnpghcikhpglkaaChecked
import GoSem.Claim
import GoSem.ClaimJoined
import GoSem.ClaimMapViews
import Derived.JoinedTies
import Derived.KernelRfl
namespace Go.Proofs.Ytnpghcikhpglkaa
/- THE CELL 'sum', in the pinned program and in every row, IS THE sha256 OF THE DUMP (.gsa) THAT YtnpghcikhpglkaaProg.lean LOADS. Nothing in Lean hashes anything: it is a label: what it is worth is what the hold of that sum in a sandbox is worth. -/
noncomputable def Try.pinned : Pinned := { name := "ytnpghcikhpglkaa", sum := "ca3e78b809d3d490d342b0c18007253e68faac19cff78f5ab4c4a288ef79389d", checked := Try.checked }
namespace Rows
def none {H : Type} : Left H := { results := [], args := [] }

/-- 'herbariumlaw1.BitsWide': WHATEVER THE INPUT: true; the input reads as it did. -/
def bitsWideSpec : ChangeSpec := { name := "bitsWide", fn := fun _ => fun
  | [d] => { results := [.lit (.bool true)], args := [d] }
  | _ => none }
def bitsWideRow : OpenClaim := { program := "ytnpghcikhpglkaa", sum := "ca3e78b809d3d490d342b0c18007253e68faac19cff78f5ab4c4a288ef79389d", func := "herbarium/herbariumlaw1.BitsWide", spec := "bitsWide", apart := false }
def BitsWideSaid : Prop := bitsWideRow.holds Try.pinned (OpenSpec.ofChange bitsWideSpec)

/-- ITS FALSE NEIGHBOUR: 'it returns false'. Refute it at one input. -/
def bitsWideWrong : ChangeSpec := { name := "bitsWide", fn := fun _ => fun
  | [d] => { results := [.lit (.bool false)], args := [d] }
  | _ => none }
def BitsWideWrongFalsely : Prop := bitsWideRow.holds Try.pinned (OpenSpec.ofChange bitsWideWrong)

/-- 'herbariumlaw13.SpaceRows': WHATEVER THE INPUT: true; the input reads as it did. -/
def spaceRowsSpec : ChangeSpec := { name := "spaceRows", fn := fun _ => fun
  | [d] => { results := [.lit (.bool true)], args := [d] }
  | _ => none }
def spaceRowsRow : OpenClaim := { program := "ytnpghcikhpglkaa", sum := "ca3e78b809d3d490d342b0c18007253e68faac19cff78f5ab4c4a288ef79389d", func := "herbarium/herbariumlaw13.SpaceRows", spec := "spaceRows", apart := false }
def SpaceRowsSaid : Prop := spaceRowsRow.holds Try.pinned (OpenSpec.ofChange spaceRowsSpec)

/-- ITS FALSE NEIGHBOUR: 'it returns false'. Refute it at one input. -/
def spaceRowsWrong : ChangeSpec := { name := "spaceRows", fn := fun _ => fun
  | [d] => { results := [.lit (.bool false)], args := [d] }
  | _ => none }
def SpaceRowsWrongFalsely : Prop := spaceRowsRow.holds Try.pinned (OpenSpec.ofChange spaceRowsWrong)

/-- 'herbariumlaw13.SpaceNeeds': WHATEVER THE INPUT: true; the input reads as it did. -/
def spaceNeedsSpec : ChangeSpec := { name := "spaceNeeds", fn := fun _ => fun
  | [d] => { results := [.lit (.bool true)], args := [d] }
  | _ => none }
def spaceNeedsRow : OpenClaim := { program := "ytnpghcikhpglkaa", sum := "ca3e78b809d3d490d342b0c18007253e68faac19cff78f5ab4c4a288ef79389d", func := "herbarium/herbariumlaw13.SpaceNeeds", spec := "spaceNeeds", apart := false }
def SpaceNeedsSaid : Prop := spaceNeedsRow.holds Try.pinned (OpenSpec.ofChange spaceNeedsSpec)

/-- ITS FALSE NEIGHBOUR: 'it returns false'. Refute it at one input. -/
def spaceNeedsWrong : ChangeSpec := { name := "spaceNeeds", fn := fun _ => fun
  | [d] => { results := [.lit (.bool false)], args := [d] }
  | _ => none }
def SpaceNeedsWrongFalsely : Prop := spaceNeedsRow.holds Try.pinned (OpenSpec.ofChange spaceNeedsWrong)

/-- 'herbariumlaw1.BitsZeros': WHATEVER THE INPUT: true; the input reads as it did. -/
def bitsZerosSpec : ChangeSpec := { name := "bitsZeros", fn := fun _ => fun
  | [d] => { results := [.lit (.bool true)], args := [d] }
  | _ => none }
def bitsZerosRow : OpenClaim := { program := "ytnpghcikhpglkaa", sum := "ca3e78b809d3d490d342b0c18007253e68faac19cff78f5ab4c4a288ef79389d", func := "herbarium/herbariumlaw1.BitsZeros", spec := "bitsZeros", apart := false }
def BitsZerosSaid : Prop := bitsZerosRow.holds Try.pinned (OpenSpec.ofChange bitsZerosSpec)

/-- ITS FALSE NEIGHBOUR: 'it returns false'. Refute it at one input. -/
def bitsZerosWrong : ChangeSpec := { name := "bitsZeros", fn := fun _ => fun
  | [d] => { results := [.lit (.bool false)], args := [d] }
  | _ => none }
def BitsZerosWrongFalsely : Prop := bitsZerosRow.holds Try.pinned (OpenSpec.ofChange bitsZerosWrong)

/-- 'herbariumlaw13.SpaceApart': WHATEVER THE INPUT: true; the input reads as it did. -/
def spaceApartSpec : ChangeSpec := { name := "spaceApart", fn := fun _ => fun
  | [d] => { results := [.lit (.bool true)], args := [d] }
  | _ => none }
def spaceApartRow : OpenClaim := { program := "ytnpghcikhpglkaa", sum := "ca3e78b809d3d490d342b0c18007253e68faac19cff78f5ab4c4a288ef79389d", func := "herbarium/herbariumlaw13.SpaceApart", spec := "spaceApart", apart := false }
def SpaceApartSaid : Prop := spaceApartRow.holds Try.pinned (OpenSpec.ofChange spaceApartSpec)

/-- ITS FALSE NEIGHBOUR: 'it returns false'. Refute it at one input. -/
def spaceApartWrong : ChangeSpec := { name := "spaceApart", fn := fun _ => fun
  | [d] => { results := [.lit (.bool false)], args := [d] }
  | _ => none }
def SpaceApartWrongFalsely : Prop := spaceApartRow.holds Try.pinned (OpenSpec.ofChange spaceApartWrong)

/-- 'herbariumlaw1.BitsBack': WHATEVER THE INPUT: true; the input reads as it did. -/
def bitsBackSpec : ChangeSpec := { name := "bitsBack", fn := fun _ => fun
  | [d] => { results := [.lit (.bool true)], args := [d] }
  | _ => none }
def bitsBackRow : OpenClaim := { program := "ytnpghcikhpglkaa", sum := "ca3e78b809d3d490d342b0c18007253e68faac19cff78f5ab4c4a288ef79389d", func := "herbarium/herbariumlaw1.BitsBack", spec := "bitsBack", apart := false }
def BitsBackSaid : Prop := bitsBackRow.holds Try.pinned (OpenSpec.ofChange bitsBackSpec)

/-- ITS FALSE NEIGHBOUR: 'it returns false'. Refute it at one input. -/
def bitsBackWrong : ChangeSpec := { name := "bitsBack", fn := fun _ => fun
  | [d] => { results := [.lit (.bool false)], args := [d] }
  | _ => none }
def BitsBackWrongFalsely : Prop := bitsBackRow.holds Try.pinned (OpenSpec.ofChange bitsBackWrong)

/-- 'herbariumlaw13.SpaceFinds': WHATEVER THE INPUT: true; the input reads as it did. -/
def spaceFindsSpec : ChangeSpec := { name := "spaceFinds", fn := fun _ => fun
  | [d] => { results := [.lit (.bool true)], args := [d] }
  | _ => none }
def spaceFindsRow : OpenClaim := { program := "ytnpghcikhpglkaa", sum := "ca3e78b809d3d490d342b0c18007253e68faac19cff78f5ab4c4a288ef79389d", func := "herbarium/herbariumlaw13.SpaceFinds", spec := "spaceFinds", apart := false }
def SpaceFindsSaid : Prop := spaceFindsRow.holds Try.pinned (OpenSpec.ofChange spaceFindsSpec)

/-- ITS FALSE NEIGHBOUR: 'it returns false'. Refute it at one input. -/
def spaceFindsWrong : ChangeSpec := { name := "spaceFinds", fn := fun _ => fun
  | [d] => { results := [.lit (.bool false)], args := [d] }
  | _ => none }
def SpaceFindsWrongFalsely : Prop := spaceFindsRow.holds Try.pinned (OpenSpec.ofChange spaceFindsWrong)

/-- 'herbariumlaw1.BitsExact': WHATEVER THE INPUT: true; the input reads as it did. -/
def bitsExactSpec : ChangeSpec := { name := "bitsExact", fn := fun _ => fun
  | [d] => { results := [.lit (.bool true)], args := [d] }
  | _ => none }
def bitsExactRow : OpenClaim := { program := "ytnpghcikhpglkaa", sum := "ca3e78b809d3d490d342b0c18007253e68faac19cff78f5ab4c4a288ef79389d", func := "herbarium/herbariumlaw1.BitsExact", spec := "bitsExact", apart := false }
def BitsExactSaid : Prop := bitsExactRow.holds Try.pinned (OpenSpec.ofChange bitsExactSpec)

/-- ITS FALSE NEIGHBOUR: 'it returns false'. Refute it at one input. -/
def bitsExactWrong : ChangeSpec := { name := "bitsExact", fn := fun _ => fun
  | [d] => { results := [.lit (.bool false)], args := [d] }
  | _ => none }
def BitsExactWrongFalsely : Prop := bitsExactRow.holds Try.pinned (OpenSpec.ofChange bitsExactWrong)

/-- 'herbariumlaw2.CodeCuts': WHATEVER THE INPUT: true; the input reads as it did. -/
def codeCutsSpec : ChangeSpec := { name := "codeCuts", fn := fun _ => fun
  | [d] => { results := [.lit (.bool true)], args := [d] }
  | _ => none }
def codeCutsRow : OpenClaim := { program := "ytnpghcikhpglkaa", sum := "ca3e78b809d3d490d342b0c18007253e68faac19cff78f5ab4c4a288ef79389d", func := "herbarium/herbariumlaw2.CodeCuts", spec := "codeCuts", recurses := true, apart := false }
def CodeCutsSaid : Prop := codeCutsRow.holds Try.pinned (OpenSpec.ofChange codeCutsSpec)

/-- ITS FALSE NEIGHBOUR: 'it returns false'. Refute it at one input. -/
def codeCutsWrong : ChangeSpec := { name := "codeCuts", fn := fun _ => fun
  | [d] => { results := [.lit (.bool false)], args := [d] }
  | _ => none }
def CodeCutsWrongFalsely : Prop := codeCutsRow.holds Try.pinned (OpenSpec.ofChange codeCutsWrong)

/-- 'herbariumlaw2.CodeAny': WHATEVER THE INPUT: true; the input reads as it did. -/
def codeAnySpec : ChangeSpec := { name := "codeAny", fn := fun _ => fun
  | [d] => { results := [.lit (.bool true)], args := [d] }
  | _ => none }
def codeAnyRow : OpenClaim := { program := "ytnpghcikhpglkaa", sum := "ca3e78b809d3d490d342b0c18007253e68faac19cff78f5ab4c4a288ef79389d", func := "herbarium/herbariumlaw2.CodeAny", spec := "codeAny", recurses := true, apart := false }
def CodeAnySaid : Prop := codeAnyRow.holds Try.pinned (OpenSpec.ofChange codeAnySpec)

/-- ITS FALSE NEIGHBOUR: 'it returns false'. Refute it at one input. -/
def codeAnyWrong : ChangeSpec := { name := "codeAny", fn := fun _ => fun
  | [d] => { results := [.lit (.bool false)], args := [d] }
  | _ => none }
def CodeAnyWrongFalsely : Prop := codeAnyRow.holds Try.pinned (OpenSpec.ofChange codeAnyWrong)

/-- 'herbariumlaw2.CodeBack': WHATEVER THE INPUT: true; the input reads as it did. -/
def codeBackSpec : ChangeSpec := { name := "codeBack", fn := fun _ => fun
  | [d] => { results := [.lit (.bool true)], args := [d] }
  | _ => none }
def codeBackRow : OpenClaim := { program := "ytnpghcikhpglkaa", sum := "ca3e78b809d3d490d342b0c18007253e68faac19cff78f5ab4c4a288ef79389d", func := "herbarium/herbariumlaw2.CodeBack", spec := "codeBack", recurses := true, apart := false }
def CodeBackSaid : Prop := codeBackRow.holds Try.pinned (OpenSpec.ofChange codeBackSpec)

/-- ITS FALSE NEIGHBOUR: 'it returns false'. Refute it at one input. -/
def codeBackWrong : ChangeSpec := { name := "codeBack", fn := fun _ => fun
  | [d] => { results := [.lit (.bool false)], args := [d] }
  | _ => none }
def CodeBackWrongFalsely : Prop := codeBackRow.holds Try.pinned (OpenSpec.ofChange codeBackWrong)

/-- 'herbariumlaw2.CodeUnary': WHATEVER THE INPUT: true; the input reads as it did. -/
def codeUnarySpec : ChangeSpec := { name := "codeUnary", fn := fun _ => fun
  | [d] => { results := [.lit (.bool true)], args := [d] }
  | _ => none }
def codeUnaryRow : OpenClaim := { program := "ytnpghcikhpglkaa", sum := "ca3e78b809d3d490d342b0c18007253e68faac19cff78f5ab4c4a288ef79389d", func := "herbarium/herbariumlaw2.CodeUnary", spec := "codeUnary", recurses := true, apart := false }
def CodeUnarySaid : Prop := codeUnaryRow.holds Try.pinned (OpenSpec.ofChange codeUnarySpec)

/-- ITS FALSE NEIGHBOUR: 'it returns false'. Refute it at one input. -/
def codeUnaryWrong : ChangeSpec := { name := "codeUnary", fn := fun _ => fun
  | [d] => { results := [.lit (.bool false)], args := [d] }
  | _ => none }
def CodeUnaryWrongFalsely : Prop := codeUnaryRow.holds Try.pinned (OpenSpec.ofChange codeUnaryWrong)

/-- 'herbariumlaw2.CodeGamma': WHATEVER THE INPUT: true; the input reads as it did. -/
def codeGammaSpec : ChangeSpec := { name := "codeGamma", fn := fun _ => fun
  | [d] => { results := [.lit (.bool true)], args := [d] }
  | _ => none }
def codeGammaRow : OpenClaim := { program := "ytnpghcikhpglkaa", sum := "ca3e78b809d3d490d342b0c18007253e68faac19cff78f5ab4c4a288ef79389d", func := "herbarium/herbariumlaw2.CodeGamma", spec := "codeGamma", recurses := true, apart := false }
def CodeGammaSaid : Prop := codeGammaRow.holds Try.pinned (OpenSpec.ofChange codeGammaSpec)

/-- ITS FALSE NEIGHBOUR: 'it returns false'. Refute it at one input. -/
def codeGammaWrong : ChangeSpec := { name := "codeGamma", fn := fun _ => fun
  | [d] => { results := [.lit (.bool false)], args := [d] }
  | _ => none }
def CodeGammaWrongFalsely : Prop := codeGammaRow.holds Try.pinned (OpenSpec.ofChange codeGammaWrong)

/-- 'herbariumlaw2.CodeDelta': WHATEVER THE INPUT: true; the input reads as it did. -/
def codeDeltaSpec : ChangeSpec := { name := "codeDelta", fn := fun _ => fun
  | [d] => { results := [.lit (.bool true)], args := [d] }
  | _ => none }
def codeDeltaRow : OpenClaim := { program := "ytnpghcikhpglkaa", sum := "ca3e78b809d3d490d342b0c18007253e68faac19cff78f5ab4c4a288ef79389d", func := "herbarium/herbariumlaw2.CodeDelta", spec := "codeDelta", recurses := true, apart := false }
def CodeDeltaSaid : Prop := codeDeltaRow.holds Try.pinned (OpenSpec.ofChange codeDeltaSpec)

/-- ITS FALSE NEIGHBOUR: 'it returns false'. Refute it at one input. -/
def codeDeltaWrong : ChangeSpec := { name := "codeDelta", fn := fun _ => fun
  | [d] => { results := [.lit (.bool false)], args := [d] }
  | _ => none }
def CodeDeltaWrongFalsely : Prop := codeDeltaRow.holds Try.pinned (OpenSpec.ofChange codeDeltaWrong)

/-- 'herbariumlaw2.CodeZetaTwo': WHATEVER THE INPUT: true; the input reads as it did. -/
def codeZetaTwoSpec : ChangeSpec := { name := "codeZetaTwo", fn := fun _ => fun
  | [d] => { results := [.lit (.bool true)], args := [d] }
  | _ => none }
def codeZetaTwoRow : OpenClaim := { program := "ytnpghcikhpglkaa", sum := "ca3e78b809d3d490d342b0c18007253e68faac19cff78f5ab4c4a288ef79389d", func := "herbarium/herbariumlaw2.CodeZetaTwo", spec := "codeZetaTwo", recurses := true, apart := false }
def CodeZetaTwoSaid : Prop := codeZetaTwoRow.holds Try.pinned (OpenSpec.ofChange codeZetaTwoSpec)

/-- ITS FALSE NEIGHBOUR: 'it returns false'. Refute it at one input. -/
def codeZetaTwoWrong : ChangeSpec := { name := "codeZetaTwo", fn := fun _ => fun
  | [d] => { results := [.lit (.bool false)], args := [d] }
  | _ => none }
def CodeZetaTwoWrongFalsely : Prop := codeZetaTwoRow.holds Try.pinned (OpenSpec.ofChange codeZetaTwoWrong)

/-- 'herbariumlaw2.CodeZetaThree': WHATEVER THE INPUT: true; the input reads as it did. -/
def codeZetaThreeSpec : ChangeSpec := { name := "codeZetaThree", fn := fun _ => fun
  | [d] => { results := [.lit (.bool true)], args := [d] }
  | _ => none }
def codeZetaThreeRow : OpenClaim := { program := "ytnpghcikhpglkaa", sum := "ca3e78b809d3d490d342b0c18007253e68faac19cff78f5ab4c4a288ef79389d", func := "herbarium/herbariumlaw2.CodeZetaThree", spec := "codeZetaThree", recurses := true, apart := false }
def CodeZetaThreeSaid : Prop := codeZetaThreeRow.holds Try.pinned (OpenSpec.ofChange codeZetaThreeSpec)

/-- ITS FALSE NEIGHBOUR: 'it returns false'. Refute it at one input. -/
def codeZetaThreeWrong : ChangeSpec := { name := "codeZetaThree", fn := fun _ => fun
  | [d] => { results := [.lit (.bool false)], args := [d] }
  | _ => none }
def CodeZetaThreeWrongFalsely : Prop := codeZetaThreeRow.holds Try.pinned (OpenSpec.ofChange codeZetaThreeWrong)

/-- 'herbariumlaw2.CodeSmall': WHATEVER THE INPUT: true; the input reads as it did. -/
def codeSmallSpec : ChangeSpec := { name := "codeSmall", fn := fun _ => fun
  | [d] => { results := [.lit (.bool true)], args := [d] }
  | _ => none }
def codeSmallRow : OpenClaim := { program := "ytnpghcikhpglkaa", sum := "ca3e78b809d3d490d342b0c18007253e68faac19cff78f5ab4c4a288ef79389d", func := "herbarium/herbariumlaw2.CodeSmall", spec := "codeSmall", recurses := true, apart := false }
def CodeSmallSaid : Prop := codeSmallRow.holds Try.pinned (OpenSpec.ofChange codeSmallSpec)

/-- ITS FALSE NEIGHBOUR: 'it returns false'. Refute it at one input. -/
def codeSmallWrong : ChangeSpec := { name := "codeSmall", fn := fun _ => fun
  | [d] => { results := [.lit (.bool false)], args := [d] }
  | _ => none }
def CodeSmallWrongFalsely : Prop := codeSmallRow.holds Try.pinned (OpenSpec.ofChange codeSmallWrong)

/-- 'herbariumlaw2.CodeZigs': WHATEVER THE INPUT: true; the input reads as it did. -/
def codeZigsSpec : ChangeSpec := { name := "codeZigs", fn := fun _ => fun
  | [d] => { results := [.lit (.bool true)], args := [d] }
  | _ => none }
def codeZigsRow : OpenClaim := { program := "ytnpghcikhpglkaa", sum := "ca3e78b809d3d490d342b0c18007253e68faac19cff78f5ab4c4a288ef79389d", func := "herbarium/herbariumlaw2.CodeZigs", spec := "codeZigs", recurses := true, apart := false }
def CodeZigsSaid : Prop := codeZigsRow.holds Try.pinned (OpenSpec.ofChange codeZigsSpec)

/-- ITS FALSE NEIGHBOUR: 'it returns false'. Refute it at one input. -/
def codeZigsWrong : ChangeSpec := { name := "codeZigs", fn := fun _ => fun
  | [d] => { results := [.lit (.bool false)], args := [d] }
  | _ => none }
def CodeZigsWrongFalsely : Prop := codeZigsRow.holds Try.pinned (OpenSpec.ofChange codeZigsWrong)

/-- 'herbariumlaw3.GapsBack': WHATEVER THE INPUT: true; the input reads as it did. -/
def gapsBackSpec : ChangeSpec := { name := "gapsBack", fn := fun _ => fun
  | [d] => { results := [.lit (.bool true)], args := [d] }
  | _ => none }
def gapsBackRow : OpenClaim := { program := "ytnpghcikhpglkaa", sum := "ca3e78b809d3d490d342b0c18007253e68faac19cff78f5ab4c4a288ef79389d", func := "herbarium/herbariumlaw3.GapsBack", spec := "gapsBack", recurses := true, apart := false }
def GapsBackSaid : Prop := gapsBackRow.holds Try.pinned (OpenSpec.ofChange gapsBackSpec)

/-- ITS FALSE NEIGHBOUR: 'it returns false'. Refute it at one input. -/
def gapsBackWrong : ChangeSpec := { name := "gapsBack", fn := fun _ => fun
  | [d] => { results := [.lit (.bool false)], args := [d] }
  | _ => none }
def GapsBackWrongFalsely : Prop := gapsBackRow.holds Try.pinned (OpenSpec.ofChange gapsBackWrong)

/-- 'herbariumlaw3.GapsAll': WHATEVER THE INPUT: true; the input reads as it did. -/
def gapsAllSpec : ChangeSpec := { name := "gapsAll", fn := fun _ => fun
  | [d] => { results := [.lit (.bool true)], args := [d] }
  | _ => none }
def gapsAllRow : OpenClaim := { program := "ytnpghcikhpglkaa", sum := "ca3e78b809d3d490d342b0c18007253e68faac19cff78f5ab4c4a288ef79389d", func := "herbarium/herbariumlaw3.GapsAll", spec := "gapsAll", recurses := true, apart := false }
def GapsAllSaid : Prop := gapsAllRow.holds Try.pinned (OpenSpec.ofChange gapsAllSpec)

/-- ITS FALSE NEIGHBOUR: 'it returns false'. Refute it at one input. -/
def gapsAllWrong : ChangeSpec := { name := "gapsAll", fn := fun _ => fun
  | [d] => { results := [.lit (.bool false)], args := [d] }
  | _ => none }
def GapsAllWrongFalsely : Prop := gapsAllRow.holds Try.pinned (OpenSpec.ofChange gapsAllWrong)

/-- 'herbariumlaw3.GapsExact': WHATEVER THE INPUT: true; the input reads as it did. -/
def gapsExactSpec : ChangeSpec := { name := "gapsExact", fn := fun _ => fun
  | [d] => { results := [.lit (.bool true)], args := [d] }
  | _ => none }
def gapsExactRow : OpenClaim := { program := "ytnpghcikhpglkaa", sum := "ca3e78b809d3d490d342b0c18007253e68faac19cff78f5ab4c4a288ef79389d", func := "herbarium/herbariumlaw3.GapsExact", spec := "gapsExact", recurses := true, apart := false }
def GapsExactSaid : Prop := gapsExactRow.holds Try.pinned (OpenSpec.ofChange gapsExactSpec)

/-- ITS FALSE NEIGHBOUR: 'it returns false'. Refute it at one input. -/
def gapsExactWrong : ChangeSpec := { name := "gapsExact", fn := fun _ => fun
  | [d] => { results := [.lit (.bool false)], args := [d] }
  | _ => none }
def GapsExactWrongFalsely : Prop := gapsExactRow.holds Try.pinned (OpenSpec.ofChange gapsExactWrong)

/- THE SECOND FORM. 'bulk': how many values and letters a reading holds, each counted each time it is reached (what is shared counts as often as it is met; a slice's spare places count too). A statement '..UptoSaid' is the law's where the arguments, and the package variables that the reading takes, are together of bulk at most 1048576: NARROWER than '..Said'. Prove '..Said' where nothing that the law and all that it calls make is longer than what came in: it says more and counts as full. Else prove '..UptoSaid'. A law counts once. -/
mutual
def uptoBulk {H : Type} : DataW H → Nat
  | .lit (.string bytes) => bytes.length + 1
  | .lit _ => 1
  | .nil => 1
  | .ptr d => uptoBulk d + 1
  | .slice elems spare => uptoBulkAll elems + uptoBulkAll spare + 1
  | .agg parts => uptoBulkAll parts + 1
  | .iface _ d => uptoBulk d + 1
  | .map entries => uptoBulkEntries entries + 1
  | .held _ => 1
def uptoBulkAll {H : Type} : List (DataW H) → Nat
  | [] => 0
  | d :: r => uptoBulk d + uptoBulkAll r
def uptoBulkEntries {H : Type} : List (Lit × DataW H) → Nat
  | [] => 0
  | x :: r => uptoBulkEntry x + uptoBulkEntries r
def uptoBulkEntry {H : Type} : Lit × DataW H → Nat
  | (.string bytes, d) => bytes.length + uptoBulk d + 1
  | (_, d) => uptoBulk d + 1
 end
def uptoSmall : (H : Type) → List (DataW H) → Bool := fun _ ds => decide (uptoBulkAll ds ≤ 1048576)
def OpenSpec.upto (s : _root_.Go.ChangeSpec) : _root_.Go.OpenSpec := { _root_.Go.OpenSpec.ofChange s with cond := some uptoSmall }

/-- 'herbariumlaw1.BitsWide', WHERE WHAT IT READS IS OF BULK AT MOST 1048576: true; the input reads as it did. -/
def bitsWideUptoRow : OpenClaim := { program := "ytnpghcikhpglkaa", sum := "ca3e78b809d3d490d342b0c18007253e68faac19cff78f5ab4c4a288ef79389d", func := "herbarium/herbariumlaw1.BitsWide", spec := "bitsWide", apart := false, narrowed := true }
def BitsWideUptoSaid : Prop := bitsWideUptoRow.holds Try.pinned (OpenSpec.upto bitsWideSpec)

/-- 'herbariumlaw13.SpaceRows', WHERE WHAT IT READS IS OF BULK AT MOST 1048576: true; the input reads as it did. -/
def spaceRowsUptoRow : OpenClaim := { program := "ytnpghcikhpglkaa", sum := "ca3e78b809d3d490d342b0c18007253e68faac19cff78f5ab4c4a288ef79389d", func := "herbarium/herbariumlaw13.SpaceRows", spec := "spaceRows", apart := false, narrowed := true }
def SpaceRowsUptoSaid : Prop := spaceRowsUptoRow.holds Try.pinned (OpenSpec.upto spaceRowsSpec)

/-- 'herbariumlaw13.SpaceNeeds', WHERE WHAT IT READS IS OF BULK AT MOST 1048576: true; the input reads as it did. -/
def spaceNeedsUptoRow : OpenClaim := { program := "ytnpghcikhpglkaa", sum := "ca3e78b809d3d490d342b0c18007253e68faac19cff78f5ab4c4a288ef79389d", func := "herbarium/herbariumlaw13.SpaceNeeds", spec := "spaceNeeds", apart := false, narrowed := true }
def SpaceNeedsUptoSaid : Prop := spaceNeedsUptoRow.holds Try.pinned (OpenSpec.upto spaceNeedsSpec)

/-- 'herbariumlaw1.BitsZeros', WHERE WHAT IT READS IS OF BULK AT MOST 1048576: true; the input reads as it did. -/
def bitsZerosUptoRow : OpenClaim := { program := "ytnpghcikhpglkaa", sum := "ca3e78b809d3d490d342b0c18007253e68faac19cff78f5ab4c4a288ef79389d", func := "herbarium/herbariumlaw1.BitsZeros", spec := "bitsZeros", apart := false, narrowed := true }
def BitsZerosUptoSaid : Prop := bitsZerosUptoRow.holds Try.pinned (OpenSpec.upto bitsZerosSpec)

/-- 'herbariumlaw13.SpaceApart', WHERE WHAT IT READS IS OF BULK AT MOST 1048576: true; the input reads as it did. -/
def spaceApartUptoRow : OpenClaim := { program := "ytnpghcikhpglkaa", sum := "ca3e78b809d3d490d342b0c18007253e68faac19cff78f5ab4c4a288ef79389d", func := "herbarium/herbariumlaw13.SpaceApart", spec := "spaceApart", apart := false, narrowed := true }
def SpaceApartUptoSaid : Prop := spaceApartUptoRow.holds Try.pinned (OpenSpec.upto spaceApartSpec)

/-- 'herbariumlaw1.BitsBack', WHERE WHAT IT READS IS OF BULK AT MOST 1048576: true; the input reads as it did. -/
def bitsBackUptoRow : OpenClaim := { program := "ytnpghcikhpglkaa", sum := "ca3e78b809d3d490d342b0c18007253e68faac19cff78f5ab4c4a288ef79389d", func := "herbarium/herbariumlaw1.BitsBack", spec := "bitsBack", apart := false, narrowed := true }
def BitsBackUptoSaid : Prop := bitsBackUptoRow.holds Try.pinned (OpenSpec.upto bitsBackSpec)

/-- 'herbariumlaw13.SpaceFinds', WHERE WHAT IT READS IS OF BULK AT MOST 1048576: true; the input reads as it did. -/
def spaceFindsUptoRow : OpenClaim := { program := "ytnpghcikhpglkaa", sum := "ca3e78b809d3d490d342b0c18007253e68faac19cff78f5ab4c4a288ef79389d", func := "herbarium/herbariumlaw13.SpaceFinds", spec := "spaceFinds", apart := false, narrowed := true }
def SpaceFindsUptoSaid : Prop := spaceFindsUptoRow.holds Try.pinned (OpenSpec.upto spaceFindsSpec)

/-- 'herbariumlaw1.BitsExact', WHERE WHAT IT READS IS OF BULK AT MOST 1048576: true; the input reads as it did. -/
def bitsExactUptoRow : OpenClaim := { program := "ytnpghcikhpglkaa", sum := "ca3e78b809d3d490d342b0c18007253e68faac19cff78f5ab4c4a288ef79389d", func := "herbarium/herbariumlaw1.BitsExact", spec := "bitsExact", apart := false, narrowed := true }
def BitsExactUptoSaid : Prop := bitsExactUptoRow.holds Try.pinned (OpenSpec.upto bitsExactSpec)

/-- 'herbariumlaw2.CodeCuts', WHERE WHAT IT READS IS OF BULK AT MOST 1048576: true; the input reads as it did. -/
def codeCutsUptoRow : OpenClaim := { program := "ytnpghcikhpglkaa", sum := "ca3e78b809d3d490d342b0c18007253e68faac19cff78f5ab4c4a288ef79389d", func := "herbarium/herbariumlaw2.CodeCuts", spec := "codeCuts", recurses := true, apart := false, narrowed := true }
def CodeCutsUptoSaid : Prop := codeCutsUptoRow.holds Try.pinned (OpenSpec.upto codeCutsSpec)

/-- 'herbariumlaw2.CodeAny', WHERE WHAT IT READS IS OF BULK AT MOST 1048576: true; the input reads as it did. -/
def codeAnyUptoRow : OpenClaim := { program := "ytnpghcikhpglkaa", sum := "ca3e78b809d3d490d342b0c18007253e68faac19cff78f5ab4c4a288ef79389d", func := "herbarium/herbariumlaw2.CodeAny", spec := "codeAny", recurses := true, apart := false, narrowed := true }
def CodeAnyUptoSaid : Prop := codeAnyUptoRow.holds Try.pinned (OpenSpec.upto codeAnySpec)

/-- 'herbariumlaw2.CodeBack', WHERE WHAT IT READS IS OF BULK AT MOST 1048576: true; the input reads as it did. -/
def codeBackUptoRow : OpenClaim := { program := "ytnpghcikhpglkaa", sum := "ca3e78b809d3d490d342b0c18007253e68faac19cff78f5ab4c4a288ef79389d", func := "herbarium/herbariumlaw2.CodeBack", spec := "codeBack", recurses := true, apart := false, narrowed := true }
def CodeBackUptoSaid : Prop := codeBackUptoRow.holds Try.pinned (OpenSpec.upto codeBackSpec)

/-- 'herbariumlaw2.CodeUnary', WHERE WHAT IT READS IS OF BULK AT MOST 1048576: true; the input reads as it did. -/
def codeUnaryUptoRow : OpenClaim := { program := "ytnpghcikhpglkaa", sum := "ca3e78b809d3d490d342b0c18007253e68faac19cff78f5ab4c4a288ef79389d", func := "herbarium/herbariumlaw2.CodeUnary", spec := "codeUnary", recurses := true, apart := false, narrowed := true }
def CodeUnaryUptoSaid : Prop := codeUnaryUptoRow.holds Try.pinned (OpenSpec.upto codeUnarySpec)

/-- 'herbariumlaw2.CodeGamma', WHERE WHAT IT READS IS OF BULK AT MOST 1048576: true; the input reads as it did. -/
def codeGammaUptoRow : OpenClaim := { program := "ytnpghcikhpglkaa", sum := "ca3e78b809d3d490d342b0c18007253e68faac19cff78f5ab4c4a288ef79389d", func := "herbarium/herbariumlaw2.CodeGamma", spec := "codeGamma", recurses := true, apart := false, narrowed := true }
def CodeGammaUptoSaid : Prop := codeGammaUptoRow.holds Try.pinned (OpenSpec.upto codeGammaSpec)

/-- 'herbariumlaw2.CodeDelta', WHERE WHAT IT READS IS OF BULK AT MOST 1048576: true; the input reads as it did. -/
def codeDeltaUptoRow : OpenClaim := { program := "ytnpghcikhpglkaa", sum := "ca3e78b809d3d490d342b0c18007253e68faac19cff78f5ab4c4a288ef79389d", func := "herbarium/herbariumlaw2.CodeDelta", spec := "codeDelta", recurses := true, apart := false, narrowed := true }
def CodeDeltaUptoSaid : Prop := codeDeltaUptoRow.holds Try.pinned (OpenSpec.upto codeDeltaSpec)

/-- 'herbariumlaw2.CodeZetaTwo', WHERE WHAT IT READS IS OF BULK AT MOST 1048576: true; the input reads as it did. -/
def codeZetaTwoUptoRow : OpenClaim := { program := "ytnpghcikhpglkaa", sum := "ca3e78b809d3d490d342b0c18007253e68faac19cff78f5ab4c4a288ef79389d", func := "herbarium/herbariumlaw2.CodeZetaTwo", spec := "codeZetaTwo", recurses := true, apart := false, narrowed := true }
def CodeZetaTwoUptoSaid : Prop := codeZetaTwoUptoRow.holds Try.pinned (OpenSpec.upto codeZetaTwoSpec)

/-- 'herbariumlaw2.CodeZetaThree', WHERE WHAT IT READS IS OF BULK AT MOST 1048576: true; the input reads as it did. -/
def codeZetaThreeUptoRow : OpenClaim := { program := "ytnpghcikhpglkaa", sum := "ca3e78b809d3d490d342b0c18007253e68faac19cff78f5ab4c4a288ef79389d", func := "herbarium/herbariumlaw2.CodeZetaThree", spec := "codeZetaThree", recurses := true, apart := false, narrowed := true }
def CodeZetaThreeUptoSaid : Prop := codeZetaThreeUptoRow.holds Try.pinned (OpenSpec.upto codeZetaThreeSpec)

/-- 'herbariumlaw2.CodeSmall', WHERE WHAT IT READS IS OF BULK AT MOST 1048576: true; the input reads as it did. -/
def codeSmallUptoRow : OpenClaim := { program := "ytnpghcikhpglkaa", sum := "ca3e78b809d3d490d342b0c18007253e68faac19cff78f5ab4c4a288ef79389d", func := "herbarium/herbariumlaw2.CodeSmall", spec := "codeSmall", recurses := true, apart := false, narrowed := true }
def CodeSmallUptoSaid : Prop := codeSmallUptoRow.holds Try.pinned (OpenSpec.upto codeSmallSpec)

/-- 'herbariumlaw2.CodeZigs', WHERE WHAT IT READS IS OF BULK AT MOST 1048576: true; the input reads as it did. -/
def codeZigsUptoRow : OpenClaim := { program := "ytnpghcikhpglkaa", sum := "ca3e78b809d3d490d342b0c18007253e68faac19cff78f5ab4c4a288ef79389d", func := "herbarium/herbariumlaw2.CodeZigs", spec := "codeZigs", recurses := true, apart := false, narrowed := true }
def CodeZigsUptoSaid : Prop := codeZigsUptoRow.holds Try.pinned (OpenSpec.upto codeZigsSpec)

/-- 'herbariumlaw3.GapsBack', WHERE WHAT IT READS IS OF BULK AT MOST 1048576: true; the input reads as it did. -/
def gapsBackUptoRow : OpenClaim := { program := "ytnpghcikhpglkaa", sum := "ca3e78b809d3d490d342b0c18007253e68faac19cff78f5ab4c4a288ef79389d", func := "herbarium/herbariumlaw3.GapsBack", spec := "gapsBack", recurses := true, apart := false, narrowed := true }
def GapsBackUptoSaid : Prop := gapsBackUptoRow.holds Try.pinned (OpenSpec.upto gapsBackSpec)

/-- 'herbariumlaw3.GapsAll', WHERE WHAT IT READS IS OF BULK AT MOST 1048576: true; the input reads as it did. -/
def gapsAllUptoRow : OpenClaim := { program := "ytnpghcikhpglkaa", sum := "ca3e78b809d3d490d342b0c18007253e68faac19cff78f5ab4c4a288ef79389d", func := "herbarium/herbariumlaw3.GapsAll", spec := "gapsAll", recurses := true, apart := false, narrowed := true }
def GapsAllUptoSaid : Prop := gapsAllUptoRow.holds Try.pinned (OpenSpec.upto gapsAllSpec)

/-- 'herbariumlaw3.GapsExact', WHERE WHAT IT READS IS OF BULK AT MOST 1048576: true; the input reads as it did. -/
def gapsExactUptoRow : OpenClaim := { program := "ytnpghcikhpglkaa", sum := "ca3e78b809d3d490d342b0c18007253e68faac19cff78f5ab4c4a288ef79389d", func := "herbarium/herbariumlaw3.GapsExact", spec := "gapsExact", recurses := true, apart := false, narrowed := true }
def GapsExactUptoSaid : Prop := gapsExactUptoRow.holds Try.pinned (OpenSpec.upto gapsExactSpec)

end Rows
end Go.Proofs.Ytnpghcikhpglkaa
