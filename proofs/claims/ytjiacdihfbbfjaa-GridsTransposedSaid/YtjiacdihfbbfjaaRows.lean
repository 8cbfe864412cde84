/-
  No cell of these rows narrows 'for every input' (looked for: loops, veiled, ifaces, maps, wideKeys, modest, calm, conditions, laid).
  DERIVED. THE GIVEN ROWS OF THIS SEAT. 17 by the template 'for every input the law returns true; each argument reads behind the call as it read before'; 0 by the template 'total and deterministic' (their statements: YtjiacdihfbbfjaaTotals.lean).
  GIVEN WITH THE SEED: the statements are not yours to turn. If you find one false, say at which input.
  Laid BY PROGRAM, IN A SANDBOX (cutbox-rows.mjs): the forced cells as the released guide's own fill.sh prints them over the translation e0c9a4e8d4846224… (all of the seat's roots in one cut). By AI agents, Wed Nov 11 2026. No macro, syntax, notation, axiom, sorry.
-/
import Derived.Test.YtjiacdihfbbfjaaChecked
import GoSem.Claim
import GoSem.ClaimJoined
import GoSem.ClaimMapViews
import Derived.JoinedTies
import Derived.KernelRfl
namespace Go.Proofs.Ytjiacdihfbbfjaa
/- THE CELL 'sum', in the pinned program and in every row, IS THE sha256 OF THE DUMP (.gsa) THAT YtjiacdihfbbfjaaProg.lean LOADS. Nothing in Lean hashes anything: it is a label: what it is worth is what the hold of that sum in a sandbox is worth. -/
noncomputable def Try.pinned : Pinned := { name := "ytjiacdihfbbfjaa", sum := "e0c9a4e8d484622404045eb2297e29603158a60eb9de0c062ffff6ac702da9e9", checked := Try.checked }
namespace Rows
def none {H : Type} : Left H := { results := [], args := [] }

/-- 'gridwrightlaw14.MovesSpec': WHATEVER THE INPUT: true; the input reads as it did. -/
def movesSpecSpec : ChangeSpec := { name := "movesSpec", fn := fun _ => fun
  | [d1, d2, d3] => { results := [.lit (.bool true)], args := [d1, d2, d3] }
  | _ => none }
def movesSpecRow : OpenClaim := { program := "ytjiacdihfbbfjaa", sum := "e0c9a4e8d484622404045eb2297e29603158a60eb9de0c062ffff6ac702da9e9", func := "gridwright/gridwrightlaw14.MovesSpec", spec := "movesSpec", inPlace := ["slices.overlaps[[]int]"], unfollowed := true, recurses := true, plainKeys := false, apart := false }
def MovesSpecSaid : Prop := movesSpecRow.holds Try.pinned (OpenSpec.ofChange movesSpecSpec)

/-- ITS FALSE NEIGHBOUR: 'it returns false'. Refute it at one input. -/
def movesSpecWrong : ChangeSpec := { name := "movesSpec", fn := fun _ => fun
  | [d1, d2, d3] => { results := [.lit (.bool false)], args := [d1, d2, d3] }
  | _ => none }
def MovesSpecWrongFalsely : Prop := movesSpecRow.holds Try.pinned (OpenSpec.ofChange movesSpecWrong)

/-- 'gridwrightlaw14.MovesSwapsSpec': WHATEVER THE INPUT: true; the input reads as it did. -/
def movesSwapsSpecSpec : ChangeSpec := { name := "movesSwapsSpec", fn := fun _ => fun
  | [d1, d2] => { results := [.lit (.bool true)], args := [d1, d2] }
  | _ => none }
def movesSwapsSpecRow : OpenClaim := { program := "ytjiacdihfbbfjaa", sum := "e0c9a4e8d484622404045eb2297e29603158a60eb9de0c062ffff6ac702da9e9", func := "gridwright/gridwrightlaw14.MovesSwapsSpec", spec := "movesSwapsSpec", inPlace := ["slices.overlaps[[]int]"], unfollowed := true, recurses := true, plainKeys := false, apart := false }
def MovesSwapsSpecSaid : Prop := movesSwapsSpecRow.holds Try.pinned (OpenSpec.ofChange movesSwapsSpecSpec)

/-- ITS FALSE NEIGHBOUR: 'it returns false'. Refute it at one input. -/
def movesSwapsSpecWrong : ChangeSpec := { name := "movesSwapsSpec", fn := fun _ => fun
  | [d1, d2] => { results := [.lit (.bool false)], args := [d1, d2] }
  | _ => none }
def MovesSwapsSpecWrongFalsely : Prop := movesSwapsSpecRow.holds Try.pinned (OpenSpec.ofChange movesSwapsSpecWrong)

/-- 'gridwrightlaw14.MovesGroup': WHATEVER THE INPUT: true; the input reads as it did. -/
def movesGroupSpec : ChangeSpec := { name := "movesGroup", fn := fun _ => fun
  | [d1, d2, d3, d4] => { results := [.lit (.bool true)], args := [d1, d2, d3, d4] }
  | _ => none }
def movesGroupRow : OpenClaim := { program := "ytjiacdihfbbfjaa", sum := "e0c9a4e8d484622404045eb2297e29603158a60eb9de0c062ffff6ac702da9e9", func := "gridwright/gridwrightlaw14.MovesGroup", spec := "movesGroup", inPlace := ["slices.overlaps[[]int]"], unfollowed := true, recurses := true, plainKeys := false, apart := false }
def MovesGroupSaid : Prop := movesGroupRow.holds Try.pinned (OpenSpec.ofChange movesGroupSpec)

/-- ITS FALSE NEIGHBOUR: 'it returns false'. Refute it at one input. -/
def movesGroupWrong : ChangeSpec := { name := "movesGroup", fn := fun _ => fun
  | [d1, d2, d3, d4] => { results := [.lit (.bool false)], args := [d1, d2, d3, d4] }
  | _ => none }
def MovesGroupWrongFalsely : Prop := movesGroupRow.holds Try.pinned (OpenSpec.ofChange movesGroupWrong)

/-- 'gridwrightlaw14.MovesDistances': WHATEVER THE INPUT: true; the input reads as it did. -/
def movesDistancesSpec : ChangeSpec := { name := "movesDistances", fn := fun _ => fun
  | [d1, d2, d3, d4] => { results := [.lit (.bool true)], args := [d1, d2, d3, d4] }
  | _ => none }
def movesDistancesRow : OpenClaim := { program := "ytjiacdihfbbfjaa", sum := "e0c9a4e8d484622404045eb2297e29603158a60eb9de0c062ffff6ac702da9e9", func := "gridwright/gridwrightlaw14.MovesDistances", spec := "movesDistances", inPlace := ["slices.overlaps[[]int]"], unfollowed := true, recurses := true, plainKeys := false, apart := false }
def MovesDistancesSaid : Prop := movesDistancesRow.holds Try.pinned (OpenSpec.ofChange movesDistancesSpec)

/-- ITS FALSE NEIGHBOUR: 'it returns false'. Refute it at one input. -/
def movesDistancesWrong : ChangeSpec := { name := "movesDistances", fn := fun _ => fun
  | [d1, d2, d3, d4] => { results := [.lit (.bool false)], args := [d1, d2, d3, d4] }
  | _ => none }
def MovesDistancesWrongFalsely : Prop := movesDistancesRow.holds Try.pinned (OpenSpec.ofChange movesDistancesWrong)

/-- 'gridwrightlaw14.MovesBorder': WHATEVER THE INPUT: true; the input reads as it did. -/
def movesBorderSpec : ChangeSpec := { name := "movesBorder", fn := fun _ => fun
  | [d1, d2, d3, d4, d5, d6, d7, d8] => { results := [.lit (.bool true)], args := [d1, d2, d3, d4, d5, d6, d7, d8] }
  | _ => none }
def movesBorderRow : OpenClaim := { program := "ytjiacdihfbbfjaa", sum := "e0c9a4e8d484622404045eb2297e29603158a60eb9de0c062ffff6ac702da9e9", func := "gridwright/gridwrightlaw14.MovesBorder", spec := "movesBorder", inPlace := ["slices.overlaps[[]int]"], unfollowed := true, recurses := true, plainKeys := false, apart := false }
def MovesBorderSaid : Prop := movesBorderRow.holds Try.pinned (OpenSpec.ofChange movesBorderSpec)

/-- ITS FALSE NEIGHBOUR: 'it returns false'. Refute it at one input. -/
def movesBorderWrong : ChangeSpec := { name := "movesBorder", fn := fun _ => fun
  | [d1, d2, d3, d4, d5, d6, d7, d8] => { results := [.lit (.bool false)], args := [d1, d2, d3, d4, d5, d6, d7, d8] }
  | _ => none }
def MovesBorderWrongFalsely : Prop := movesBorderRow.holds Try.pinned (OpenSpec.ofChange movesBorderWrong)

/-- 'gridwrightlaw14.MovesFull': WHATEVER THE INPUT: true; the input reads as it did. -/
def movesFullSpec : ChangeSpec := { name := "movesFull", fn := fun _ => fun
  | [d1, d2] => { results := [.lit (.bool true)], args := [d1, d2] }
  | _ => none }
def movesFullRow : OpenClaim := { program := "ytjiacdihfbbfjaa", sum := "e0c9a4e8d484622404045eb2297e29603158a60eb9de0c062ffff6ac702da9e9", func := "gridwright/gridwrightlaw14.MovesFull", spec := "movesFull", inPlace := ["slices.overlaps[[]int]"], unfollowed := true, recurses := true, plainKeys := false, apart := false }
def MovesFullSaid : Prop := movesFullRow.holds Try.pinned (OpenSpec.ofChange movesFullSpec)

/-- ITS FALSE NEIGHBOUR: 'it returns false'. Refute it at one input. -/
def movesFullWrong : ChangeSpec := { name := "movesFull", fn := fun _ => fun
  | [d1, d2] => { results := [.lit (.bool false)], args := [d1, d2] }
  | _ => none }
def MovesFullWrongFalsely : Prop := movesFullRow.holds Try.pinned (OpenSpec.ofChange movesFullWrong)

/-- 'gridwrightlaw14.MovesSwap': WHATEVER THE INPUT: true; the input reads as it did. -/
def movesSwapSpec : ChangeSpec := { name := "movesSwap", fn := fun _ => fun
  | [d1, d2] => { results := [.lit (.bool true)], args := [d1, d2] }
  | _ => none }
def movesSwapRow : OpenClaim := { program := "ytjiacdihfbbfjaa", sum := "e0c9a4e8d484622404045eb2297e29603158a60eb9de0c062ffff6ac702da9e9", func := "gridwright/gridwrightlaw14.MovesSwap", spec := "movesSwap", inPlace := ["slices.overlaps[[]int]"], unfollowed := true, recurses := true, plainKeys := false, apart := false }
def MovesSwapSaid : Prop := movesSwapRow.holds Try.pinned (OpenSpec.ofChange movesSwapSpec)

/-- ITS FALSE NEIGHBOUR: 'it returns false'. Refute it at one input. -/
def movesSwapWrong : ChangeSpec := { name := "movesSwap", fn := fun _ => fun
  | [d1, d2] => { results := [.lit (.bool false)], args := [d1, d2] }
  | _ => none }
def MovesSwapWrongFalsely : Prop := movesSwapRow.holds Try.pinned (OpenSpec.ofChange movesSwapWrong)

/-- 'gridwrightlaw13.GridsMakeSpec': WHATEVER THE INPUT: true; the input reads as it did. -/
def gridsMakeSpecSpec : ChangeSpec := { name := "gridsMakeSpec", fn := fun _ => fun
  | [d1, d2, d3, d4, d5, d6] => { results := [.lit (.bool true)], args := [d1, d2, d3, d4, d5, d6] }
  | _ => none }
def gridsMakeSpecRow : OpenClaim := { program := "ytjiacdihfbbfjaa", sum := "e0c9a4e8d484622404045eb2297e29603158a60eb9de0c062ffff6ac702da9e9", func := "gridwright/gridwrightlaw13.GridsMakeSpec", spec := "gridsMakeSpec", unfollowed := true, recurses := true, plainKeys := false, apart := false }
def GridsMakeSpecSaid : Prop := gridsMakeSpecRow.holds Try.pinned (OpenSpec.ofChange gridsMakeSpecSpec)

/-- ITS FALSE NEIGHBOUR: 'it returns false'. Refute it at one input. -/
def gridsMakeSpecWrong : ChangeSpec := { name := "gridsMakeSpec", fn := fun _ => fun
  | [d1, d2, d3, d4, d5, d6] => { results := [.lit (.bool false)], args := [d1, d2, d3, d4, d5, d6] }
  | _ => none }
def GridsMakeSpecWrongFalsely : Prop := gridsMakeSpecRow.holds Try.pinned (OpenSpec.ofChange gridsMakeSpecWrong)

/-- 'gridwrightlaw13.GridsFamilySpec': WHATEVER THE INPUT: true; the input reads as it did. -/
def gridsFamilySpecSpec : ChangeSpec := { name := "gridsFamilySpec", fn := fun _ => fun
  | [d1, d2] => { results := [.lit (.bool true)], args := [d1, d2] }
  | _ => none }
def gridsFamilySpecRow : OpenClaim := { program := "ytjiacdihfbbfjaa", sum := "e0c9a4e8d484622404045eb2297e29603158a60eb9de0c062ffff6ac702da9e9", func := "gridwright/gridwrightlaw13.GridsFamilySpec", spec := "gridsFamilySpec", unfollowed := true, recurses := true, plainKeys := false, apart := false }
def GridsFamilySpecSaid : Prop := gridsFamilySpecRow.holds Try.pinned (OpenSpec.ofChange gridsFamilySpecSpec)

/-- ITS FALSE NEIGHBOUR: 'it returns false'. Refute it at one input. -/
def gridsFamilySpecWrong : ChangeSpec := { name := "gridsFamilySpec", fn := fun _ => fun
  | [d1, d2] => { results := [.lit (.bool false)], args := [d1, d2] }
  | _ => none }
def GridsFamilySpecWrongFalsely : Prop := gridsFamilySpecRow.holds Try.pinned (OpenSpec.ofChange gridsFamilySpecWrong)

/-- 'gridwrightlaw13.GridsRegionsSpec': WHATEVER THE INPUT: true; the input reads as it did. -/
def gridsRegionsSpecSpec : ChangeSpec := { name := "gridsRegionsSpec", fn := fun _ => fun
  | [d1, d2] => { results := [.lit (.bool true)], args := [d1, d2] }
  | _ => none }
def gridsRegionsSpecRow : OpenClaim := { program := "ytjiacdihfbbfjaa", sum := "e0c9a4e8d484622404045eb2297e29603158a60eb9de0c062ffff6ac702da9e9", func := "gridwright/gridwrightlaw13.GridsRegionsSpec", spec := "gridsRegionsSpec", unfollowed := true, recurses := true, plainKeys := false, apart := false }
def GridsRegionsSpecSaid : Prop := gridsRegionsSpecRow.holds Try.pinned (OpenSpec.ofChange gridsRegionsSpecSpec)

/-- ITS FALSE NEIGHBOUR: 'it returns false'. Refute it at one input. -/
def gridsRegionsSpecWrong : ChangeSpec := { name := "gridsRegionsSpec", fn := fun _ => fun
  | [d1, d2] => { results := [.lit (.bool false)], args := [d1, d2] }
  | _ => none }
def GridsRegionsSpecWrongFalsely : Prop := gridsRegionsSpecRow.holds Try.pinned (OpenSpec.ofChange gridsRegionsSpecWrong)

/-- 'gridwrightlaw13.GridsCells': WHATEVER THE INPUT: true; the input reads as it did. -/
def gridsCellsSpec : ChangeSpec := { name := "gridsCells", fn := fun _ => fun
  | [d1, d2, d3, d4] => { results := [.lit (.bool true)], args := [d1, d2, d3, d4] }
  | _ => none }
def gridsCellsRow : OpenClaim := { program := "ytjiacdihfbbfjaa", sum := "e0c9a4e8d484622404045eb2297e29603158a60eb9de0c062ffff6ac702da9e9", func := "gridwright/gridwrightlaw13.GridsCells", spec := "gridsCells", unfollowed := true, recurses := true, plainKeys := false, apart := false }
def GridsCellsSaid : Prop := gridsCellsRow.holds Try.pinned (OpenSpec.ofChange gridsCellsSpec)

/-- ITS FALSE NEIGHBOUR: 'it returns false'. Refute it at one input. -/
def gridsCellsWrong : ChangeSpec := { name := "gridsCells", fn := fun _ => fun
  | [d1, d2, d3, d4] => { results := [.lit (.bool false)], args := [d1, d2, d3, d4] }
  | _ => none }
def GridsCellsWrongFalsely : Prop := gridsCellsRow.holds Try.pinned (OpenSpec.ofChange gridsCellsWrong)

/-- 'gridwrightlaw13.GridsLines': WHATEVER THE INPUT: true; the input reads as it did. -/
def gridsLinesSpec : ChangeSpec := { name := "gridsLines", fn := fun _ => fun
  | [d] => { results := [.lit (.bool true)], args := [d] }
  | _ => none }
def gridsLinesRow : OpenClaim := { program := "ytjiacdihfbbfjaa", sum := "e0c9a4e8d484622404045eb2297e29603158a60eb9de0c062ffff6ac702da9e9", func := "gridwright/gridwrightlaw13.GridsLines", spec := "gridsLines", unfollowed := true, recurses := true, plainKeys := false, apart := false }
def GridsLinesSaid : Prop := gridsLinesRow.holds Try.pinned (OpenSpec.ofChange gridsLinesSpec)

/-- ITS FALSE NEIGHBOUR: 'it returns false'. Refute it at one input. -/
def gridsLinesWrong : ChangeSpec := { name := "gridsLines", fn := fun _ => fun
  | [d] => { results := [.lit (.bool false)], args := [d] }
  | _ => none }
def GridsLinesWrongFalsely : Prop := gridsLinesRow.holds Try.pinned (OpenSpec.ofChange gridsLinesWrong)

/-- 'gridwrightlaw13.GridsPairs': WHATEVER THE INPUT: true; the input reads as it did. -/
def gridsPairsSpec : ChangeSpec := { name := "gridsPairs", fn := fun _ => fun
  | [d] => { results := [.lit (.bool true)], args := [d] }
  | _ => none }
def gridsPairsRow : OpenClaim := { program := "ytjiacdihfbbfjaa", sum := "e0c9a4e8d484622404045eb2297e29603158a60eb9de0c062ffff6ac702da9e9", func := "gridwright/gridwrightlaw13.GridsPairs", spec := "gridsPairs", unfollowed := true, recurses := true, plainKeys := false, apart := false }
def GridsPairsSaid : Prop := gridsPairsRow.holds Try.pinned (OpenSpec.ofChange gridsPairsSpec)

/-- ITS FALSE NEIGHBOUR: 'it returns false'. Refute it at one input. -/
def gridsPairsWrong : ChangeSpec := { name := "gridsPairs", fn := fun _ => fun
  | [d] => { results := [.lit (.bool false)], args := [d] }
  | _ => none }
def GridsPairsWrongFalsely : Prop := gridsPairsRow.holds Try.pinned (OpenSpec.ofChange gridsPairsWrong)

/-- 'gridwrightlaw13.GridsTransposed': WHATEVER THE INPUT: true; the input reads as it did. -/
def gridsTransposedSpec : ChangeSpec := { name := "gridsTransposed", fn := fun _ => fun
  | [d1, d2, d3] => { results := [.lit (.bool true)], args := [d1, d2, d3] }
  | _ => none }
def gridsTransposedRow : OpenClaim := { program := "ytjiacdihfbbfjaa", sum := "e0c9a4e8d484622404045eb2297e29603158a60eb9de0c062ffff6ac702da9e9", func := "gridwright/gridwrightlaw13.GridsTransposed", spec := "gridsTransposed", unfollowed := true, recurses := true, plainKeys := false, apart := false }
def GridsTransposedSaid : Prop := gridsTransposedRow.holds Try.pinned (OpenSpec.ofChange gridsTransposedSpec)

/-- ITS FALSE NEIGHBOUR: 'it returns false'. Refute it at one input. -/
def gridsTransposedWrong : ChangeSpec := { name := "gridsTransposed", fn := fun _ => fun
  | [d1, d2, d3] => { results := [.lit (.bool false)], args := [d1, d2, d3] }
  | _ => none }
def GridsTransposedWrongFalsely : Prop := gridsTransposedRow.holds Try.pinned (OpenSpec.ofChange gridsTransposedWrong)

/-- 'gridwrightlaw13.GridsRoundTrip': WHATEVER THE INPUT: true; the input reads as it did. -/
def gridsRoundTripSpec : ChangeSpec := { name := "gridsRoundTrip", fn := fun _ => fun
  | [d1, d2] => { results := [.lit (.bool true)], args := [d1, d2] }
  | _ => none }
def gridsRoundTripRow : OpenClaim := { program := "ytjiacdihfbbfjaa", sum := "e0c9a4e8d484622404045eb2297e29603158a60eb9de0c062ffff6ac702da9e9", func := "gridwright/gridwrightlaw13.GridsRoundTrip", spec := "gridsRoundTrip", unfollowed := true, recurses := true, plainKeys := false, apart := false }
def GridsRoundTripSaid : Prop := gridsRoundTripRow.holds Try.pinned (OpenSpec.ofChange gridsRoundTripSpec)

/-- ITS FALSE NEIGHBOUR: 'it returns false'. Refute it at one input. -/
def gridsRoundTripWrong : ChangeSpec := { name := "gridsRoundTrip", fn := fun _ => fun
  | [d1, d2] => { results := [.lit (.bool false)], args := [d1, d2] }
  | _ => none }
def GridsRoundTripWrongFalsely : Prop := gridsRoundTripRow.holds Try.pinned (OpenSpec.ofChange gridsRoundTripWrong)

/-- 'gridwrightlaw13.GridsNeighbors': WHATEVER THE INPUT: true; the input reads as it did. -/
def gridsNeighborsSpec : ChangeSpec := { name := "gridsNeighbors", fn := fun _ => fun
  | [d] => { results := [.lit (.bool true)], args := [d] }
  | _ => none }
def gridsNeighborsRow : OpenClaim := { program := "ytjiacdihfbbfjaa", sum := "e0c9a4e8d484622404045eb2297e29603158a60eb9de0c062ffff6ac702da9e9", func := "gridwright/gridwrightlaw13.GridsNeighbors", spec := "gridsNeighbors", unfollowed := true, recurses := true, plainKeys := false, apart := false }
def GridsNeighborsSaid : Prop := gridsNeighborsRow.holds Try.pinned (OpenSpec.ofChange gridsNeighborsSpec)

/-- ITS FALSE NEIGHBOUR: 'it returns false'. Refute it at one input. -/
def gridsNeighborsWrong : ChangeSpec := { name := "gridsNeighbors", fn := fun _ => fun
  | [d] => { results := [.lit (.bool false)], args := [d] }
  | _ => none }
def GridsNeighborsWrongFalsely : Prop := gridsNeighborsRow.holds Try.pinned (OpenSpec.ofChange gridsNeighborsWrong)

/-- 'gridwrightlaw14.MovesLines': WHATEVER THE INPUT: true; the input reads as it did. -/
def movesLinesSpec : ChangeSpec := { name := "movesLines", fn := fun _ => fun
  | [d1, d2, d3, d4] => { results := [.lit (.bool true)], args := [d1, d2, d3, d4] }
  | _ => none }
def movesLinesRow : OpenClaim := { program := "ytjiacdihfbbfjaa", sum := "e0c9a4e8d484622404045eb2297e29603158a60eb9de0c062ffff6ac702da9e9", func := "gridwright/gridwrightlaw14.MovesLines", spec := "movesLines", inPlace := ["slices.overlaps[[]int]"], unfollowed := true, recurses := true, plainKeys := false, apart := false }
def MovesLinesSaid : Prop := movesLinesRow.holds Try.pinned (OpenSpec.ofChange movesLinesSpec)

/-- ITS FALSE NEIGHBOUR: 'it returns false'. Refute it at one input. -/
def movesLinesWrong : ChangeSpec := { name := "movesLines", fn := fun _ => fun
  | [d1, d2, d3, d4] => { results := [.lit (.bool false)], args := [d1, d2, d3, d4] }
  | _ => none }
def MovesLinesWrongFalsely : Prop := movesLinesRow.holds Try.pinned (OpenSpec.ofChange movesLinesWrong)

/- THE SECOND FORM. 'bulk': how many values and letters a reading holds, each counted each time it is reached (what is shared counts as often as it is met; a slice's spare places count too). A statement '..UptoSaid' is the law's where the arguments, and the package variables that the reading takes, are together of bulk at most 1048576: NARROWER than '..Said'. Prove '..Said' where nothing that the law and all that it calls make is longer than what came in: it says more and counts as full. Else prove '..UptoSaid'. A law counts once. -/
mutual
def uptoBulk {H : Type} : DataW H → Nat
  | .lit (.string bytes) => bytes.length + 1
  | .lit _ => 1
  | .nil => 1
  | .ptr d => uptoBulk d + 1
  | .slice elems spare => uptoBulkAll elems + uptoBulkAll spare + 1
  | .agg parts => uptoBulkAll parts + 1
  | .iface _ d => uptoBulk d + 1
  | .map entries => uptoBulkEntries entries + 1
  | .held _ => 1
def uptoBulkAll {H : Type} : List (DataW H) → Nat
  | [] => 0
  | d :: r => uptoBulk d + uptoBulkAll r
def uptoBulkEntries {H : Type} : List (Lit × DataW H) → Nat
  | [] => 0
  | x :: r => uptoBulkEntry x + uptoBulkEntries r
def uptoBulkEntry {H : Type} : Lit × DataW H → Nat
  | (.string bytes, d) => bytes.length + uptoBulk d + 1
  | (_, d) => uptoBulk d + 1
 end
def uptoSmall : (H : Type) → List (DataW H) → Bool := fun _ ds => decide (uptoBulkAll ds ≤ 1048576)
def OpenSpec.upto (s : _root_.Go.ChangeSpec) : _root_.Go.OpenSpec := { _root_.Go.OpenSpec.ofChange s with cond := some uptoSmall }

/-- 'gridwrightlaw14.MovesSpec', WHERE WHAT IT READS IS OF BULK AT MOST 1048576: true; the input reads as it did. -/
def movesSpecUptoRow : OpenClaim := { program := "ytjiacdihfbbfjaa", sum := "e0c9a4e8d484622404045eb2297e29603158a60eb9de0c062ffff6ac702da9e9", func := "gridwright/gridwrightlaw14.MovesSpec", spec := "movesSpec", inPlace := ["slices.overlaps[[]int]"], unfollowed := true, recurses := true, plainKeys := false, apart := false, narrowed := true }
def MovesSpecUptoSaid : Prop := movesSpecUptoRow.holds Try.pinned (OpenSpec.upto movesSpecSpec)

/-- 'gridwrightlaw14.MovesSwapsSpec', WHERE WHAT IT READS IS OF BULK AT MOST 1048576: true; the input reads as it did. -/
def movesSwapsSpecUptoRow : OpenClaim := { program := "ytjiacdihfbbfjaa", sum := "e0c9a4e8d484622404045eb2297e29603158a60eb9de0c062ffff6ac702da9e9", func := "gridwright/gridwrightlaw14.MovesSwapsSpec", spec := "movesSwapsSpec", inPlace := ["slices.overlaps[[]int]"], unfollowed := true, recurses := true, plainKeys := false, apart := false, narrowed := true }
def MovesSwapsSpecUptoSaid : Prop := movesSwapsSpecUptoRow.holds Try.pinned (OpenSpec.upto movesSwapsSpecSpec)

/-- 'gridwrightlaw14.MovesGroup', WHERE WHAT IT READS IS OF BULK AT MOST 1048576: true; the input reads as it did. -/
def movesGroupUptoRow : OpenClaim := { program := "ytjiacdihfbbfjaa", sum := "e0c9a4e8d484622404045eb2297e29603158a60eb9de0c062ffff6ac702da9e9", func := "gridwright/gridwrightlaw14.MovesGroup", spec := "movesGroup", inPlace := ["slices.overlaps[[]int]"], unfollowed := true, recurses := true, plainKeys := false, apart := false, narrowed := true }
def MovesGroupUptoSaid : Prop := movesGroupUptoRow.holds Try.pinned (OpenSpec.upto movesGroupSpec)

/-- 'gridwrightlaw14.MovesDistances', WHERE WHAT IT READS IS OF BULK AT MOST 1048576: true; the input reads as it did. -/
def movesDistancesUptoRow : OpenClaim := { program := "ytjiacdihfbbfjaa", sum := "e0c9a4e8d484622404045eb2297e29603158a60eb9de0c062ffff6ac702da9e9", func := "gridwright/gridwrightlaw14.MovesDistances", spec := "movesDistances", inPlace := ["slices.overlaps[[]int]"], unfollowed := true, recurses := true, plainKeys := false, apart := false, narrowed := true }
def MovesDistancesUptoSaid : Prop := movesDistancesUptoRow.holds Try.pinned (OpenSpec.upto movesDistancesSpec)

/-- 'gridwrightlaw14.MovesBorder', WHERE WHAT IT READS IS OF BULK AT MOST 1048576: true; the input reads as it did. -/
def movesBorderUptoRow : OpenClaim := { program := "ytjiacdihfbbfjaa", sum := "e0c9a4e8d484622404045eb2297e29603158a60eb9de0c062ffff6ac702da9e9", func := "gridwright/gridwrightlaw14.MovesBorder", spec := "movesBorder", inPlace := ["slices.overlaps[[]int]"], unfollowed := true, recurses := true, plainKeys := false, apart := false, narrowed := true }
def MovesBorderUptoSaid : Prop := movesBorderUptoRow.holds Try.pinned (OpenSpec.upto movesBorderSpec)

/-- 'gridwrightlaw14.MovesFull', WHERE WHAT IT READS IS OF BULK AT MOST 1048576: true; the input reads as it did. -/
def movesFullUptoRow : OpenClaim := { program := "ytjiacdihfbbfjaa", sum := "e0c9a4e8d484622404045eb2297e29603158a60eb9de0c062ffff6ac702da9e9", func := "gridwright/gridwrightlaw14.MovesFull", spec := "movesFull", inPlace := ["slices.overlaps[[]int]"], unfollowed := true, recurses := true, plainKeys := false, apart := false, narrowed := true }
def MovesFullUptoSaid : Prop := movesFullUptoRow.holds Try.pinned (OpenSpec.upto movesFullSpec)

/-- 'gridwrightlaw14.MovesSwap', WHERE WHAT IT READS IS OF BULK AT MOST 1048576: true; the input reads as it did. -/
def movesSwapUptoRow : OpenClaim := { program := "ytjiacdihfbbfjaa", sum := "e0c9a4e8d484622404045eb2297e29603158a60eb9de0c062ffff6ac702da9e9", func := "gridwright/gridwrightlaw14.MovesSwap", spec := "movesSwap", inPlace := ["slices.overlaps[[]int]"], unfollowed := true, recurses := true, plainKeys := false, apart := false, narrowed := true }
def MovesSwapUptoSaid : Prop := movesSwapUptoRow.holds Try.pinned (OpenSpec.upto movesSwapSpec)

/-- 'gridwrightlaw13.GridsMakeSpec', WHERE WHAT IT READS IS OF BULK AT MOST 1048576: true; the input reads as it did. -/
def gridsMakeSpecUptoRow : OpenClaim := { program := "ytjiacdihfbbfjaa", sum := "e0c9a4e8d484622404045eb2297e29603158a60eb9de0c062ffff6ac702da9e9", func := "gridwright/gridwrightlaw13.GridsMakeSpec", spec := "gridsMakeSpec", unfollowed := true, recurses := true, plainKeys := false, apart := false, narrowed := true }
def GridsMakeSpecUptoSaid : Prop := gridsMakeSpecUptoRow.holds Try.pinned (OpenSpec.upto gridsMakeSpecSpec)

/-- 'gridwrightlaw13.GridsFamilySpec', WHERE WHAT IT READS IS OF BULK AT MOST 1048576: true; the input reads as it did. -/
def gridsFamilySpecUptoRow : OpenClaim := { program := "ytjiacdihfbbfjaa", sum := "e0c9a4e8d484622404045eb2297e29603158a60eb9de0c062ffff6ac702da9e9", func := "gridwright/gridwrightlaw13.GridsFamilySpec", spec := "gridsFamilySpec", unfollowed := true, recurses := true, plainKeys := false, apart := false, narrowed := true }
def GridsFamilySpecUptoSaid : Prop := gridsFamilySpecUptoRow.holds Try.pinned (OpenSpec.upto gridsFamilySpecSpec)

/-- 'gridwrightlaw13.GridsRegionsSpec', WHERE WHAT IT READS IS OF BULK AT MOST 1048576: true; the input reads as it did. -/
def gridsRegionsSpecUptoRow : OpenClaim := { program := "ytjiacdihfbbfjaa", sum := "e0c9a4e8d484622404045eb2297e29603158a60eb9de0c062ffff6ac702da9e9", func := "gridwright/gridwrightlaw13.GridsRegionsSpec", spec := "gridsRegionsSpec", unfollowed := true, recurses := true, plainKeys := false, apart := false, narrowed := true }
def GridsRegionsSpecUptoSaid : Prop := gridsRegionsSpecUptoRow.holds Try.pinned (OpenSpec.upto gridsRegionsSpecSpec)

/-- 'gridwrightlaw13.GridsCells', WHERE WHAT IT READS IS OF BULK AT MOST 1048576: true; the input reads as it did. -/
def gridsCellsUptoRow : OpenClaim := { program := "ytjiacdihfbbfjaa", sum := "e0c9a4e8d484622404045eb2297e29603158a60eb9de0c062ffff6ac702da9e9", func := "gridwright/gridwrightlaw13.GridsCells", spec := "gridsCells", unfollowed := true, recurses := true, plainKeys := false, apart := false, narrowed := true }
def GridsCellsUptoSaid : Prop := gridsCellsUptoRow.holds Try.pinned (OpenSpec.upto gridsCellsSpec)

/-- 'gridwrightlaw13.GridsLines', WHERE WHAT IT READS IS OF BULK AT MOST 1048576: true; the input reads as it did. -/
def gridsLinesUptoRow : OpenClaim := { program := "ytjiacdihfbbfjaa", sum := "e0c9a4e8d484622404045eb2297e29603158a60eb9de0c062ffff6ac702da9e9", func := "gridwright/gridwrightlaw13.GridsLines", spec := "gridsLines", unfollowed := true, recurses := true, plainKeys := false, apart := false, narrowed := true }
def GridsLinesUptoSaid : Prop := gridsLinesUptoRow.holds Try.pinned (OpenSpec.upto gridsLinesSpec)

/-- 'gridwrightlaw13.GridsPairs', WHERE WHAT IT READS IS OF BULK AT MOST 1048576: true; the input reads as it did. -/
def gridsPairsUptoRow : OpenClaim := { program := "ytjiacdihfbbfjaa", sum := "e0c9a4e8d484622404045eb2297e29603158a60eb9de0c062ffff6ac702da9e9", func := "gridwright/gridwrightlaw13.GridsPairs", spec := "gridsPairs", unfollowed := true, recurses := true, plainKeys := false, apart := false, narrowed := true }
def GridsPairsUptoSaid : Prop := gridsPairsUptoRow.holds Try.pinned (OpenSpec.upto gridsPairsSpec)

/-- 'gridwrightlaw13.GridsTransposed', WHERE WHAT IT READS IS OF BULK AT MOST 1048576: true; the input reads as it did. -/
def gridsTransposedUptoRow : OpenClaim := { program := "ytjiacdihfbbfjaa", sum := "e0c9a4e8d484622404045eb2297e29603158a60eb9de0c062ffff6ac702da9e9", func := "gridwright/gridwrightlaw13.GridsTransposed", spec := "gridsTransposed", unfollowed := true, recurses := true, plainKeys := false, apart := false, narrowed := true }
def GridsTransposedUptoSaid : Prop := gridsTransposedUptoRow.holds Try.pinned (OpenSpec.upto gridsTransposedSpec)

/-- 'gridwrightlaw13.GridsRoundTrip', WHERE WHAT IT READS IS OF BULK AT MOST 1048576: true; the input reads as it did. -/
def gridsRoundTripUptoRow : OpenClaim := { program := "ytjiacdihfbbfjaa", sum := "e0c9a4e8d484622404045eb2297e29603158a60eb9de0c062ffff6ac702da9e9", func := "gridwright/gridwrightlaw13.GridsRoundTrip", spec := "gridsRoundTrip", unfollowed := true, recurses := true, plainKeys := false, apart := false, narrowed := true }
def GridsRoundTripUptoSaid : Prop := gridsRoundTripUptoRow.holds Try.pinned (OpenSpec.upto gridsRoundTripSpec)

/-- 'gridwrightlaw13.GridsNeighbors', WHERE WHAT IT READS IS OF BULK AT MOST 1048576: true; the input reads as it did. -/
def gridsNeighborsUptoRow : OpenClaim := { program := "ytjiacdihfbbfjaa", sum := "e0c9a4e8d484622404045eb2297e29603158a60eb9de0c062ffff6ac702da9e9", func := "gridwright/gridwrightlaw13.GridsNeighbors", spec := "gridsNeighbors", unfollowed := true, recurses := true, plainKeys := false, apart := false, narrowed := true }
def GridsNeighborsUptoSaid : Prop := gridsNeighborsUptoRow.holds Try.pinned (OpenSpec.upto gridsNeighborsSpec)

/-- 'gridwrightlaw14.MovesLines', WHERE WHAT IT READS IS OF BULK AT MOST 1048576: true; the input reads as it did. -/
def movesLinesUptoRow : OpenClaim := { program := "ytjiacdihfbbfjaa", sum := "e0c9a4e8d484622404045eb2297e29603158a60eb9de0c062ffff6ac702da9e9", func := "gridwright/gridwrightlaw14.MovesLines", spec := "movesLines", inPlace := ["slices.overlaps[[]int]"], unfollowed := true, recurses := true, plainKeys := false, apart := false, narrowed := true }
def MovesLinesUptoSaid : Prop := movesLinesUptoRow.holds Try.pinned (OpenSpec.upto movesLinesSpec)

end Rows
end Go.Proofs.Ytjiacdihfbbfjaa
