/-
  No cell of these rows narrows 'for every input' (looked for: loops, veiled, ifaces, maps, wideKeys, modest, calm, conditions, laid).
  DERIVED. THE GIVEN ROWS OF THIS SEAT. 7 by the template 'for every input the law returns true; each argument reads behind the call as it read before'; 0 by the template 'total and deterministic' (their statements: YtkekkbbdhdamjaaTotals.lean).
  GIVEN WITH THE SEED: the statements are not yours to turn. If you find one false, say at which input.
  Laid BY PROGRAM, IN A SANDBOX (cutbox-rows.mjs): the forced cells as the released guide's own fill.sh prints them over the translation 6693f4410e494f23… (all of the seat's roots in one cut). By AI agents, Wed Nov 11 2026. No macro, syntax, notation, axiom, sorry.
-/
import Derived.Test.YtkekkbbdhdamjaaChecked
import GoSem.Claim
import GoSem.ClaimJoined
import GoSem.ClaimMapViews
import Derived.JoinedTies
import Derived.KernelRfl
namespace Go.Proofs.Ytkekkbbdhdamjaa
/- THE CELL 'sum', in the pinned program and in every row, IS THE sha256 OF THE DUMP (.gsa) THAT YtkekkbbdhdamjaaProg.lean LOADS. Nothing in Lean hashes anything: it is a label: what it is worth is what the hold of that sum in a sandbox is worth. -/
noncomputable def Try.pinned : Pinned := { name := "ytkekkbbdhdamjaa", sum := "6693f4410e494f23e2f005681e31ba588e4abd9545a1e22d1b152ffeaf00c699", checked := Try.checked }
namespace Rows
def none {H : Type} : Left H := { results := [], args := [] }

/-- 'gridwrightlaw11.PermsSpec': WHATEVER THE INPUT: true; the input reads as it did. -/
def permsSpecSpec : ChangeSpec := { name := "permsSpec", fn := fun _ => fun
  | [d1, d2, d3] => { results := [.lit (.bool true)], args := [d1, d2, d3] }
  | _ => none }
def permsSpecRow : OpenClaim := { program := "ytkekkbbdhdamjaa", sum := "6693f4410e494f23e2f005681e31ba588e4abd9545a1e22d1b152ffeaf00c699", func := "gridwright/gridwrightlaw11.PermsSpec", spec := "permsSpec", unfollowed := true, recurses := true, plainKeys := false, apart := false }
def PermsSpecSaid : Prop := permsSpecRow.holds Try.pinned (OpenSpec.ofChange permsSpecSpec)

/-- ITS FALSE NEIGHBOUR: 'it returns false'. Refute it at one input. -/
def permsSpecWrong : ChangeSpec := { name := "permsSpec", fn := fun _ => fun
  | [d1, d2, d3] => { results := [.lit (.bool false)], args := [d1, d2, d3] }
  | _ => none }
def PermsSpecWrongFalsely : Prop := permsSpecRow.holds Try.pinned (OpenSpec.ofChange permsSpecWrong)

/-- 'gridwrightlaw11.PermsClosureSpec': WHATEVER THE INPUT: true; the input reads as it did. -/
def permsClosureSpecSpec : ChangeSpec := { name := "permsClosureSpec", fn := fun _ => fun
  | [d1, d2] => { results := [.lit (.bool true)], args := [d1, d2] }
  | _ => none }
def permsClosureSpecRow : OpenClaim := { program := "ytkekkbbdhdamjaa", sum := "6693f4410e494f23e2f005681e31ba588e4abd9545a1e22d1b152ffeaf00c699", func := "gridwright/gridwrightlaw11.PermsClosureSpec", spec := "permsClosureSpec", unfollowed := true, recurses := true, plainKeys := false, apart := false }
def PermsClosureSpecSaid : Prop := permsClosureSpecRow.holds Try.pinned (OpenSpec.ofChange permsClosureSpecSpec)

/-- ITS FALSE NEIGHBOUR: 'it returns false'. Refute it at one input. -/
def permsClosureSpecWrong : ChangeSpec := { name := "permsClosureSpec", fn := fun _ => fun
  | [d1, d2] => { results := [.lit (.bool false)], args := [d1, d2] }
  | _ => none }
def PermsClosureSpecWrongFalsely : Prop := permsClosureSpecRow.holds Try.pinned (OpenSpec.ofChange permsClosureSpecWrong)

/-- 'gridwrightlaw11.PermsGroup': WHATEVER THE INPUT: true; the input reads as it did. -/
def permsGroupSpec : ChangeSpec := { name := "permsGroup", fn := fun _ => fun
  | [d1, d2, d3] => { results := [.lit (.bool true)], args := [d1, d2, d3] }
  | _ => none }
def permsGroupRow : OpenClaim := { program := "ytkekkbbdhdamjaa", sum := "6693f4410e494f23e2f005681e31ba588e4abd9545a1e22d1b152ffeaf00c699", func := "gridwright/gridwrightlaw11.PermsGroup", spec := "permsGroup", unfollowed := true, recurses := true, plainKeys := false, apart := false }
def PermsGroupSaid : Prop := permsGroupRow.holds Try.pinned (OpenSpec.ofChange permsGroupSpec)

/-- ITS FALSE NEIGHBOUR: 'it returns false'. Refute it at one input. -/
def permsGroupWrong : ChangeSpec := { name := "permsGroup", fn := fun _ => fun
  | [d1, d2, d3] => { results := [.lit (.bool false)], args := [d1, d2, d3] }
  | _ => none }
def PermsGroupWrongFalsely : Prop := permsGroupRow.holds Try.pinned (OpenSpec.ofChange permsGroupWrong)

/-- 'gridwrightlaw11.PermsClosed': WHATEVER THE INPUT: true; the input reads as it did. -/
def permsClosedSpec : ChangeSpec := { name := "permsClosed", fn := fun _ => fun
  | [d1, d2, d3] => { results := [.lit (.bool true)], args := [d1, d2, d3] }
  | _ => none }
def permsClosedRow : OpenClaim := { program := "ytkekkbbdhdamjaa", sum := "6693f4410e494f23e2f005681e31ba588e4abd9545a1e22d1b152ffeaf00c699", func := "gridwright/gridwrightlaw11.PermsClosed", spec := "permsClosed", unfollowed := true, recurses := true, plainKeys := false, apart := false }
def PermsClosedSaid : Prop := permsClosedRow.holds Try.pinned (OpenSpec.ofChange permsClosedSpec)

/-- ITS FALSE NEIGHBOUR: 'it returns false'. Refute it at one input. -/
def permsClosedWrong : ChangeSpec := { name := "permsClosed", fn := fun _ => fun
  | [d1, d2, d3] => { results := [.lit (.bool false)], args := [d1, d2, d3] }
  | _ => none }
def PermsClosedWrongFalsely : Prop := permsClosedRow.holds Try.pinned (OpenSpec.ofChange permsClosedWrong)

/-- 'gridwrightlaw11.PermsOrbits': WHATEVER THE INPUT: true; the input reads as it did. -/
def permsOrbitsSpec : ChangeSpec := { name := "permsOrbits", fn := fun _ => fun
  | [d1, d2] => { results := [.lit (.bool true)], args := [d1, d2] }
  | _ => none }
def permsOrbitsRow : OpenClaim := { program := "ytkekkbbdhdamjaa", sum := "6693f4410e494f23e2f005681e31ba588e4abd9545a1e22d1b152ffeaf00c699", func := "gridwright/gridwrightlaw11.PermsOrbits", spec := "permsOrbits", unfollowed := true, recurses := true, plainKeys := false, apart := false }
def PermsOrbitsSaid : Prop := permsOrbitsRow.holds Try.pinned (OpenSpec.ofChange permsOrbitsSpec)

/-- ITS FALSE NEIGHBOUR: 'it returns false'. Refute it at one input. -/
def permsOrbitsWrong : ChangeSpec := { name := "permsOrbits", fn := fun _ => fun
  | [d1, d2] => { results := [.lit (.bool false)], args := [d1, d2] }
  | _ => none }
def PermsOrbitsWrongFalsely : Prop := permsOrbitsRow.holds Try.pinned (OpenSpec.ofChange permsOrbitsWrong)

/-- 'gridwrightlaw11.PermsAgain': WHATEVER THE INPUT: true; the input reads as it did. -/
def permsAgainSpec : ChangeSpec := { name := "permsAgain", fn := fun _ => fun
  | [d1, d2, d3] => { results := [.lit (.bool true)], args := [d1, d2, d3] }
  | _ => none }
def permsAgainRow : OpenClaim := { program := "ytkekkbbdhdamjaa", sum := "6693f4410e494f23e2f005681e31ba588e4abd9545a1e22d1b152ffeaf00c699", func := "gridwright/gridwrightlaw11.PermsAgain", spec := "permsAgain", unfollowed := true, recurses := true, plainKeys := false, apart := false }
def PermsAgainSaid : Prop := permsAgainRow.holds Try.pinned (OpenSpec.ofChange permsAgainSpec)

/-- ITS FALSE NEIGHBOUR: 'it returns false'. Refute it at one input. -/
def permsAgainWrong : ChangeSpec := { name := "permsAgain", fn := fun _ => fun
  | [d1, d2, d3] => { results := [.lit (.bool false)], args := [d1, d2, d3] }
  | _ => none }
def PermsAgainWrongFalsely : Prop := permsAgainRow.holds Try.pinned (OpenSpec.ofChange permsAgainWrong)

/-- 'gridwrightlaw11.PermsFull': WHATEVER THE INPUT: true; the input reads as it did. -/
def permsFullSpec : ChangeSpec := { name := "permsFull", fn := fun _ => fun
  | [d] => { results := [.lit (.bool true)], args := [d] }
  | _ => none }
def permsFullRow : OpenClaim := { program := "ytkekkbbdhdamjaa", sum := "6693f4410e494f23e2f005681e31ba588e4abd9545a1e22d1b152ffeaf00c699", func := "gridwright/gridwrightlaw11.PermsFull", spec := "permsFull", unfollowed := true, recurses := true, plainKeys := false, apart := false }
def PermsFullSaid : Prop := permsFullRow.holds Try.pinned (OpenSpec.ofChange permsFullSpec)

/-- ITS FALSE NEIGHBOUR: 'it returns false'. Refute it at one input. -/
def permsFullWrong : ChangeSpec := { name := "permsFull", fn := fun _ => fun
  | [d] => { results := [.lit (.bool false)], args := [d] }
  | _ => none }
def PermsFullWrongFalsely : Prop := permsFullRow.holds Try.pinned (OpenSpec.ofChange permsFullWrong)

/- THE SECOND FORM. 'bulk': how many values and letters a reading holds, each counted each time it is reached (what is shared counts as often as it is met; a slice's spare places count too). A statement '..UptoSaid' is the law's where the arguments, and the package variables that the reading takes, are together of bulk at most 1048576: NARROWER than '..Said'. Prove '..Said' where nothing that the law and all that it calls make is longer than what came in: it says more and counts as full. Else prove '..UptoSaid'. A law counts once. -/
mutual
def uptoBulk {H : Type} : DataW H → Nat
  | .lit (.string bytes) => bytes.length + 1
  | .lit _ => 1
  | .nil => 1
  | .ptr d => uptoBulk d + 1
  | .slice elems spare => uptoBulkAll elems + uptoBulkAll spare + 1
  | .agg parts => uptoBulkAll parts + 1
  | .iface _ d => uptoBulk d + 1
  | .map entries => uptoBulkEntries entries + 1
  | .held _ => 1
def uptoBulkAll {H : Type} : List (DataW H) → Nat
  | [] => 0
  | d :: r => uptoBulk d + uptoBulkAll r
def uptoBulkEntries {H : Type} : List (Lit × DataW H) → Nat
  | [] => 0
  | x :: r => uptoBulkEntry x + uptoBulkEntries r
def uptoBulkEntry {H : Type} : Lit × DataW H → Nat
  | (.string bytes, d) => bytes.length + uptoBulk d + 1
  | (_, d) => uptoBulk d + 1
 end
def uptoSmall : (H : Type) → List (DataW H) → Bool := fun _ ds => decide (uptoBulkAll ds ≤ 1048576)
def OpenSpec.upto (s : _root_.Go.ChangeSpec) : _root_.Go.OpenSpec := { _root_.Go.OpenSpec.ofChange s with cond := some uptoSmall }

/-- 'gridwrightlaw11.PermsSpec', WHERE WHAT IT READS IS OF BULK AT MOST 1048576: true; the input reads as it did. -/
def permsSpecUptoRow : OpenClaim := { program := "ytkekkbbdhdamjaa", sum := "6693f4410e494f23e2f005681e31ba588e4abd9545a1e22d1b152ffeaf00c699", func := "gridwright/gridwrightlaw11.PermsSpec", spec := "permsSpec", unfollowed := true, recurses := true, plainKeys := false, apart := false, narrowed := true }
def PermsSpecUptoSaid : Prop := permsSpecUptoRow.holds Try.pinned (OpenSpec.upto permsSpecSpec)

/-- 'gridwrightlaw11.PermsClosureSpec', WHERE WHAT IT READS IS OF BULK AT MOST 1048576: true; the input reads as it did. -/
def permsClosureSpecUptoRow : OpenClaim := { program := "ytkekkbbdhdamjaa", sum := "6693f4410e494f23e2f005681e31ba588e4abd9545a1e22d1b152ffeaf00c699", func := "gridwright/gridwrightlaw11.PermsClosureSpec", spec := "permsClosureSpec", unfollowed := true, recurses := true, plainKeys := false, apart := false, narrowed := true }
def PermsClosureSpecUptoSaid : Prop := permsClosureSpecUptoRow.holds Try.pinned (OpenSpec.upto permsClosureSpecSpec)

/-- 'gridwrightlaw11.PermsGroup', WHERE WHAT IT READS IS OF BULK AT MOST 1048576: true; the input reads as it did. -/
def permsGroupUptoRow : OpenClaim := { program := "ytkekkbbdhdamjaa", sum := "6693f4410e494f23e2f005681e31ba588e4abd9545a1e22d1b152ffeaf00c699", func := "gridwright/gridwrightlaw11.PermsGroup", spec := "permsGroup", unfollowed := true, recurses := true, plainKeys := false, apart := false, narrowed := true }
def PermsGroupUptoSaid : Prop := permsGroupUptoRow.holds Try.pinned (OpenSpec.upto permsGroupSpec)

/-- 'gridwrightlaw11.PermsClosed', WHERE WHAT IT READS IS OF BULK AT MOST 1048576: true; the input reads as it did. -/
def permsClosedUptoRow : OpenClaim := { program := "ytkekkbbdhdamjaa", sum := "6693f4410e494f23e2f005681e31ba588e4abd9545a1e22d1b152ffeaf00c699", func := "gridwright/gridwrightlaw11.PermsClosed", spec := "permsClosed", unfollowed := true, recurses := true, plainKeys := false, apart := false, narrowed := true }
def PermsClosedUptoSaid : Prop := permsClosedUptoRow.holds Try.pinned (OpenSpec.upto permsClosedSpec)

/-- 'gridwrightlaw11.PermsOrbits', WHERE WHAT IT READS IS OF BULK AT MOST 1048576: true; the input reads as it did. -/
def permsOrbitsUptoRow : OpenClaim := { program := "ytkekkbbdhdamjaa", sum := "6693f4410e494f23e2f005681e31ba588e4abd9545a1e22d1b152ffeaf00c699", func := "gridwright/gridwrightlaw11.PermsOrbits", spec := "permsOrbits", unfollowed := true, recurses := true, plainKeys := false, apart := false, narrowed := true }
def PermsOrbitsUptoSaid : Prop := permsOrbitsUptoRow.holds Try.pinned (OpenSpec.upto permsOrbitsSpec)

/-- 'gridwrightlaw11.PermsAgain', WHERE WHAT IT READS IS OF BULK AT MOST 1048576: true; the input reads as it did. -/
def permsAgainUptoRow : OpenClaim := { program := "ytkekkbbdhdamjaa", sum := "6693f4410e494f23e2f005681e31ba588e4abd9545a1e22d1b152ffeaf00c699", func := "gridwright/gridwrightlaw11.PermsAgain", spec := "permsAgain", unfollowed := true, recurses := true, plainKeys := false, apart := false, narrowed := true }
def PermsAgainUptoSaid : Prop := permsAgainUptoRow.holds Try.pinned (OpenSpec.upto permsAgainSpec)

/-- 'gridwrightlaw11.PermsFull', WHERE WHAT IT READS IS OF BULK AT MOST 1048576: true; the input reads as it did. -/
def permsFullUptoRow : OpenClaim := { program := "ytkekkbbdhdamjaa", sum := "6693f4410e494f23e2f005681e31ba588e4abd9545a1e22d1b152ffeaf00c699", func := "gridwright/gridwrightlaw11.PermsFull", spec := "permsFull", unfollowed := true, recurses := true, plainKeys := false, apart := false, narrowed := true }
def PermsFullUptoSaid : Prop := permsFullUptoRow.holds Try.pinned (OpenSpec.upto permsFullSpec)

end Rows
end Go.Proofs.Ytkekkbbdhdamjaa
