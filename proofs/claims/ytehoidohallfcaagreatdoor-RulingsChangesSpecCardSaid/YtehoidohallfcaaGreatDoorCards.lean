/-
  DERIVED. GIVEN WITH THE SEED: THE CARDS: each row of YtehoidohallfcaaGreatDoorRows.lean that lists a variable, with what it lists TIED to the program's text (the seventh form; the later family's looks); each row that meets fmt, with fmt's text TOLD by the authors' own Lean function (tested against real Go, not proved from fmt's source: count such statements apart). THE CARD IS WHAT COUNTS. Prove the row's statement (the work); the ties are given (YtehoidohallfcaaGreatDoorTie.lean); close each card by the builder's one call (the guide's Derived/Test/ToyasCard.lean, 'card_holds'). Laid BY PROGRAM, IN A SANDBOX (cutbox-door.mjs). By AI agents, Wed Nov 11 2026. No macro, syntax, notation, axiom, sorry.
-/
import Derived.Test.YtehoidohallfcaaGreatDoorRows
import GoSem.ClaimSeven
namespace Go.Proofs.YtehoidohallfcaaGreatDoor
namespace Rows

/-- THE TIED CARD OF 'gridwrightlaw54.RulingsResultsSpec'. -/
def rulingsResultsSpecCard : Claim7 := { stood := { row := rulingsResultsSpecRow, standIns := [], harness := (true, "944011c6dae1c6462c2d86ce3845212ac4123212bd88fd8d2b6cd3388951f39f"), looks := true }, kinds := [], alts := [], laidByText := true, laidKinds := [.data, .data, .data, .data, .data], laidTests := true, laidLooks := .later }
def RulingsResultsSpecCardSaid : Prop := Claim7.holds Tryz.pinned (.plain (OpenSpec.ofChange rulingsResultsSpecSpec)) rulingsResultsSpecCard

/-- THE TIED CARD OF 'gridwrightlaw54.RulingsChangesSpec'. -/
def rulingsChangesSpecCard : Claim7 := { stood := { row := rulingsChangesSpecRow, standIns := [], harness := (true, "944011c6dae1c6462c2d86ce3845212ac4123212bd88fd8d2b6cd3388951f39f"), looks := true }, kinds := [], alts := [], laidByText := true, laidKinds := [.data, .data, .data, .data, .data], laidTests := true, laidLooks := .later }
def RulingsChangesSpecCardSaid : Prop := Claim7.holds Tryz.pinned (.plain (OpenSpec.ofChange rulingsChangesSpecSpec)) rulingsChangesSpecCard

/-- THE TIED CARD OF 'gridwrightlaw54.RulingsOrder'. -/
def rulingsOrderCard : Claim7 := { stood := { row := rulingsOrderRow, standIns := [], harness := (true, "944011c6dae1c6462c2d86ce3845212ac4123212bd88fd8d2b6cd3388951f39f"), looks := true }, kinds := [], alts := [], laidByText := true, laidKinds := [.data, .data, .data, .data, .data], laidTests := true, laidLooks := .later }
def RulingsOrderCardSaid : Prop := Claim7.holds Tryz.pinned (.plain (OpenSpec.ofChange rulingsOrderSpec)) rulingsOrderCard

/-- THE TIED CARD OF 'gridwrightlaw54.RulingsLater'. -/
def rulingsLaterCard : Claim7 := { stood := { row := rulingsLaterRow, standIns := [], harness := (true, "944011c6dae1c6462c2d86ce3845212ac4123212bd88fd8d2b6cd3388951f39f"), looks := true }, kinds := [], alts := [], laidByText := true, laidKinds := [.data, .data, .data, .data, .data], laidTests := true, laidLooks := .later }
def RulingsLaterCardSaid : Prop := Claim7.holds Tryz.pinned (.plain (OpenSpec.ofChange rulingsLaterSpec)) rulingsLaterCard

/-- THE TIED CARD OF 'gridwrightlaw54.RulingsChanged'. -/
def rulingsChangedCard : Claim7 := { stood := { row := rulingsChangedRow, standIns := [], harness := (true, "944011c6dae1c6462c2d86ce3845212ac4123212bd88fd8d2b6cd3388951f39f"), looks := true }, kinds := [], alts := [], laidByText := true, laidKinds := [.data, .data, .data, .data, .data], laidTests := true, laidLooks := .later }
def RulingsChangedCardSaid : Prop := Claim7.holds Tryz.pinned (.plain (OpenSpec.ofChange rulingsChangedSpec)) rulingsChangedCard

/-- THE TIED CARD OF 'gridwrightlaw54.RulingsExact'. -/
def rulingsExactCard : Claim7 := { stood := { row := rulingsExactRow, standIns := [], harness := (true, "944011c6dae1c6462c2d86ce3845212ac4123212bd88fd8d2b6cd3388951f39f"), looks := true }, kinds := [], alts := [], laidByText := true, laidKinds := [.data, .data, .data, .data, .data], laidTests := true, laidLooks := .later }
def RulingsExactCardSaid : Prop := Claim7.holds Tryz.pinned (.plain (OpenSpec.ofChange rulingsExactSpec)) rulingsExactCard

/-- THE SECOND FORM's CARD OF 'gridwrightlaw54.RulingsResultsSpec'. -/
def rulingsResultsSpecUptoCard : Claim7 := { stood := { row := rulingsResultsSpecUptoRow, standIns := [], harness := (true, "944011c6dae1c6462c2d86ce3845212ac4123212bd88fd8d2b6cd3388951f39f"), looks := true }, kinds := [], alts := [], laidByText := true, laidKinds := [.data, .data, .data, .data, .data], laidTests := true, laidLooks := .later }
def RulingsResultsSpecUptoCardSaid : Prop := Claim7.holds Tryz.pinned (.plain (OpenSpec.upto rulingsResultsSpecSpec)) rulingsResultsSpecUptoCard

/-- THE SECOND FORM's CARD OF 'gridwrightlaw54.RulingsChangesSpec'. -/
def rulingsChangesSpecUptoCard : Claim7 := { stood := { row := rulingsChangesSpecUptoRow, standIns := [], harness := (true, "944011c6dae1c6462c2d86ce3845212ac4123212bd88fd8d2b6cd3388951f39f"), looks := true }, kinds := [], alts := [], laidByText := true, laidKinds := [.data, .data, .data, .data, .data], laidTests := true, laidLooks := .later }
def RulingsChangesSpecUptoCardSaid : Prop := Claim7.holds Tryz.pinned (.plain (OpenSpec.upto rulingsChangesSpecSpec)) rulingsChangesSpecUptoCard

/-- THE SECOND FORM's CARD OF 'gridwrightlaw54.RulingsOrder'. -/
def rulingsOrderUptoCard : Claim7 := { stood := { row := rulingsOrderUptoRow, standIns := [], harness := (true, "944011c6dae1c6462c2d86ce3845212ac4123212bd88fd8d2b6cd3388951f39f"), looks := true }, kinds := [], alts := [], laidByText := true, laidKinds := [.data, .data, .data, .data, .data], laidTests := true, laidLooks := .later }
def RulingsOrderUptoCardSaid : Prop := Claim7.holds Tryz.pinned (.plain (OpenSpec.upto rulingsOrderSpec)) rulingsOrderUptoCard

/-- THE SECOND FORM's CARD OF 'gridwrightlaw54.RulingsLater'. -/
def rulingsLaterUptoCard : Claim7 := { stood := { row := rulingsLaterUptoRow, standIns := [], harness := (true, "944011c6dae1c6462c2d86ce3845212ac4123212bd88fd8d2b6cd3388951f39f"), looks := true }, kinds := [], alts := [], laidByText := true, laidKinds := [.data, .data, .data, .data, .data], laidTests := true, laidLooks := .later }
def RulingsLaterUptoCardSaid : Prop := Claim7.holds Tryz.pinned (.plain (OpenSpec.upto rulingsLaterSpec)) rulingsLaterUptoCard

/-- THE SECOND FORM's CARD OF 'gridwrightlaw54.RulingsChanged'. -/
def rulingsChangedUptoCard : Claim7 := { stood := { row := rulingsChangedUptoRow, standIns := [], harness := (true, "944011c6dae1c6462c2d86ce3845212ac4123212bd88fd8d2b6cd3388951f39f"), looks := true }, kinds := [], alts := [], laidByText := true, laidKinds := [.data, .data, .data, .data, .data], laidTests := true, laidLooks := .later }
def RulingsChangedUptoCardSaid : Prop := Claim7.holds Tryz.pinned (.plain (OpenSpec.upto rulingsChangedSpec)) rulingsChangedUptoCard

/-- THE SECOND FORM's CARD OF 'gridwrightlaw54.RulingsExact'. -/
def rulingsExactUptoCard : Claim7 := { stood := { row := rulingsExactUptoRow, standIns := [], harness := (true, "944011c6dae1c6462c2d86ce3845212ac4123212bd88fd8d2b6cd3388951f39f"), looks := true }, kinds := [], alts := [], laidByText := true, laidKinds := [.data, .data, .data, .data, .data], laidTests := true, laidLooks := .later }
def RulingsExactUptoCardSaid : Prop := Claim7.holds Tryz.pinned (.plain (OpenSpec.upto rulingsExactSpec)) rulingsExactUptoCard
end Rows
end Go.Proofs.YtehoidohallfcaaGreatDoor
