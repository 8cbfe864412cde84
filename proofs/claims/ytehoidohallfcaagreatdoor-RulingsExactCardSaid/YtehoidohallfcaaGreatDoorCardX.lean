/- RulingsExact: its tied card: what the row lists is what the program's own text lays. -/
import Derived.Test.YtehoidohallfcaaGreatDoorCards
import Derived.Test.YtehoidohallfcaaGreatDoorTie54
import Derived.Test.YtehoidohallfcaaGreatDoorExa54
import Derived.Test.YtehoidohallfcaaGreatDoorGoe54
import Derived.SevenTiedAt
namespace Go.Proofs.YtehoidohallfcaaGreatDoor
open Go
theorem noOwn : Tryz.pinned.checked.prog.headLifts.contains "ownunsafe" = false := by kernel_rfl
theorem exa_tie : Rows.rulingsExactRow.laidByTextAt .later Tryz.pinned [.data, .data, .data, .data, .data] true := OpenClaim.laidByTextAt_later rfl rfl tie noOwn
theorem card_main : Tryz.pinned.checked.prog.mainIs = some (true, "944011c6dae1c6462c2d86ce3845212ac4123212bd88fd8d2b6cd3388951f39f".toList) := by kernel_rfl
theorem card_looks : true = Tryz.prog.looks [] := by kernel_rfl
theorem card_wants : ([25, 26, 27, 3].all fun u => !Tryz.prog.wantsStandIn u) = true := by kernel_rfl
theorem exa_wf : Rows.rulingsExactRow.wfByText (OpenSpec.ofChange Rows.rulingsExactSpec) = true := by kernel_rfl
theorem exa_named : Tryz.prog.funcNamed "gridwright/gridwrightlaw54.RulingsExact" = some 8 := by kernel_rfl
theorem exa_goes : false = Rows.rulingsExactRow.goesBy Tryz.pinned.checked.prog := by
  show false = (((Tryz.prog.funcNamed "gridwright/gridwrightlaw54.RulingsExact").any Tryz.prog.goes) || false)
  rw [exa_named, Option.any_some, prog_goes]
  rfl
theorem exa_card : Rows.RulingsExactCardSaid :=
  Claim7.holds_tied_plain_at .later [] [.data, .data, .data, .data, .data] true (true, "944011c6dae1c6462c2d86ce3845212ac4123212bd88fd8d2b6cd3388951f39f") true
    exa_holds (fun _ h => by cases h) exa_wf (fun _ h => by cases h) exa_tie rfl ⟨rfl, rfl⟩ card_main rfl
    (fun f fn hf hfn => by
      obtain rfl : f = 8 := Option.some.inj (exa_named.symm.trans hf) |>.symm
      obtain rfl : fn = Tryz.f8 := (Option.some.inj (Tryz.func8.symm.trans hfn)).symm
      exact ⟨card_looks, fun j t ht => by
        rw [Tryz.params8] at ht
        have hm : t ∈ [25, 26, 27, 3] := by
          have := Array.mem_of_getElem? ht
          simp at this ⊢
          omega
        exact (show Tryz.prog.wantsStandIn t = false by simpa using List.all_eq_true.1 card_wants t hm)⟩)
    exa_goes
#print axioms exa_card
end Go.Proofs.YtehoidohallfcaaGreatDoor

