/- RulingsOrder: its tied card: what the row lists is what the program's own text lays. -/
import Derived.Test.YtehoidohallfcaaGreatDoorCards
import Derived.Test.YtehoidohallfcaaGreatDoorTie54
import Derived.Test.YtehoidohallfcaaGreatDoorOrd54
import Derived.Test.YtehoidohallfcaaGreatDoorGoe54
import Derived.SevenTiedAt
namespace Go.Proofs.YtehoidohallfcaaGreatDoor
open Go
theorem noOwn : Tryz.pinned.checked.prog.headLifts.contains "ownunsafe" = false := by kernel_rfl
theorem ord_tie : Rows.rulingsOrderRow.laidByTextAt .later Tryz.pinned [.data, .data, .data, .data, .data] true := OpenClaim.laidByTextAt_later rfl rfl tie noOwn
theorem card_main : Tryz.pinned.checked.prog.mainIs = some (true, "944011c6dae1c6462c2d86ce3845212ac4123212bd88fd8d2b6cd3388951f39f".toList) := by kernel_rfl
theorem card_looks : true = Tryz.prog.looks [] := by kernel_rfl
theorem card_wants : ([25, 26, 27, 3, 46].all fun u => !Tryz.prog.wantsStandIn u) = true := by kernel_rfl
theorem ord_wf : Rows.rulingsOrderRow.wfByText (OpenSpec.ofChange Rows.rulingsOrderSpec) = true := by kernel_rfl
theorem ord_named : Tryz.prog.funcNamed "gridwright/gridwrightlaw54.RulingsOrder" = some 5 := by kernel_rfl
theorem ord_goes : false = Rows.rulingsOrderRow.goesBy Tryz.pinned.checked.prog := by
  show false = (((Tryz.prog.funcNamed "gridwright/gridwrightlaw54.RulingsOrder").any Tryz.prog.goes) || false)
  rw [ord_named, Option.any_some, prog_goes]
  rfl
theorem ord_card : Rows.RulingsOrderCardSaid :=
  Claim7.holds_tied_plain_at .later [] [.data, .data, .data, .data, .data] true (true, "944011c6dae1c6462c2d86ce3845212ac4123212bd88fd8d2b6cd3388951f39f") true
    ord_holds (fun _ h => by cases h) ord_wf (fun _ h => by cases h) ord_tie rfl ⟨rfl, rfl⟩ card_main rfl
    (fun f fn hf hfn => by
      obtain rfl : f = 5 := Option.some.inj (ord_named.symm.trans hf) |>.symm
      obtain rfl : fn = Tryz.f5 := (Option.some.inj (Tryz.func5.symm.trans hfn)).symm
      exact ⟨card_looks, fun j t ht => by
        rw [Tryz.params5] at ht
        have hm : t ∈ [25, 26, 27, 3, 46] := by
          have := Array.mem_of_getElem? ht
          simp at this ⊢
          omega
        exact (show Tryz.prog.wantsStandIn t = false by simpa using List.all_eq_true.1 card_wants t hm)⟩)
    ord_goes
#print axioms ord_card
end Go.Proofs.YtehoidohallfcaaGreatDoor

