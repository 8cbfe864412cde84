/- RulingsChanged: its row: the law returns true at every input. -/
import Derived.Test.YtehoidohallfcaaGreatDoorChgL
import Derived.Test.YtehoidohallfcaaGreatDoorChgY
import Derived.JoinedOf
namespace Go.Proofs.YtehoidohallfcaaGreatDoor
open Go.ChangeShapes Go.WideShapes Go.ChangeAt Go.RowKit Go.Deep
theorem chg_holds : Rows.RulingsChangedSaid :=
  OpenClaim.holds_of_wide 7 Tryz.f7 rfl rfl rfl rfl rfl rfl rfl ⟨rfl, rfl, rfl, rfl, rfl⟩ rfl rfl rfl rfl rfl (by as_aux_lemma => kernel_rfl) Tryz.func7 chg_closed
    (of_decide_eq_true (by as_aux_lemma => kernel_rfl)) (by unfold Func.isWrapper; rw [if_neg (of_decide_eq_false (by as_aux_lemma => kernel_rfl))]; exact ⟨rfl, rfl⟩)
    (fun os started H enc _ => chg_lifted os started H enc)
end Go.Proofs.YtehoidohallfcaaGreatDoor

