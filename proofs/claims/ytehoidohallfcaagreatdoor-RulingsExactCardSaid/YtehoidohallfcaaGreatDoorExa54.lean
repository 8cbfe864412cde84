/- RulingsExact: its row: the law returns true at every input. -/
import Derived.Test.YtehoidohallfcaaGreatDoorExaL
import Derived.Test.YtehoidohallfcaaGreatDoorExaY
import Derived.JoinedOf
namespace Go.Proofs.YtehoidohallfcaaGreatDoor
open Go.ChangeShapes Go.WideShapes Go.ChangeAt Go.RowKit Go.Deep
theorem exa_holds : Rows.RulingsExactSaid :=
  OpenClaim.holds_of_wide 8 Tryz.f8 rfl rfl rfl rfl rfl rfl rfl ⟨rfl, rfl, rfl, rfl, rfl⟩ rfl rfl rfl rfl rfl (by as_aux_lemma => kernel_rfl) Tryz.func8 exa_closed
    (of_decide_eq_true (by as_aux_lemma => kernel_rfl)) (by unfold Func.isWrapper; rw [if_neg (of_decide_eq_false (by as_aux_lemma => kernel_rfl))]; exact ⟨rfl, rfl⟩)
    (fun os started H enc _ => exa_lifted os started H enc)
end Go.Proofs.YtehoidohallfcaaGreatDoor

