/- RulingsOrder: its row: the law returns true at every input. -/
import Derived.Test.YtehoidohallfcaaGreatDoorOrdL
import Derived.Test.YtehoidohallfcaaGreatDoorOrdY
import Derived.JoinedOf
namespace Go.Proofs.YtehoidohallfcaaGreatDoor
open Go.ChangeShapes Go.WideShapes Go.ChangeAt Go.RowKit Go.Deep
theorem ord_holds : Rows.RulingsOrderSaid :=
  OpenClaim.holds_of_wide 5 Tryz.f5 rfl rfl rfl rfl rfl rfl rfl ⟨rfl, rfl, rfl, rfl, rfl⟩ rfl rfl rfl rfl rfl (by as_aux_lemma => kernel_rfl) Tryz.func5 ord_closed
    (of_decide_eq_true (by as_aux_lemma => kernel_rfl)) (by unfold Func.isWrapper; rw [if_neg (of_decide_eq_false (by as_aux_lemma => kernel_rfl))]; exact ⟨rfl, rfl⟩)
    (fun os started H enc _ => ord_lifted os started H enc)
end Go.Proofs.YtehoidohallfcaaGreatDoor

