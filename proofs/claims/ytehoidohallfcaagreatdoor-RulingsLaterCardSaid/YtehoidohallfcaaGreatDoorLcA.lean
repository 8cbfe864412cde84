/- RulingsLater: the closed facts of its row that outgrow the kernel as a whole: what its code comes to. -/
import Derived.Test.YtehoidohallfcaaGreatDoorCloT
namespace Go.Proofs.YtehoidohallfcaaGreatDoor
open Go
theorem later_clo : Tryz.prog.closure 6 = [6] ++ tl_L := by kernel_rfl
theorem later_hi : [6].filterMap (inF Tryz.prog) = [] := by kernel_rfl
theorem later_hg : [6].flatMap (glF Tryz.prog) = [] := by kernel_rfl
theorem later_he : [6].filterMap (erF Tryz.prog) = [] := by kernel_rfl
theorem later_in : Tryz.prog.inPlace 6 = ["internal/bytealg.IndexByteString", "slices.overlaps[[]int]", "internal/abi.NoEscape", "internal/bytealg.MakeNoZero"] := by
  unfold Program.inPlace
  change (Tryz.prog.closure 6).filterMap (inF Tryz.prog) = _
  rw [later_clo, List.filterMap_append, later_hi, tl_in, List.nil_append]
theorem later_9a : (Rows.rulingsLaterRow.inPlace == ["internal/bytealg.IndexByteString", "slices.overlaps[[]int]", "internal/abi.NoEscape", "internal/bytealg.MakeNoZero"]) = true := by kernel_rfl
theorem later_9 : (Rows.rulingsLaterRow.inPlace == Tryz.prog.inPlace 6) = true := (congrArg (fun z => Rows.rulingsLaterRow.inPlace == z) later_in).trans later_9a
theorem later_vars : Tryz.prog.varsNamed 6 = ((([2, 5, 3, 4, 0] : List Nat).eraseDups.filterMap fun g : Nat => (Tryz.prog.globals[g]?).map fun x : Global => x.name) ++ []).eraseDups := by
  unfold Program.varsNamed
  change (((((Tryz.prog.closure 6).flatMap (glF Tryz.prog)).eraseDups).filterMap fun g : Nat => (Tryz.prog.globals[g]?).map fun x : Global => x.name) ++ (Tryz.prog.closure 6).filterMap (erF Tryz.prog)).eraseDups = _
  rw [later_clo, List.filterMap_append, List.flatMap_append, later_hg, later_he, tl_gl, tl_er]
  simp only [List.nil_append]
theorem later_12a : (Rows.rulingsLaterRow.named == ((([2, 5, 3, 4, 0] : List Nat).eraseDups.filterMap fun g : Nat => (Tryz.prog.globals[g]?).map fun x : Global => x.name) ++ []).eraseDups) = true := by kernel_rfl
theorem later_12 : (Rows.rulingsLaterRow.named == Tryz.prog.varsNamed 6) = true := (congrArg (fun z => Rows.rulingsLaterRow.named == z) later_vars).trans later_12a
theorem later_ua : (([6] ++ tl_L).any fun g : Nat => (Tryz.prog.funcs[g]?).any fun fn : Func => match fn.body with | some c => c.unfollowed | none => entryCalls fn) = true := by kernel_rfl
theorem later_un : Tryz.prog.unfollowed 6 = true := by
  unfold Program.unfollowed
  rw [later_clo]
  exact later_ua
theorem later_10 : (Rows.rulingsLaterRow.unfollowed == Tryz.prog.unfollowed 6) = true := by
  rw [later_un]
  rfl
theorem later_11 : (Rows.rulingsLaterRow.recurses == Tryz.prog.recurses 6) = true := by
  unfold Program.recurses
  rw [later_un]
  rfl
end Go.Proofs.YtehoidohallfcaaGreatDoor
