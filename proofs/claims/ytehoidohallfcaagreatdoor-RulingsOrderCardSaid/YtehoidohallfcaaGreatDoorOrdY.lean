/- RulingsOrder: the closed facts of its row that outgrow the kernel as a whole: what its code comes to. -/
import Derived.Test.YtehoidohallfcaaGreatDoorCloT
import Derived.Test.YtehoidohallfcaaGreatDoorFact54
import Derived.JoinedOf
namespace Go.Proofs.YtehoidohallfcaaGreatDoor
open Go
theorem ord_clo : Tryz.prog.closure 5 = [5] ++ tl_L ++ [16] := by kernel_rfl
theorem ord_hi : [5].filterMap (inF Tryz.prog) = [] := by kernel_rfl
theorem ord_hg : [5].flatMap (glF Tryz.prog) = [] := by kernel_rfl
theorem ord_he : [5].filterMap (erF Tryz.prog) = [] := by kernel_rfl
theorem ord_ti : [(16 : FuncId)].filterMap (inF Tryz.prog) = [] := by kernel_rfl
theorem ord_tg : [(16 : FuncId)].flatMap (glF Tryz.prog) = [] := by kernel_rfl
theorem ord_te : [(16 : FuncId)].filterMap (erF Tryz.prog) = [] := by kernel_rfl
theorem ord_in : Tryz.prog.inPlace 5 = ["internal/bytealg.IndexByteString", "slices.overlaps[[]int]", "internal/abi.NoEscape", "internal/bytealg.MakeNoZero"] := by
  unfold Program.inPlace
  change (Tryz.prog.closure 5).filterMap (inF Tryz.prog) = _
  rw [ord_clo, List.filterMap_append, List.filterMap_append, ord_hi, ord_ti, tl_in, List.nil_append, List.append_nil]
theorem ord_9a : (Rows.rulingsOrderRow.inPlace == ["internal/bytealg.IndexByteString", "slices.overlaps[[]int]", "internal/abi.NoEscape", "internal/bytealg.MakeNoZero"]) = true := by kernel_rfl
theorem ord_9 : (Rows.rulingsOrderRow.inPlace == Tryz.prog.inPlace 5) = true := (congrArg (fun z => Rows.rulingsOrderRow.inPlace == z) ord_in).trans ord_9a
theorem ord_vars : Tryz.prog.varsNamed 5 = ((([2, 5, 3, 4, 0] : List Nat).eraseDups.filterMap fun g : Nat => (Tryz.prog.globals[g]?).map fun x : Global => x.name) ++ []).eraseDups := by
  unfold Program.varsNamed
  change (((((Tryz.prog.closure 5).flatMap (glF Tryz.prog)).eraseDups).filterMap fun g : Nat => (Tryz.prog.globals[g]?).map fun x : Global => x.name) ++ (Tryz.prog.closure 5).filterMap (erF Tryz.prog)).eraseDups = _
  rw [ord_clo, List.filterMap_append, List.flatMap_append, List.filterMap_append, List.flatMap_append, ord_hg, ord_he, ord_tg, ord_te, tl_gl, tl_er]
  simp only [List.nil_append, List.append_nil]
theorem ord_12a : (Rows.rulingsOrderRow.named == ((([2, 5, 3, 4, 0] : List Nat).eraseDups.filterMap fun g : Nat => (Tryz.prog.globals[g]?).map fun x : Global => x.name) ++ []).eraseDups) = true := by kernel_rfl
theorem ord_12 : (Rows.rulingsOrderRow.named == Tryz.prog.varsNamed 5) = true := (congrArg (fun z => Rows.rulingsOrderRow.named == z) ord_vars).trans ord_12a
theorem ord_ua : (([5] ++ tl_L ++ [16]).any fun g : Nat => (Tryz.prog.funcs[g]?).any fun fn : Func => match fn.body with | some c => c.unfollowed | none => entryCalls fn) = true := by kernel_rfl
theorem ord_un : Tryz.prog.unfollowed 5 = true := by
  unfold Program.unfollowed
  rw [ord_clo]
  exact ord_ua
theorem ord_10 : (Rows.rulingsOrderRow.unfollowed == Tryz.prog.unfollowed 5) = true := by
  rw [ord_un]
  rfl
theorem ord_11 : (Rows.rulingsOrderRow.recurses == Tryz.prog.recurses 5) = true := by
  unfold Program.recurses
  rw [ord_un]
  rfl
end Go.Proofs.YtehoidohallfcaaGreatDoor

/- RulingsOrder: its row's closed facts. -/
namespace Go.Proofs.YtehoidohallfcaaGreatDoor
open Go.ChangeShapes Go.WideShapes Go.ChangeAt Go.RowKit Go.Deep
set_option maxHeartbeats 4000000 in
theorem ord_closed : joinedFacts Tryz.prog 5 Tryz.f5 Rows.rulingsOrderSpec Rows.rulingsOrderRow = true := by
  unfold joinedFacts
  refine bt (bt (bt (bt (bt (bt (bt (bt (bt (bt (bt (bt (bt (bt (bt (bt (bt (bt (bt (bt (bt (bt (bt (bt (bt (bt (bt (bt (bt (bt (bt ?a0 ?a1) ?a2) ?a3) ?a4) ?a5) ?a6) ?a7) ?a8) ?a9) ?a10) ?a11) ?a12) ?a13) ?a14) ?a15) ?a16) ?a17) ?a18) ?a19) ?a20) ?a21) ?a22) ?a23) ?a24) ?a25) ?a26) ?a27) ?a28) ?a29) ?a30) ?a31
  case a1 => exact row_laid
  case a2 => exact f_maps
  case a6 => exact f_stops
  case a8 => exact f_knobs
  case a9 => exact ord_9
  case a10 => exact ord_10
  case a11 => exact ord_11
  case a12 => exact ord_12
  case a22 => exact f_plain
  case a24 => exact f_heard
  case a25 => exact f_enter
  case a26 => exact f_lifts
  case a27 => exact f_make
  all_goals as_aux_lemma => kernel_rfl
end Go.Proofs.YtehoidohallfcaaGreatDoor

