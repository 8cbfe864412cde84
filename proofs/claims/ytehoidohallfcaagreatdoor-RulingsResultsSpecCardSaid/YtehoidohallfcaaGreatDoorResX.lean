/- RulingsResultsSpec: the closed facts of its row that outgrow the kernel as a whole: what its code comes to. -/
import Derived.Test.YtehoidohallfcaaGreatDoorCloX
import Derived.Test.YtehoidohallfcaaGreatDoorFaX
namespace Go.Proofs.YtehoidohallfcaaGreatDoor
open Go
theorem res_clo : Tryz.prog.closure 3 = [3] ++ tl_L ++ [12, 34, 51, 73, 115, 164, 257, 258, 259, 260, 74, 116, 75, 35, 14, 37, 56, 83, 84, 122, 176, 123, 85, 124, 86, 125, 177, 266, 267, 268, 57, 58, 16] := clo_of_tbl ld_size ld_all (by kernel_rfl)
theorem res_hi : [3].filterMap (inF Tryz.prog) = [] := by kernel_rfl
theorem res_hg : [3].flatMap (glF Tryz.prog) = [] := by kernel_rfl
theorem res_he : [3].filterMap (erF Tryz.prog) = [] := by kernel_rfl
theorem res_ti : ([12, 34, 51, 73, 115, 164, 257, 258, 259, 260, 74, 116, 75, 35, 14, 37, 56, 83, 84, 122, 176, 123, 85, 124, 86, 125, 177, 266, 267, 268, 57, 58, 16] : List FuncId).filterMap (inF Tryz.prog) = [] := by kernel_rfl
theorem res_tg : ([12, 34, 51, 73, 115, 164, 257, 258, 259, 260, 74, 116, 75, 35, 14, 37, 56, 83, 84, 122, 176, 123, 85, 124, 86, 125, 177, 266, 267, 268, 57, 58, 16] : List FuncId).flatMap (glF Tryz.prog) = [] := by kernel_rfl
theorem res_te : ([12, 34, 51, 73, 115, 164, 257, 258, 259, 260, 74, 116, 75, 35, 14, 37, 56, 83, 84, 122, 176, 123, 85, 124, 86, 125, 177, 266, 267, 268, 57, 58, 16] : List FuncId).filterMap (erF Tryz.prog) = [] := by kernel_rfl
theorem res_in : Tryz.prog.inPlace 3 = ["internal/bytealg.IndexByteString", "slices.overlaps[[]int]", "internal/abi.NoEscape", "internal/bytealg.MakeNoZero"] := by
 unfold Program.inPlace
 change (Tryz.prog.closure 3).filterMap (inF Tryz.prog) = _
 rw [res_clo, List.filterMap_append, List.filterMap_append, res_hi, res_ti, tl_in, List.nil_append, List.append_nil]
theorem res_9a : (Rows.rulingsResultsSpecRow.inPlace == ["internal/bytealg.IndexByteString", "slices.overlaps[[]int]", "internal/abi.NoEscape", "internal/bytealg.MakeNoZero"]) = true := by kernel_rfl
theorem res_9 : (Rows.rulingsResultsSpecRow.inPlace == Tryz.prog.inPlace 3) = true := (congrArg (fun z => Rows.rulingsResultsSpecRow.inPlace == z) res_in).trans res_9a
theorem res_vars : Tryz.prog.varsNamed 3 = ((([2, 5, 3, 4, 0] : List Nat).eraseDups.filterMap fun g : Nat => (Tryz.prog.globals[g]?).map fun x : Global => x.name) ++ []).eraseDups := by
 unfold Program.varsNamed
 change (((((Tryz.prog.closure 3).flatMap (glF Tryz.prog)).eraseDups).filterMap fun g : Nat => (Tryz.prog.globals[g]?).map fun x : Global => x.name) ++ (Tryz.prog.closure 3).filterMap (erF Tryz.prog)).eraseDups = _
 rw [res_clo, List.filterMap_append, List.flatMap_append, List.filterMap_append, List.flatMap_append, res_hg, res_he, res_tg, res_te, tl_gl, tl_er]
 simp only [List.nil_append, List.append_nil]
theorem res_12a : (Rows.rulingsResultsSpecRow.named == ((([2, 5, 3, 4, 0] : List Nat).eraseDups.filterMap fun g : Nat => (Tryz.prog.globals[g]?).map fun x : Global => x.name) ++ []).eraseDups) = true := by kernel_rfl
theorem res_12 : (Rows.rulingsResultsSpecRow.named == Tryz.prog.varsNamed 3) = true := (congrArg (fun z => Rows.rulingsResultsSpecRow.named == z) res_vars).trans res_12a
theorem res_ua : (([3] ++ tl_L ++ [12, 34, 51, 73, 115, 164, 257, 258, 259, 260, 74, 116, 75, 35, 14, 37, 56, 83, 84, 122, 176, 123, 85, 124, 86, 125, 177, 266, 267, 268, 57, 58, 16]).any fun g : Nat => (Tryz.prog.funcs[g]?).any fun fn : Func => match fn.body with | some c => c.unfollowed | none => entryCalls fn) = true := by kernel_rfl
theorem res_un : Tryz.prog.unfollowed 3 = true := by
 unfold Program.unfollowed
 rw [res_clo]
 exact res_ua
theorem res_10 : (Rows.rulingsResultsSpecRow.unfollowed == Tryz.prog.unfollowed 3) = true := by
 rw [res_un]
 rfl
theorem res_11 : (Rows.rulingsResultsSpecRow.recurses == Tryz.prog.recurses 3) = true := by
 unfold Program.recurses
 rw [res_un]
 rfl
open Go.ChangeShapes Go.WideShapes Go.ChangeAt Go.RowKit Go.Deep
set_option maxHeartbeats 4000000 in
theorem res_closed : joinedFacts Tryz.prog 3 Tryz.f3 Rows.rulingsResultsSpecSpec Rows.rulingsResultsSpecRow = true := by
 unfold joinedFacts
 refine bt (bt (bt (bt (bt (bt (bt (bt (bt (bt (bt (bt (bt (bt (bt (bt (bt (bt (bt (bt (bt (bt (bt (bt (bt (bt (bt (bt (bt (bt (bt ?a0 ?a1) ?a2) ?a3) ?a4) ?a5) ?a6) ?a7) ?a8) ?a9) ?a10) ?a11) ?a12) ?a13) ?a14) ?a15) ?a16) ?a17) ?a18) ?a19) ?a20) ?a21) ?a22) ?a23) ?a24) ?a25) ?a26) ?a27) ?a28) ?a29) ?a30) ?a31
 case a1 => exact row_laid
 case a2 => exact f_maps
 case a6 => exact f_stops
 case a8 => exact f_knobs
 case a9 => exact res_9
 case a10 => exact res_10
 case a11 => exact res_11
 case a12 => exact res_12
 case a22 => exact f_plain
 case a24 => exact f_heard
 case a25 => exact f_enter
 case a26 => exact f_lifts
 case a27 => exact f_make
 all_goals as_aux_lemma => kernel_rfl
end Go.Proofs.YtehoidohallfcaaGreatDoor
