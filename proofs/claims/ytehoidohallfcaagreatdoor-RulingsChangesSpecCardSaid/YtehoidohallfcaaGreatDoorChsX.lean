/- RulingsChangesSpec: the closed facts of its row that outgrow the kernel as a whole: what its code comes to. -/
import Derived.Test.YtehoidohallfcaaGreatDoorCloX
import Derived.Test.YtehoidohallfcaaGreatDoorFaX
namespace Go.Proofs.YtehoidohallfcaaGreatDoor
open Go
theorem chs_clo : Tryz.prog.closure 4 = [4] ++ tl_L ++ [18, 14, 12, 34, 51, 73, 115, 164, 257, 258, 259, 260, 74, 116, 75, 35, 37, 56, 83, 84, 122, 176, 123, 85, 124, 86, 125, 177, 266, 267, 268, 57, 58, 38] := clo_of_tbl ld_size ld_all (by kernel_rfl)
theorem chs_hi : [4].filterMap (inF Tryz.prog) = [] := by kernel_rfl
theorem chs_hg : [4].flatMap (glF Tryz.prog) = [] := by kernel_rfl
theorem chs_he : [4].filterMap (erF Tryz.prog) = [] := by kernel_rfl
theorem chs_ti : ([18, 14, 12, 34, 51, 73, 115, 164, 257, 258, 259, 260, 74, 116, 75, 35, 37, 56, 83, 84, 122, 176, 123, 85, 124, 86, 125, 177, 266, 267, 268, 57, 58, 38] : List FuncId).filterMap (inF Tryz.prog) = [] := by kernel_rfl
theorem chs_tg : ([18, 14, 12, 34, 51, 73, 115, 164, 257, 258, 259, 260, 74, 116, 75, 35, 37, 56, 83, 84, 122, 176, 123, 85, 124, 86, 125, 177, 266, 267, 268, 57, 58, 38] : List FuncId).flatMap (glF Tryz.prog) = [] := by kernel_rfl
theorem chs_te : ([18, 14, 12, 34, 51, 73, 115, 164, 257, 258, 259, 260, 74, 116, 75, 35, 37, 56, 83, 84, 122, 176, 123, 85, 124, 86, 125, 177, 266, 267, 268, 57, 58, 38] : List FuncId).filterMap (erF Tryz.prog) = [] := by kernel_rfl
theorem chs_in : Tryz.prog.inPlace 4 = ["internal/bytealg.IndexByteString", "slices.overlaps[[]int]", "internal/abi.NoEscape", "internal/bytealg.MakeNoZero"] := by
 unfold Program.inPlace
 change (Tryz.prog.closure 4).filterMap (inF Tryz.prog) = _
 rw [chs_clo, List.filterMap_append, List.filterMap_append, chs_hi, chs_ti, tl_in, List.nil_append, List.append_nil]
theorem chs_9a : (Rows.rulingsChangesSpecRow.inPlace == ["internal/bytealg.IndexByteString", "slices.overlaps[[]int]", "internal/abi.NoEscape", "internal/bytealg.MakeNoZero"]) = true := by kernel_rfl
theorem chs_9 : (Rows.rulingsChangesSpecRow.inPlace == Tryz.prog.inPlace 4) = true := (congrArg (fun z => Rows.rulingsChangesSpecRow.inPlace == z) chs_in).trans chs_9a
theorem chs_vars : Tryz.prog.varsNamed 4 = ((([2, 5, 3, 4, 0] : List Nat).eraseDups.filterMap fun g : Nat => (Tryz.prog.globals[g]?).map fun x : Global => x.name) ++ []).eraseDups := by
 unfold Program.varsNamed
 change (((((Tryz.prog.closure 4).flatMap (glF Tryz.prog)).eraseDups).filterMap fun g : Nat => (Tryz.prog.globals[g]?).map fun x : Global => x.name) ++ (Tryz.prog.closure 4).filterMap (erF Tryz.prog)).eraseDups = _
 rw [chs_clo, List.filterMap_append, List.flatMap_append, List.filterMap_append, List.flatMap_append, chs_hg, chs_he, chs_tg, chs_te, tl_gl, tl_er]
 simp only [List.nil_append, List.append_nil]
theorem chs_12a : (Rows.rulingsChangesSpecRow.named == ((([2, 5, 3, 4, 0] : List Nat).eraseDups.filterMap fun g : Nat => (Tryz.prog.globals[g]?).map fun x : Global => x.name) ++ []).eraseDups) = true := by kernel_rfl
theorem chs_12 : (Rows.rulingsChangesSpecRow.named == Tryz.prog.varsNamed 4) = true := (congrArg (fun z => Rows.rulingsChangesSpecRow.named == z) chs_vars).trans chs_12a
theorem chs_ua : (([4] ++ tl_L ++ [18, 14, 12, 34, 51, 73, 115, 164, 257, 258, 259, 260, 74, 116, 75, 35, 37, 56, 83, 84, 122, 176, 123, 85, 124, 86, 125, 177, 266, 267, 268, 57, 58, 38]).any fun g : Nat => (Tryz.prog.funcs[g]?).any fun fn : Func => match fn.body with | some c => c.unfollowed | none => entryCalls fn) = true := by kernel_rfl
theorem chs_un : Tryz.prog.unfollowed 4 = true := by
 unfold Program.unfollowed
 rw [chs_clo]
 exact chs_ua
theorem chs_10 : (Rows.rulingsChangesSpecRow.unfollowed == Tryz.prog.unfollowed 4) = true := by
 rw [chs_un]
 rfl
theorem chs_11 : (Rows.rulingsChangesSpecRow.recurses == Tryz.prog.recurses 4) = true := by
 unfold Program.recurses
 rw [chs_un]
 rfl
open Go.ChangeShapes Go.WideShapes Go.ChangeAt Go.RowKit Go.Deep
set_option maxHeartbeats 4000000 in
theorem chs_closed : joinedFacts Tryz.prog 4 Tryz.f4 Rows.rulingsChangesSpecSpec Rows.rulingsChangesSpecRow = true := by
 unfold joinedFacts
 refine bt (bt (bt (bt (bt (bt (bt (bt (bt (bt (bt (bt (bt (bt (bt (bt (bt (bt (bt (bt (bt (bt (bt (bt (bt (bt (bt (bt (bt (bt (bt ?a0 ?a1) ?a2) ?a3) ?a4) ?a5) ?a6) ?a7) ?a8) ?a9) ?a10) ?a11) ?a12) ?a13) ?a14) ?a15) ?a16) ?a17) ?a18) ?a19) ?a20) ?a21) ?a22) ?a23) ?a24) ?a25) ?a26) ?a27) ?a28) ?a29) ?a30) ?a31
 case a1 => exact row_laid
 case a2 => exact f_maps
 case a6 => exact f_stops
 case a8 => exact f_knobs
 case a9 => exact chs_9
 case a10 => exact chs_10
 case a11 => exact chs_11
 case a12 => exact chs_12
 case a22 => exact f_plain
 case a24 => exact f_heard
 case a25 => exact f_enter
 case a26 => exact f_lifts
 case a27 => exact f_make
 all_goals as_aux_lemma => kernel_rfl
end Go.Proofs.YtehoidohallfcaaGreatDoor
