/- RulingsChanged: the closed facts of its row that outgrow the kernel as a whole: what its code comes to. -/
import Derived.Test.YtehoidohallfcaaGreatDoorCloT
import Derived.Test.YtehoidohallfcaaGreatDoorFact54
import Derived.JoinedOf
namespace Go.Proofs.YtehoidohallfcaaGreatDoor
open Go
theorem chg_clo : Tryz.prog.closure 7 = [7] ++ tl_L := by kernel_rfl
theorem chg_hi : [7].filterMap (inF Tryz.prog) = [] := by kernel_rfl
theorem chg_hg : [7].flatMap (glF Tryz.prog) = [] := by kernel_rfl
theorem chg_he : [7].filterMap (erF Tryz.prog) = [] := by kernel_rfl
theorem chg_in : Tryz.prog.inPlace 7 = ["internal/bytealg.IndexByteString", "slices.overlaps[[]int]", "internal/abi.NoEscape", "internal/bytealg.MakeNoZero"] := by
  unfold Program.inPlace
  change (Tryz.prog.closure 7).filterMap (inF Tryz.prog) = _
  rw [chg_clo, List.filterMap_append, chg_hi, tl_in, List.nil_append]
theorem chg_9a : (Rows.rulingsChangedRow.inPlace == ["internal/bytealg.IndexByteString", "slices.overlaps[[]int]", "internal/abi.NoEscape", "internal/bytealg.MakeNoZero"]) = true := by kernel_rfl
theorem chg_9 : (Rows.rulingsChangedRow.inPlace == Tryz.prog.inPlace 7) = true := (congrArg (fun z => Rows.rulingsChangedRow.inPlace == z) chg_in).trans chg_9a
theorem chg_vars : Tryz.prog.varsNamed 7 = ((([2, 5, 3, 4, 0] : List Nat).eraseDups.filterMap fun g : Nat => (Tryz.prog.globals[g]?).map fun x : Global => x.name) ++ []).eraseDups := by
  unfold Program.varsNamed
  change (((((Tryz.prog.closure 7).flatMap (glF Tryz.prog)).eraseDups).filterMap fun g : Nat => (Tryz.prog.globals[g]?).map fun x : Global => x.name) ++ (Tryz.prog.closure 7).filterMap (erF Tryz.prog)).eraseDups = _
  rw [chg_clo, List.filterMap_append, List.flatMap_append, chg_hg, chg_he, tl_gl, tl_er]
  simp only [List.nil_append]
theorem chg_12a : (Rows.rulingsChangedRow.named == ((([2, 5, 3, 4, 0] : List Nat).eraseDups.filterMap fun g : Nat => (Tryz.prog.globals[g]?).map fun x : Global => x.name) ++ []).eraseDups) = true := by kernel_rfl
theorem chg_12 : (Rows.rulingsChangedRow.named == Tryz.prog.varsNamed 7) = true := (congrArg (fun z => Rows.rulingsChangedRow.named == z) chg_vars).trans chg_12a
theorem chg_ua : (([7] ++ tl_L).any fun g : Nat => (Tryz.prog.funcs[g]?).any fun fn : Func => match fn.body with | some c => c.unfollowed | none => entryCalls fn) = true := by kernel_rfl
theorem chg_un : Tryz.prog.unfollowed 7 = true := by
  unfold Program.unfollowed
  rw [chg_clo]
  exact chg_ua
theorem chg_10 : (Rows.rulingsChangedRow.unfollowed == Tryz.prog.unfollowed 7) = true := by
  rw [chg_un]
  rfl
theorem chg_11 : (Rows.rulingsChangedRow.recurses == Tryz.prog.recurses 7) = true := by
  unfold Program.recurses
  rw [chg_un]
  rfl
end Go.Proofs.YtehoidohallfcaaGreatDoor

/- RulingsChanged: its row's closed facts. -/
namespace Go.Proofs.YtehoidohallfcaaGreatDoor
open Go.ChangeShapes Go.WideShapes Go.ChangeAt Go.RowKit Go.Deep
set_option maxHeartbeats 4000000 in
theorem chg_closed : joinedFacts Tryz.prog 7 Tryz.f7 Rows.rulingsChangedSpec Rows.rulingsChangedRow = true := by
  unfold joinedFacts
  refine bt (bt (bt (bt (bt (bt (bt (bt (bt (bt (bt (bt (bt (bt (bt (bt (bt (bt (bt (bt (bt (bt (bt (bt (bt (bt (bt (bt (bt (bt (bt ?a0 ?a1) ?a2) ?a3) ?a4) ?a5) ?a6) ?a7) ?a8) ?a9) ?a10) ?a11) ?a12) ?a13) ?a14) ?a15) ?a16) ?a17) ?a18) ?a19) ?a20) ?a21) ?a22) ?a23) ?a24) ?a25) ?a26) ?a27) ?a28) ?a29) ?a30) ?a31
  case a1 => exact row_laid
  case a2 => exact f_maps
  case a6 => exact f_stops
  case a8 => exact f_knobs
  case a9 => exact chg_9
  case a10 => exact chg_10
  case a11 => exact chg_11
  case a12 => exact chg_12
  case a22 => exact f_plain
  case a24 => exact f_heard
  case a25 => exact f_enter
  case a26 => exact f_lifts
  case a27 => exact f_make
  all_goals as_aux_lemma => kernel_rfl
end Go.Proofs.YtehoidohallfcaaGreatDoor

