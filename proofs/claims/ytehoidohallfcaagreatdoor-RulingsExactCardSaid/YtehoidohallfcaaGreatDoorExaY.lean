/- RulingsExact: the closed facts of its row that outgrow the kernel as a whole: what its code comes to. -/
import Derived.Test.YtehoidohallfcaaGreatDoorCloT
import Derived.Test.YtehoidohallfcaaGreatDoorFact54
import Derived.JoinedOf
namespace Go.Proofs.YtehoidohallfcaaGreatDoor
open Go
theorem exa_clo : Tryz.prog.closure 8 = [8] ++ tl_L ++ [20] := by kernel_rfl
theorem exa_hi : [8].filterMap (inF Tryz.prog) = [] := by kernel_rfl
theorem exa_hg : [8].flatMap (glF Tryz.prog) = [] := by kernel_rfl
theorem exa_he : [8].filterMap (erF Tryz.prog) = [] := by kernel_rfl
theorem exa_ti : [(20 : FuncId)].filterMap (inF Tryz.prog) = [] := by kernel_rfl
theorem exa_tg : [(20 : FuncId)].flatMap (glF Tryz.prog) = [] := by kernel_rfl
theorem exa_te : [(20 : FuncId)].filterMap (erF Tryz.prog) = [] := by kernel_rfl
theorem exa_in : Tryz.prog.inPlace 8 = ["internal/bytealg.IndexByteString", "slices.overlaps[[]int]", "internal/abi.NoEscape", "internal/bytealg.MakeNoZero"] := by
  unfold Program.inPlace
  change (Tryz.prog.closure 8).filterMap (inF Tryz.prog) = _
  rw [exa_clo, List.filterMap_append, List.filterMap_append, exa_hi, exa_ti, tl_in, List.nil_append, List.append_nil]
theorem exa_9a : (Rows.rulingsExactRow.inPlace == ["internal/bytealg.IndexByteString", "slices.overlaps[[]int]", "internal/abi.NoEscape", "internal/bytealg.MakeNoZero"]) = true := by kernel_rfl
theorem exa_9 : (Rows.rulingsExactRow.inPlace == Tryz.prog.inPlace 8) = true := (congrArg (fun z => Rows.rulingsExactRow.inPlace == z) exa_in).trans exa_9a
theorem exa_vars : Tryz.prog.varsNamed 8 = ((([2, 5, 3, 4, 0] : List Nat).eraseDups.filterMap fun g : Nat => (Tryz.prog.globals[g]?).map fun x : Global => x.name) ++ []).eraseDups := by
  unfold Program.varsNamed
  change (((((Tryz.prog.closure 8).flatMap (glF Tryz.prog)).eraseDups).filterMap fun g : Nat => (Tryz.prog.globals[g]?).map fun x : Global => x.name) ++ (Tryz.prog.closure 8).filterMap (erF Tryz.prog)).eraseDups = _
  rw [exa_clo, List.filterMap_append, List.flatMap_append, List.filterMap_append, List.flatMap_append, exa_hg, exa_he, exa_tg, exa_te, tl_gl, tl_er]
  simp only [List.nil_append, List.append_nil]
theorem exa_12a : (Rows.rulingsExactRow.named == ((([2, 5, 3, 4, 0] : List Nat).eraseDups.filterMap fun g : Nat => (Tryz.prog.globals[g]?).map fun x : Global => x.name) ++ []).eraseDups) = true := by kernel_rfl
theorem exa_12 : (Rows.rulingsExactRow.named == Tryz.prog.varsNamed 8) = true := (congrArg (fun z => Rows.rulingsExactRow.named == z) exa_vars).trans exa_12a
theorem exa_ua : (([8] ++ tl_L ++ [20]).any fun g : Nat => (Tryz.prog.funcs[g]?).any fun fn : Func => match fn.body with | some c => c.unfollowed | none => entryCalls fn) = true := by kernel_rfl
theorem exa_un : Tryz.prog.unfollowed 8 = true := by
  unfold Program.unfollowed
  rw [exa_clo]
  exact exa_ua
theorem exa_10 : (Rows.rulingsExactRow.unfollowed == Tryz.prog.unfollowed 8) = true := by
  rw [exa_un]
  rfl
theorem exa_11 : (Rows.rulingsExactRow.recurses == Tryz.prog.recurses 8) = true := by
  unfold Program.recurses
  rw [exa_un]
  rfl
end Go.Proofs.YtehoidohallfcaaGreatDoor

/- RulingsExact: its row's closed facts. -/
namespace Go.Proofs.YtehoidohallfcaaGreatDoor
open Go.ChangeShapes Go.WideShapes Go.ChangeAt Go.RowKit Go.Deep
set_option maxHeartbeats 4000000 in
theorem exa_closed : joinedFacts Tryz.prog 8 Tryz.f8 Rows.rulingsExactSpec Rows.rulingsExactRow = true := by
  unfold joinedFacts
  refine bt (bt (bt (bt (bt (bt (bt (bt (bt (bt (bt (bt (bt (bt (bt (bt (bt (bt (bt (bt (bt (bt (bt (bt (bt (bt (bt (bt (bt (bt (bt ?a0 ?a1) ?a2) ?a3) ?a4) ?a5) ?a6) ?a7) ?a8) ?a9) ?a10) ?a11) ?a12) ?a13) ?a14) ?a15) ?a16) ?a17) ?a18) ?a19) ?a20) ?a21) ?a22) ?a23) ?a24) ?a25) ?a26) ?a27) ?a28) ?a29) ?a30) ?a31
  case a1 => exact row_laid
  case a2 => exact f_maps
  case a6 => exact f_stops
  case a8 => exact f_knobs
  case a9 => exact exa_9
  case a10 => exact exa_10
  case a11 => exact exa_11
  case a12 => exact exa_12
  case a22 => exact f_plain
  case a24 => exact f_heard
  case a25 => exact f_enter
  case a26 => exact f_lifts
  case a27 => exact f_make
  all_goals as_aux_lemma => kernel_rfl
end Go.Proofs.YtehoidohallfcaaGreatDoor

