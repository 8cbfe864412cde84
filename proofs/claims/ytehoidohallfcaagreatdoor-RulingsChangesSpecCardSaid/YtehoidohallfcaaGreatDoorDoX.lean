/- The tie of the listed variables to the program's text: the closed facts one by one (the given Tie's one theorem outgrows the kernel's memory). -/
import Derived.SevenTiedAt
import Derived.Test.YtehoidohallfcaaGreatDoorRowX
import Derived.LaidMore
import Derived.OpenShut
import Derived.Lay
namespace Go.Proofs.YtehoidohallfcaaGreatDoor
open Go
def LL : List (String × DataW Unit) := [("gridwright/digest.start", Rows.laid_gridwright_digest_start), ("gridwright/digest.numbers", Rows.laid_gridwright_digest_numbers), ("math/bits.deBruijn32tab", Rows.laid_math_bits_deBruijn32tab), ("math/bits.deBruijn64tab", Rows.laid_math_bits_deBruijn64tab), ("internal/strconv.uint64pow10", Rows.laid_internal_strconv_uint64pow10)]
theorem tie_w : Tryz.prog.worded (varsWordLater true) = true := by kernel_rfl
theorem tie_w2 : Tryz.prog.worded (varsWordLater !true) = false := by kernel_rfl
theorem tie_root : Tryz.prog.worded rootWordLater = true := by kernel_rfl
theorem tie_k : LL.map (fun x => Tryz.prog.kindOfLater x.1) = [.data, .data, .data, .data, .data].map some := by kernel_rfl
theorem tie_g : (Tryz.prog.funcNamed "gosem.cut.vars").isSome = true := by kernel_rfl
theorem tie_n : varsNamedLaterB Tryz.prog (varsId Tryz.prog) LL = true := by kernel_rfl
theorem tie_d : ∀ os tape, varsDone Tryz.prog 400 (varsId Tryz.prog) os tape = true := fun _ _ => by kernel_rfl
theorem tie_1 : ∀ os tape, (DataW.laidRun Tryz.prog (varsWorld Tryz.prog 400 (varsId Tryz.prog) os tape).memory 8 (LL.map (·.1))).map (·.1) = some LL := fun _ _ => by kernel_rfl
theorem tie_2 : ∀ os tape, (DataW.laidRun Tryz.prog (varsWorld Tryz.prog 400 (varsId Tryz.prog) os tape).memory 8 (LL.map (·.1))).map (fun x => decide x.2.Nodup && laidRowsB Tryz.prog (varsWorld Tryz.prog 400 (varsId Tryz.prog) os tape).memory x.2) = some true := fun _ _ => by kernel_rfl
theorem tie_p : (LL.all fun x => x.2.handleName?.isNone) = true := by kernel_rfl
theorem tie : Tryz.prog.laidByTextLater LL [.data, .data, .data, .data, .data] true := Program.laidByTextLater_by_run 400 8 tie_w tie_w2 tie_root tie_k tie_g tie_n tie_d tie_1 tie_2 tie_p
open Go.ChangeShapes Go.WideShapes Go.ChangeAt Go.RowKit Go.Deep
theorem met_put {P : Program} {l : List (String × DataW Unit)} (w0 V : World) (args : Array Value) (h : laidMetH P l V.memory) : laidMetH P l (({ w0 with heap := V.heap } : World).forCall (fun _ _ => 0) ⟨#[], args, []⟩).memory := h.of_heap (by simp [World.memory, World.forCall, Input.heap])
theorem met_run (os : Os) : laidMetH Tryz.prog LL (varsWorld Tryz.prog 400 (varsId Tryz.prog) os (fun _ _ => 0)).memory := by
 rw [MakeChecks.laidMetH_plain _ _ _ tie_p]
 exact laidMet_of_run' 8 (tie_1 os _) (tie_2 os _)
theorem door_met (os : Os) (args : Array Value) : laidMetH Tryz.prog LL ((World.doorLaid Tryz.prog 400 os).forCall (fun _ _ => 0) ⟨#[], args, []⟩).memory :=
 met_put (World.holding Tryz.prog os ⟨#[], #[], []⟩) (varsWorld Tryz.prog 400 (varsId Tryz.prog) os (fun _ _ => 0)) _ (met_run os)
theorem g_pow : Tryz.prog.globalNamed "internal/strconv.uint64pow10" = some 0 := by kernel_rfl
theorem t_pow : (Tryz.prog.globals[0]?).map (·.type) = some 556 := by kernel_rfl
theorem c_u64 : Tryz.prog.cellsOf 275 = 1 := by kernel_rfl
theorem c_pow : Tryz.prog.cellsOf 556 = 20 := by kernel_rfl
theorem tab_is : (Rows.laid_internal_strconv_uint64pow10 : DataW Unit) = Lib.tabData .u64 Lib.pow10Tab := rfl
theorem tab_of_laid {W : World} (h : laidMetH Tryz.prog LL W) : Tab W := by
 rw [MakeChecks.laidMetH_plain _ _ _ tie_p] at h
 unfold LL at h
 have h2 := h.tail.tail.tail.tail
 rw [tab_is] at h2
 exact Lib.tabIs_of_head g_pow t_pow Tryz.underlying556 Tryz.underlying275 c_u64 c_pow h2
open Go.ChangeShapes Go.WideShapes Go.ChangeAt Go.RowKit Go.Deep
theorem door_vars (os : Os) (args : Array Value) : ((World.doorLaid Tryz.prog 400 os).forCall (fun _ _ => 0) ⟨#[], args, []⟩).variablesZipB Tryz.prog = true := by kernel_rfl
theorem door_heap (os : Os) (args : Array Value) : (((World.doorLaid Tryz.prog 400 os).forCall (fun _ _ => 0) ⟨#[], args, []⟩).heap.toList.drop Tryz.prog.globals.size).take ((begin Tryz.prog (fun _ _ => 0) default).world.heap.size - Tryz.prog.globals.size) =
 (begin Tryz.prog (fun _ _ => 0) default).world.heap.toList.drop Tryz.prog.globals.size := by kernel_rfl
theorem door_shaped (os : Os) (args : Array Value) : ((World.doorLaid Tryz.prog 400 os).forCall (fun _ _ => 0) ⟨#[], args, []⟩).Shaped Tryz.prog := World.shaped_of_ZipB (door_vars os args) (door_heap os args)
end Go.Proofs.YtehoidohallfcaaGreatDoor
