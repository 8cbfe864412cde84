/- The door of the rows: what the listed variables hold at the door, and the one table that the laws read. -/
import Derived.Test.YtehoidohallfcaaGreatDoorTie54
import Derived.Test.YtehoidohallfcaaGreatDoorRowX
import Derived.ProofKit
import Derived.LaidMore
import Derived.OpenShut
import Derived.Stop.Joined
import Derived.Stop.LaidErr
import Derived.MakeChecks
import Derived.Lay
import Derived.Lib.LaidTab
namespace Go.Proofs.YtehoidohallfcaaGreatDoor
open Go.ChangeShapes Go.WideShapes Go.ChangeAt Go.RowKit Go.Deep

theorem met_put {P : Program} {l : List (String × DataW Unit)} (w0 V : World) (args : Array Value) (h : laidMetH P l V.memory) : laidMetH P l (({ w0 with heap := V.heap } : World).forCall (fun _ _ => 0) ⟨#[], args, []⟩).memory := h.of_heap (by simp [World.memory, World.forCall, Input.heap])
theorem met_run (os : Os) : laidMetH Tryz.prog LL (varsWorld Tryz.prog 400 (varsId Tryz.prog) os (fun _ _ => 0)).memory := by
  rw [MakeChecks.laidMetH_plain _ _ _ tie_p]
  exact laidMet_of_run' 8 (tie_1 os _) (tie_2 os _)
theorem door_met (os : Os) (args : Array Value) : laidMetH Tryz.prog LL ((World.doorLaid Tryz.prog 400 os).forCall (fun _ _ => 0) ⟨#[], args, []⟩).memory :=
  met_put (World.holding Tryz.prog os ⟨#[], #[], []⟩) (varsWorld Tryz.prog 400 (varsId Tryz.prog) os (fun _ _ => 0)) _ (met_run os)
theorem g_pow : Tryz.prog.globalNamed "internal/strconv.uint64pow10" = some 0 := by kernel_rfl
theorem t_pow : (Tryz.prog.globals[0]?).map (·.type) = some 556 := by kernel_rfl
theorem c_u64 : Tryz.prog.cellsOf 275 = 1 := by kernel_rfl
theorem c_pow : Tryz.prog.cellsOf 556 = 20 := by kernel_rfl
theorem tab_is : (Rows.laid_internal_strconv_uint64pow10 : DataW Unit) = Lib.tabData .u64 Lib.pow10Tab := rfl
theorem tab_of_laid {W : World} (h : laidMetH Tryz.prog LL W) : Tab W := by
  rw [MakeChecks.laidMetH_plain _ _ _ tie_p] at h
  unfold LL at h
  have h2 := h.tail.tail.tail.tail
  rw [tab_is] at h2
  exact Lib.tabIs_of_head g_pow t_pow Tryz.underlying556 Tryz.underlying275 c_u64 c_pow h2
end Go.Proofs.YtehoidohallfcaaGreatDoor

