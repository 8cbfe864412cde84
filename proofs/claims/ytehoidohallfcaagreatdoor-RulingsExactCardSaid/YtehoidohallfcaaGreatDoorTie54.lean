/- The tie of the listed variables to the program's text: the closed facts one by one (the given Tie's one theorem outgrows the kernel's memory). -/
import Derived.Test.YtehoidohallfcaaGreatDoorRows
import Derived.LaidByTextLater
import Derived.SevenTiedAt
import Derived.KernelRfl
namespace Go.Proofs.YtehoidohallfcaaGreatDoor
open Go

def LL : List (String × DataW Unit) := [("gridwright/digest.start", Rows.laid_gridwright_digest_start), ("gridwright/digest.numbers", Rows.laid_gridwright_digest_numbers), ("math/bits.deBruijn32tab", Rows.laid_math_bits_deBruijn32tab), ("math/bits.deBruijn64tab", Rows.laid_math_bits_deBruijn64tab), ("internal/strconv.uint64pow10", Rows.laid_internal_strconv_uint64pow10)]
theorem tie_w : Tryz.prog.worded (varsWordLater true) = true := by kernel_rfl
theorem tie_w2 : Tryz.prog.worded (varsWordLater !true) = false := by kernel_rfl
theorem tie_root : Tryz.prog.worded rootWordLater = true := by kernel_rfl
theorem tie_k : LL.map (fun x => Tryz.prog.kindOfLater x.1) = [.data, .data, .data, .data, .data].map some := by kernel_rfl
theorem tie_g : (Tryz.prog.funcNamed "gosem.cut.vars").isSome = true := by kernel_rfl
theorem tie_n : varsNamedLaterB Tryz.prog (varsId Tryz.prog) LL = true := by kernel_rfl
theorem tie_d : ∀ os tape, varsDone Tryz.prog 400 (varsId Tryz.prog) os tape = true := fun _ _ => by kernel_rfl
theorem tie_1 : ∀ os tape, (DataW.laidRun Tryz.prog (varsWorld Tryz.prog 400 (varsId Tryz.prog) os tape).memory 8 (LL.map (·.1))).map (·.1) = some LL := fun _ _ => by kernel_rfl
theorem tie_2 : ∀ os tape, (DataW.laidRun Tryz.prog (varsWorld Tryz.prog 400 (varsId Tryz.prog) os tape).memory 8 (LL.map (·.1))).map (fun x => decide x.2.Nodup && laidRowsB Tryz.prog (varsWorld Tryz.prog 400 (varsId Tryz.prog) os tape).memory x.2) = some true := fun _ _ => by kernel_rfl
theorem tie_p : (LL.all fun x => x.2.handleName?.isNone) = true := by kernel_rfl
theorem tie : Tryz.prog.laidByTextLater LL [.data, .data, .data, .data, .data] true := Program.laidByTextLater_by_run 400 8 tie_w tie_w2 tie_root tie_k tie_g tie_n tie_d tie_1 tie_2 tie_p
end Go.Proofs.YtehoidohallfcaaGreatDoor
