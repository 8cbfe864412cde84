/- Closed facts of the program, whatever the row. -/
import Derived.Test.YtehoidohallfcaaGreatDoorRowX
import GoSem.ClaimSeven
namespace Go.Proofs.YtehoidohallfcaaGreatDoor
open Go.ChangeShapes Go.WideShapes Go.ChangeAt Go.RowKit Go.Deep
theorem f_maps : mapsRowed Tryz.prog = true := by kernel_rfl
theorem f_stops : (Tryz.prog.stops == []) = true := by kernel_rfl
theorem f_knobs : (Tryz.prog.stopKnobs == []) = true := by kernel_rfl
theorem f_plain : (false == Tryz.prog.plainKeys) = true := by kernel_rfl
theorem f_heard : Tryz.prog.stopsHeard = true := by kernel_rfl
theorem f_enter : Tryz.prog.mayEnter = true := by kernel_rfl
theorem f_lifts : (false == Tryz.prog.liftsFinal) = true := by kernel_rfl
theorem f_make : (Tryz.prog.make == some Make.cut) = true := by kernel_rfl
open Go
def noGo (P : Program) (g : Nat) : Bool := !(P.funcs[g]?).any Func.goes
theorem go_size : Tryz.prog.funcs.size = 678 := by kernel_rfl
theorem go_0 : (List.range' 0 30).all (noGo Tryz.prog) = true := by kernel_rfl
theorem go_30 : (List.range' 30 30).all (noGo Tryz.prog) = true := by kernel_rfl
theorem go_60 : (List.range' 60 30).all (noGo Tryz.prog) = true := by kernel_rfl
theorem go_90 : (List.range' 90 30).all (noGo Tryz.prog) = true := by kernel_rfl
theorem go_120 : (List.range' 120 30).all (noGo Tryz.prog) = true := by kernel_rfl
theorem go_150 : (List.range' 150 30).all (noGo Tryz.prog) = true := by kernel_rfl
theorem go_180 : (List.range' 180 30).all (noGo Tryz.prog) = true := by kernel_rfl
theorem go_210 : (List.range' 210 30).all (noGo Tryz.prog) = true := by kernel_rfl
theorem go_240 : (List.range' 240 30).all (noGo Tryz.prog) = true := by kernel_rfl
theorem go_270 : (List.range' 270 30).all (noGo Tryz.prog) = true := by kernel_rfl
theorem go_300 : (List.range' 300 30).all (noGo Tryz.prog) = true := by kernel_rfl
theorem go_330 : (List.range' 330 30).all (noGo Tryz.prog) = true := by kernel_rfl
theorem go_360 : (List.range' 360 30).all (noGo Tryz.prog) = true := by kernel_rfl
theorem go_390 : (List.range' 390 30).all (noGo Tryz.prog) = true := by kernel_rfl
theorem go_420 : (List.range' 420 30).all (noGo Tryz.prog) = true := by kernel_rfl
theorem go_450 : (List.range' 450 30).all (noGo Tryz.prog) = true := by kernel_rfl
theorem go_480 : (List.range' 480 30).all (noGo Tryz.prog) = true := by kernel_rfl
theorem go_510 : (List.range' 510 30).all (noGo Tryz.prog) = true := by kernel_rfl
theorem go_540 : (List.range' 540 30).all (noGo Tryz.prog) = true := by kernel_rfl
theorem go_570 : (List.range' 570 30).all (noGo Tryz.prog) = true := by kernel_rfl
theorem go_600 : (List.range' 600 30).all (noGo Tryz.prog) = true := by kernel_rfl
theorem go_630 : (List.range' 630 30).all (noGo Tryz.prog) = true := by kernel_rfl
theorem go_660 : (List.range' 660 18).all (noGo Tryz.prog) = true := by kernel_rfl
theorem go_all : (List.range' 0 678).all (noGo Tryz.prog) = true := (all_two 648 go_0 (all_two 618 go_30 (all_two 588 go_60 (all_two 558 go_90 (all_two 528 go_120 (all_two 498 go_150 (all_two 468 go_180 (all_two 438 go_210 (all_two 408 go_240 (all_two 378 go_270 (all_two 348 go_300 (all_two 318 go_330 (all_two 288 go_360 (all_two 258 go_390 (all_two 228 go_420 (all_two 198 go_450 (all_two 168 go_480 (all_two 138 go_510 (all_two 108 go_540 (all_two 78 go_570 (all_two 48 go_600 (all_two 18 go_630 go_660))))))))))))))))))))))
theorem go_none (g : Nat) (fn : Func) (h : Tryz.prog.funcs[g]? = some fn) : fn.goes = false := by
 have hl : g < 678 := by rw [← go_size]; exact (Array.getElem?_eq_some_iff.1 h).1
 have := List.all_eq_true.1 go_all g (by rw [List.mem_range'_1]; omega)
 unfold noGo at this
 rw [h] at this
 simpa using this
theorem goes_none {P : Program} (h : ∀ (g : Nat) (fn : Func), P.funcs[g]? = some fn → fn.goes = false) (f : FuncId) : P.goes f = false := by
 unfold Program.goes
 rw [Bool.or_eq_false_iff]
 constructor
 · rw [List.any_eq_false]
   intro g _
   cases e : P.funcs[g]? with
   | none => simp
   | some fn => simp [h g fn e]
 · rw [Bool.and_eq_false_iff]
   right
   cases hq : P.funcs.any Func.goes with
   | false => rfl
   | true =>
    obtain ⟨i, hi, hp⟩ := Array.any_eq_true.1 hq
    rw [h i P.funcs[i] (Array.getElem?_eq_getElem hi)] at hp
    cases hp
theorem prog_goes (f : FuncId) : Tryz.prog.goes f = false := goes_none go_none f
end Go.Proofs.YtehoidohallfcaaGreatDoor
