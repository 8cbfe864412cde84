/- Contracts of the functions on one fact or two: within, fits, compare, Valid, Before. -/
import Derived.Test.YtfhekhjojdhmhaaProg
import Derived.Test.YtfhekhjojdhmhaaFactM
import Derived.WalkKit
import Derived.WalkSpells
import Derived.WalkLawsBesides
import Derived.Deep.LoopGhost
import Derived.Deep.QuietTactic
import Derived.BigQuiet
import Derived.StillTailTactics
import Derived.Lib.Hide
import Derived.Outline
import Derived.Lib.QuietBelow
namespace Go.Proofs.Ytfhekhjojdhmhaa
open Go.RowKit

/-- A callee that only makes memory of its own. -/
def RetB (W : World) (v : Value) (e : Ending) (w' : World) : Prop := e = .returned v ∧ Below W.heap.size W w'

theorem compareI_any (x y : Int) (W : World) : Calls Try.prog 51 #[.int .i64 x, .int .i64 y] W fun e w' => e = .returned (.int .i64 (cmpI x y)) ∧ w' = W := by
  go_enter Try.func51, Try.ntmps51
  go_wp2
  all_goals (go_ret; refine ⟨?_, rfl⟩; unfold cmpI; (first | rw [if_pos (by omega)] | (rw [if_neg (by omega)]; first | rw [if_pos (by omega)] | rw [if_neg (by omega)])); rfl)
theorem within_any (x lo hi : Int) (W : World) : Calls Try.prog 49 #[.int .i64 x, .int .i64 lo, .int .i64 hi] W fun e w' => e = .returned (.bool (decide (lo ≤ x) && decide (x ≤ hi))) ∧ w' = W := by
  by_cases h1 : lo ≤ x
  · by_cases h2 : x ≤ hi
    all_goals (
      go_enter Try.func49, Try.ntmps49
      go_wp2
      all_goals (first | (exfalso; omega) | (go_ret; refine ⟨?_, rfl⟩; simp [h1, h2])))
  · go_enter Try.func49, Try.ntmps49
    go_wp2
    all_goals (first | (exfalso; omega) | (go_ret; refine ⟨ret_bool ?_, rfl⟩; symm; rw [Bool.and_eq_false_iff]; exact .inl (by simpa using h1)))
set_option maxRecDepth 20000 in
set_option maxHeartbeats 2000000 in
theorem fits_any (f : Fact) (W : World) : Calls Try.prog 32 #[factV f] W fun e w' => RetB W (.bool (validB f)) e w' := by
  go_enter Try.func32, Try.ntmps32
  go_wp2_with (first | ((go_at_call 49; refine (within_any _ _ _ _).mono ?_; rintro e w' ⟨rfl, q, rfl⟩)))
  all_goals (go_ret; refine ⟨ret_bool ?_, (by repeat (first | (with_reducible exact Below.refl _ _) | (with_reducible assumption) | (with_reducible refine below_drewN ?_ _) | ((with_reducible refine Below.setCell ?_ ?_ _); rotate_left; focus (first | (simp; done) | (simp; omega) | omega)) | ((with_reducible refine Below.alloc ?_ ?_ _); rotate_left; focus (first | (simp; done) | (simp; omega) | omega)) | (with_reducible refine Below.drew ?_)))⟩; (rw [Bool.eq_iff_iff]; simp only [validB, Bool.and_eq_true, decide_eq_true_eq, Bool.false_eq_true, false_iff] at *; omega))
set_option maxRecDepth 20000 in
set_option maxHeartbeats 2000000 in
theorem valid_any (f : Fact) (W : World) : Calls Try.prog 35 #[factV f] W fun e w' => RetB W (.bool (validB f)) e w' := by
  go_enter Try.func35, Try.ntmps35
  go_wp2_with fail
  all_goals (go_ret; refine ⟨ret_bool ?_, (by repeat (first | (with_reducible exact Below.refl _ _) | (with_reducible assumption) | (with_reducible refine below_drewN ?_ _) | ((with_reducible refine Below.setCell ?_ ?_ _); rotate_left; focus (first | (simp; done) | (simp; omega) | omega)) | ((with_reducible refine Below.alloc ?_ ?_ _); rotate_left; focus (first | (simp; done) | (simp; omega) | omega)) | (with_reducible refine Below.drew ?_)))⟩; (rw [Bool.eq_iff_iff]; simp only [validB, Bool.and_eq_true, decide_eq_true_eq, Bool.false_eq_true, false_iff] at *; omega))
set_option maxRecDepth 20000 in
set_option maxHeartbeats 2000000 in
theorem before_any (f g : Fact) (W : World) : Calls Try.prog 30 #[factV f, factV g] W fun e w' => RetB W (.bool (befB f g)) e w' := by
  go_enter Try.func30, Try.ntmps30
  go_wp2_with fail
  all_goals (go_ret; refine ⟨ret_bool ?_, (by repeat (first | (with_reducible exact Below.refl _ _) | (with_reducible assumption) | (with_reducible refine below_drewN ?_ _) | ((with_reducible refine Below.setCell ?_ ?_ _); rotate_left; focus (first | (simp; done) | (simp; omega) | omega)) | ((with_reducible refine Below.alloc ?_ ?_ _); rotate_left; focus (first | (simp; done) | (simp; omega) | omega)) | (with_reducible refine Below.drew ?_)))⟩; (rw [Bool.eq_iff_iff]; simp only [befB, decide_eq_true_eq, true_iff] at *; omega))
end Go.Proofs.Ytfhekhjojdhmhaa
