/- The chapter's examples reckoned, and the contract of law04.grade. -/
import Derived.Test.YtfhekhjojdhmhaaFChg
import Derived.Test.YtfhekhjojdhmhaaFAlk
import Derived.Test.YtfhekhjojdhmhaaFAddR
import Derived.Test.YtfhekhjojdhmhaaFChR
import Derived.Test.YtfhekhjojdhmhaaFChk
import Derived.WalkKit
import Derived.WalkSpells
import Derived.WalkLawsBesides
import Derived.Deep.LoopGhost
import Derived.Deep.QuietTactic
import Derived.BigQuiet
import Derived.StillTailTactics
import Derived.Lib.Hide
import Derived.Outline
import Derived.Lib.QuietBelow
namespace Go.Proofs.Ytfhekhjojdhmhaa
open Go.RowKit

def ex1 : Fact := ⟨3, 4, 9, 7, 2, 6, 10, 0⟩
def ex2 : Fact := ⟨3, 4, 9, -1, 3, 4, 20, 0⟩
def ex3 : Fact := ⟨3, 4, 9, 7, 2, 6, 20, 0⟩
def ex0 : Fact := ⟨0, 0, 0, 0, 0, 0, 0, 0⟩
def exk : Key := ⟨3, 4, 9⟩
theorem san_at : (atV [ex1, ex2] exk 3 15 = 7 ∧ atOk [ex1, ex2] exk 3 15 = true) ∧ atOk [ex1, ex2] exk 3 20 = false ∧ (atV [ex1, ex2] exk 2 20 = 7 ∧ atOk [ex1, ex2] exk 2 20 = true) ∧ atOk [] exk 0 0 = false := ⟨⟨by kernel_rfl, by kernel_rfl⟩, by kernel_rfl, ⟨by kernel_rfl, by kernel_rfl⟩, by kernel_rfl⟩
theorem san_add : addErr [ex1] ex2 = 0 ∧ addL [ex1] ex2 = [ex1, ex2] ∧ addErr [ex1, ex2] ex3 = 41 ∧ checkF [ex0] = 40 ∧ checkF [ex1, ex2] = 0 := ⟨by kernel_rfl, by kernel_rfl, by kernel_rfl, by kernel_rfl, by kernel_rfl⟩
theorem san_pts : pointsL [ex1, ex2] exk 5 5 20 = [] ∧ (pointsL [ex1, ex2] exk 0 9 20).length = 3 := ⟨by kernel_rfl, by kernel_rfl⟩
theorem san_chg : changedL [ex1, ex2] 15 20 = [(exk, [(3, 4)])] := by kernel_rfl
theorem san_alk : alikeB [ex1, ex2] [] 1 2 = true ∧ alikeB [ex1, ex2] [⟨3, 4, 9, 0, 9⟩] 15 20 = false := ⟨by kernel_rfl, by kernel_rfl⟩
theorem san_upto : uptoL [ex1, ex2] 19 = [ex1] := by kernel_rfl

theorem grade_any (v fr til kn no : Int) (W : World) : Calls Try.prog 31 #[.int .i64 v, .int .i64 fr, .int .i64 til, .int .i64 kn, .int .i64 no] W fun e w' => e = .returned (factV ⟨3, 4, 9, v, fr, til, kn, no⟩) ∧ Below W.heap.size W w' := by
  go_enter Try.func31, Try.ntmps31
  go_wp2_with fail
  have hb := Box.new W #[.int .i64 3, .int .i64 4, .int .i64 9, .int .i64 v, .int .i64 fr, .int .i64 til, .int .i64 kn, .int .i64 no] 28
  refine bodyPost_ret (v := factV ⟨3, 4, 9, v, fr, til, kn, no⟩) (by simp [results, Try.results31, go_sem, hb.cell]) rfl ?_
  exact ⟨rfl, (Below.refl _ _).alloc (Nat.le_refl _) _⟩

theorem SL.box {α : Type} {enc : α → List Value} {k : Nat} (hk : ∀ x, (enc x).length = k) {w : World} {B n : Nat} {us : Array Value} {t : TypeId} (l : List α) (h : Box w B us t) (hu : us = (l.flatMap enc).toArray) (hn : l.length = n) (hs : n ≤ 1000000) : SL enc k w (some ⟨B, 0, none⟩) n n l := by
  refine ⟨hn, Nat.le_refl _, by unfold maxLen; omega, fun _ => ⟨B, 0, rfl, h.lt⟩, fun b o eq i x hx j v hv => ?_⟩
  obtain ⟨rfl, rfl⟩ : B = b ∧ 0 = o := by simpa using eq
  have hj : j < k := by rw [← hk x]; exact (List.getElem?_eq_some_iff.1 hv).1
  rw [Nat.zero_add, h.cell, hu, List.getElem?_toArray, flat_get hk l i x hx j hj, hv]
end Go.Proofs.Ytfhekhjojdhmhaa
