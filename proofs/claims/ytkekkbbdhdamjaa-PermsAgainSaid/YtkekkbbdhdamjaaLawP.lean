/- What the laws of chapter 11 share. -/
import Derived.Test.YtkekkbbdhdamjaaSane11
import Derived.Test.YtkekkbbdhdamjaaRow11
import Derived.Test.YtkekkbbdhdamjaaHeadF
import Derived.WalkKit
import Derived.WalkSpells
import Derived.WalkLawsBesides
import Derived.Deep.LoopGhost
import Derived.Deep.QuietTactic
import Derived.BigQuiet
import Derived.StillTailTactics
import Derived.Lib.Hide
import Derived.Outline
import Derived.Lib.QuietBelow
namespace Go.Proofs.Ytkekkbbdhdamjaa
open Go.RowKit

theorem RetOwnE.out {w : World} {E : TypeId} {l : List Int} {er : Int} {e : Ending} {w' : World} (h : RetOwnE w E l er e w') : ∃ a n c, e = .returned (.tuple #[.slice a n c, .int .i64 er]) ∧ Ints w' a n c l ∧ Below w.heap.size w w' := by
  obtain ⟨v, rfl, hO, hB⟩ := h
  obtain ⟨a, c, rfl, hI⟩ := hO.ints
  exact ⟨a, _, c, rfl, hI, hB⟩

theorem same_true (a0 a1 : Option Addr) (n0 c0 n1 c1 : Nat) (l : List Int) (w : World) (h0 : Ints w a0 n0 c0 l) (h1 : Ints w a1 n1 c1 l) :
    Calls Try.prog 17 #[.slice a0 n0 c0, .slice a1 n1 c1] w fun e w' => e = .returned (.bool true) ∧ Below w.heap.size w w' := by
  refine (sameI_any a0 a1 n0 c0 n1 c1 l l w h0 h1).mono ?_
  rintro e w' ⟨rfl, q, rfl⟩
  exact ⟨by simp, Below.drewN0 _ _⟩
end Go.Proofs.Ytkekkbbdhdamjaa
