/- The chapter's examples, reckoned. Plain words. -/
import Derived.Test.YtkekkbbdhdamjaaFullM
import Derived.Test.YtkekkbbdhdamjaaPOr
import Derived.WalkKit
import Derived.WalkSpells
import Derived.WalkLawsBesides
import Derived.Deep.LoopGhost
import Derived.Deep.QuietTactic
import Derived.BigQuiet
import Derived.StillTailTactics
import Derived.Lib.Hide
import Derived.Outline
import Derived.Lib.QuietBelow
namespace Go.Proofs.Ytkekkbbdhdamjaa
open Go.RowKit

theorem bfs_of {n : Nat} {gens L M : List (List Int)} (_h : bfsL n gens = some L) (hn : L.Nodup) (hm : Inc M) (hs : ∀ x, x ∈ M ↔ x ∈ L) : sortP L = M := (sortP_uniq hn hm hs).symm
theorem san_comp : compL [1, 2, 0] [1, 0, 2] = [2, 1, 0] ∧ compE [1, 2, 0] [1, 0, 2] = 0 ∧ compL [0, 1] [0, 1, 2] = [] ∧ compE [0, 1] [0, 1, 2] = 110 ∧ invLL [1, 2, 0] = [2, 0, 1] ∧ invE [1, 2, 0] = 0 ∧ checkE [] 0 = 0 ∧ checkE [0, 0] 2 = 110 ∧ checkE [] (-1) = 1 := by
  refine ⟨by decide, by decide, by decide, by decide, by decide, by decide, by decide, by decide, by decide⟩
theorem san_v3 : validE 3 [[1, 2, 0]] = 0 ∧ validE 3 [[2, 1, 0]] = 0 ∧ validE 0 [] = 0 ∧ validE 8 [[1, 0, 2, 3, 4, 5, 6, 7], [1, 2, 3, 4, 5, 6, 7, 0]] = 0 := by
  refine ⟨by decide, by decide, by decide, by decide⟩
theorem san_b3 : bfsL 3 [[1, 2, 0]] = some [[0, 1, 2], [1, 2, 0], [2, 0, 1]] := by kernel_rfl
theorem san_b0 : bfsL 0 [] = some [[]] := by kernel_rfl
theorem san_b8 : bfsL 8 [[1, 0, 2, 3, 4, 5, 6, 7], [1, 2, 3, 4, 5, 6, 7, 0]] = none := by
  have e : ([[1, 0, 2, 3, 4, 5, 6, 7], [1, 2, 3, 4, 5, 6, 7, 0]] : List (List Int)) = [tr 8 0 1, rt 8 1] := by decide
  rw [e]
  have hg : ∀ g ∈ [tr 8 0 1, rt 8 1], okPerm g 8 := fun g hg => by
    simp at hg
    rcases hg with rfl | rfl
    · exact tr_ok (by decide) (by decide)
    · exact rt_ok' (by decide) (by decide)
  exact full_none (by decide) hg (Reach.gen hg (by simp)) (Reach.gen hg (by simp))
theorem san_clo : closR 3 [[1, 2, 0]] = [[0, 1, 2], [1, 2, 0], [2, 0, 1]] ∧ closE 3 [[1, 2, 0]] = 0 ∧ closR 8 [[1, 0, 2, 3, 4, 5, 6, 7], [1, 2, 3, 4, 5, 6, 7, 0]] = [] ∧ closE 8 [[1, 0, 2, 3, 4, 5, 6, 7], [1, 2, 3, 4, 5, 6, 7, 0]] = 2 ∧ closR 0 [] = [[]] ∧ closE 0 [] = 0 := by
  obtain ⟨v1, _, v2, v3⟩ := san_v3
  refine ⟨?_, ?_, ?_, ?_, ?_, ?_⟩
  · unfold closR; rw [if_neg (by simp [v1]), show (3 : Int).toNat = 3 from rfl, san_b3]
    exact bfs_of san_b3 (by decide) (by unfold Inc; decide) (fun x => Iff.rfl)
  · unfold closE; rw [if_neg (by simp [v1]), show (3 : Int).toNat = 3 from rfl, san_b3]; rfl
  · unfold closR; rw [if_neg (by simp [v3]), show (8 : Int).toNat = 8 from rfl, san_b8]; rfl
  · unfold closE; rw [if_neg (by simp [v3]), show (8 : Int).toNat = 8 from rfl, san_b8]; rfl
  · unfold closR; rw [if_neg (by simp [v2]), show (0 : Int).toNat = 0 from rfl, san_b0]
    exact bfs_of san_b0 (by decide) (by unfold Inc; decide) (fun x => Iff.rfl)
  · unfold closE; rw [if_neg (by simp [v2]), show (0 : Int).toNat = 0 from rfl, san_b0]; rfl
theorem san_orb : orbR 3 [[2, 1, 0]] = [[0, 2], [1]] := by kernel_rfl
end Go.Proofs.Ytkekkbbdhdamjaa
