/- The library's contracts on slices of ints, in the words of this seat. -/
import Derived.Test.YtjiacdihfbbfjaaRefA
import Derived.Test.YtjiacdihfbbfjaaShelf
import Derived.WalkKit
import Derived.WalkSpells
import Derived.WalkLawsBesides
import Derived.Deep.LoopGhost
import Derived.Deep.QuietTactic
import Derived.BigQuiet
import Derived.StillTailTactics
import Derived.Lib.Hide
import Derived.Outline
import Derived.Lib.QuietBelow
namespace Go.Proofs.Ytjiacdihfbbfjaa
open Go.RowKit

def bsearchAt (l : List Int) (x : Int) : Nat := l.countP (· < x)

theorem Ints.getD_cell {w : World} {b o n c : Nat} {l : List Int} (h : Ints w (some ⟨b, o, none⟩) n c l) : ∀ j, j < l.length → w.cell? ⟨b, o + j, none⟩ = some (.int .i64 (l.getD j 0)) := by
  intro j hj
  rw [List.getD_eq_getElem?_getD]
  exact h.cell b o rfl j (by rw [← h.len]; exact hj)

theorem clone_any (a : Option Addr) (n c : Nat) (l : List Int) (w : World) (h : Ints w a n c l) (hn : n ≤ 10000000000) :
    Calls Try.prog 70 #[.slice a n c] w (RetOwn w 3 l) := by
  by_cases h0 : n = 0
  · subst h0
    have hl : l = [] := List.eq_nil_of_length_eq_zero h.len
    subst hl
    cases a with
    | none => exact (Try.slices_Clone_int_nil 0 c w).mono fun e w' ⟨he, hw⟩ => by subst he; subst hw; exact ⟨_, rfl, OwnInts.nil _ _ _, Below.refl _ _⟩
    | some a => exact (Try.slices_Clone_int_zero a c w).mono fun e w' ⟨v, he, hO, _, hb⟩ => ⟨v, he, hO, hb⟩
  · obtain ⟨b, o, rfl, hb⟩ := h.at' (by omega)
    refine (Try.slices_Clone_int b o n c l w (by rw [h.len]; omega) (by omega) h.getD_cell).mono fun e w' ⟨v, he, hO, _, hb⟩ => ⟨v, he, ?_, hb⟩
    unfold OwnInts
    rw [List.take_of_length_le (by rw [h.len]; omega)] at hO
    rw [h.len]; exact hO

theorem bsearch_any (a : Option Addr) (n c : Nat) (l : List Int) (x : Int) (w : World) (h : Ints w a n c l) (hn : n ≤ 10000000000) (hs : l.Pairwise (· ≤ ·)) :
    Calls Try.prog 71 #[.slice a n c, .int .i64 x] w fun e w' => e = .returned (.tuple #[.int .i64 (bsearchAt l x : Nat), .bool (inL l x)]) ∧ ∃ q, w' = w.drewN q := by
  by_cases h0 : n = 0
  · subst h0
    have hl : l = [] := List.eq_nil_of_length_eq_zero h.len
    subst hl
    exact (Try.slices_BinarySearch_int_empty a c x w).mono fun e w' ⟨he, hw⟩ => by subst he; subst hw; exact ⟨rfl, 0, rfl⟩
  · obtain ⟨b, o, rfl, hb⟩ := h.at' (by omega)
    refine (Try.slices_BinarySearch_int b o n c l x w (by rw [h.len]; omega) (by omega) h.getD_cell (by rw [List.take_of_length_le (by rw [h.len]; omega)]; exact hs)).mono fun e w' ⟨he, hq⟩ => ⟨?_, hq⟩
    rw [he, List.take_of_length_le (by rw [h.len]; omega)]
    rfl

theorem equalS_any (a0 a1 : Option Addr) (n0 c0 n1 c1 : Nat) (x y : List Int) (w : World) (h0 : Ints w a0 n0 c0 x) (h1 : Ints w a1 n1 c1 y) (hn0 : n0 ≤ 10000000000) (hn1 : n1 ≤ 10000000000) :
    Calls Try.prog 74 #[.slice a0 n0 c0, .slice a1 n1 c1] w fun e w' => e = .returned (.bool (eqL x y)) ∧ ∃ q, w' = w.drewN q := by
  by_cases hne : n0 = n1
  · subst hne
    by_cases hz : n0 = 0
    · subst hz
      have hx : x = [] := List.eq_nil_of_length_eq_zero h0.len
      have hy : y = [] := List.eq_nil_of_length_eq_zero h1.len
      subst hx hy
      exact (Try.slices_Equal_int_empty a0 a1 c0 0 c1 w (by omega)).mono fun e w' ⟨he, hw⟩ => by subst he; subst hw; exact ⟨rfl, 0, rfl⟩
    · obtain ⟨b0, o0, rfl, _⟩ := h0.at' (by omega)
      obtain ⟨b1, o1, rfl, _⟩ := h1.at' (by omega)
      refine (Try.slices_Equal_int b0 o0 n0 c0 b1 o1 n0 c1 x y w (by rw [h0.len]; omega) (by rw [h1.len]; omega) (by omega) (by omega) h0.getD_cell h1.getD_cell).mono fun e w' ⟨he, hq⟩ => ⟨?_, hq⟩
      rw [he, List.take_of_length_le (by rw [h0.len]; omega), List.take_of_length_le (by rw [h1.len]; omega)]
      unfold eqL
      exact ret_bool (by rw [Bool.eq_iff_iff]; simp)
  · refine (Try.slices_Equal_int_lens a0 a1 n0 c0 n1 c1 w hne).mono fun e w' ⟨he, hw⟩ => ?_
    subst he; subst hw
    exact ⟨ret_bool (eqL_len (by rw [h0.len, h1.len]; exact hne)).symm, 0, rfl⟩
end Go.Proofs.Ytjiacdihfbbfjaa
