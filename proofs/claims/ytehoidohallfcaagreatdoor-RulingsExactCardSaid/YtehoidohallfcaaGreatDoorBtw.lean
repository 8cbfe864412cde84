/- Contract of ranking.between. -/
import Derived.Test.YtehoidohallfcaaGreatDoorE54
import Derived.WalkKit
import Derived.WalkSpells
import Derived.WalkLawsBesides
import Derived.Deep.LoopGhost
import Derived.Deep.QuietTactic
import Derived.BigQuiet
import Derived.StillTailTactics
import Derived.Lib.Hide
import Derived.Outline
import Derived.Lib.QuietBelow
namespace Go.Proofs.YtehoidohallfcaaGreatDoor
open Go.RowKit

theorem btw1_any (lo hi x : Int) (p q : Nat) (W : World) (h1 : W.cell? ⟨p, 0, none⟩ = some (.int .i64 lo)) (h2 : W.cell? ⟨q, 0, none⟩ = some (.int .i64 hi)) :
    Calls Tryz.prog 72 #[.int .i64 x, .pointer (some ⟨p, 0, none⟩), .pointer (some ⟨q, 0, none⟩)] W fun e w' => RetB W (.bool (decide (x < lo) || decide (hi < x))) e w' := by
  by_cases h : x < lo
  · go_enter Tryz.func72, Tryz.ntmps72
    go_wp2_with fail
    go_ret
    exact ⟨by simp [h], Below.refl _ _⟩
  · have h' : decide (x < lo) = false := decide_eq_false h
    go_enter Tryz.func72, Tryz.ntmps72
    go_wp2_with fail
    all_goals
      go_ret
      exact ⟨by simp [*], Below.refl _ _⟩
theorem betw_any (lo hi : Int) (l : List Int) : (!(l.any fun x => decide (x < lo) || decide (hi < x))) = betw lo hi l := by
  unfold betw
  rw [List.not_any_eq_all_not]
  congr 1
  funext x
  rw [Bool.eq_iff_iff]
  simp only [Bool.not_eq_true', Bool.or_eq_false_iff, decide_eq_false_iff_not, Bool.and_eq_true, decide_eq_true_eq]
  omega
theorem between_any (lo hi : Int) (a : Option Addr) (n c : Nat) (l : List Int) (W : World) (h0 : Ints W a n c l) :
    Calls Tryz.prog 48 #[.int .i64 lo, .int .i64 hi, .slice a n c] W fun e w' => RetB W (.bool (betw lo hi l)) e w' := by
  have HB := Lib.hid (betw_any lo hi l)
  have hal : Below W.heap.size W ((W.alloc (.cells #[.int .i64 lo] 3)).alloc (.cells #[.int .i64 hi] 3)) := ((Below.refl _ _).alloc (Nat.le_refl _) _).alloc (by simp) _
  have hc1 := (Box.new W #[.int .i64 lo] 3).alloc (.cells #[.int .i64 hi] 3)
  have hc2 := Box.new (W.alloc (.cells #[.int .i64 lo] 3)) #[.int .i64 hi] 3
  rw [World.size_alloc] at hc2
  have HC := Lib.hid (int_contains 72 #[.pointer (some ⟨W.heap.size, 0, none⟩), .pointer (some ⟨W.heap.size + 1, 0, none⟩)] a n c l (fun x => decide (x < lo) || decide (hi < x)) _ (enters_of Tryz.func72 (by kernel_rfl) rfl) (h0.below hal)
    (fun x W' hb => btw1_any lo hi x _ _ W' (by simpa using (hc1.below hb).cell 0) (by simpa using (hc2.below hb).cell 0)))
  clear hc1 hc2
  go_enter Tryz.func48, Tryz.ntmps48
  go_wp2_with fail
  refine HC.out.mono ?_
  rintro e w1 ⟨rfl, hB⟩
  go_wp2_with fail
  go_ret
  exact ⟨ret_bool HB.out, hal.on hB⟩
end Go.Proofs.YtehoidohallfcaaGreatDoor
