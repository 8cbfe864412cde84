/- Contracts of points.Print and points.Check. -/
import Derived.Test.YtehoidohallfcaaGreatDoorPtQ
import Derived.Test.YtehoidohallfcaaGreatDoorLxX
import Derived.WalkKit
import Derived.WalkSpells
import Derived.WalkLawsBesides
import Derived.Deep.LoopGhost
import Derived.Deep.QuietTactic
import Derived.BigQuiet
import Derived.StillTailTactics
import Derived.Lib.Hide
import Derived.Outline
import Derived.Lib.QuietBelow
namespace Go.Proofs.YtehoidohallfcaaGreatDoor
open Go.RowKit

theorem print_any (a : Option Addr) (n c : Nat) (ws : List Wd) (W : World) (h0 : SL encW 2 W a n c ws) (ht : Tab W) : Calls Tryz.prog 71 #[.slice a n c] W fun e w' => ∃ s, RetB W (.tuple #[s, .int .i64 (ptE ws)]) e w' := by
  by_cases hn : 256 < n
  · have n0 : decide ((256 : Int) < (n : Int)) = true := by simp; omega
    have HE : Hid (ptE ws = 520) := Lib.hid (by unfold ptE okW; rw [h0.len, decide_eq_false (by omega)]; rfl)
    go_enter Tryz.func71, Tryz.ntmps71
    go_wp2_with fail
    refine bodyPost_ret (v := .tuple #[.string ⟨#[]⟩, .int .i64 520]) (by simp [results, Tryz.results71, go_sem]) rfl ?_
    exact ⟨_, by rw [HE.out], Below.refl _ _⟩
  have n0 : decide ((256 : Int) < (n : Int)) = false := by simp; omega
  have hn' : n ≤ 256 := by omega
  have HT := Lib.hid ht
  clear hn
  go_enter Tryz.func71, Tryz.ntmps71
  go_wp2_with fail
  refine (parts_any _ _ _ ws _ h0 hn').mono ?_
  rintro e w1 ⟨v, rfl, hB, hok⟩
  have HB := Lib.hid hB
  cases h : okW ws
  · have HE : Hid (ptE ws = 520) := Lib.hid (by unfold ptE; rw [h]; rfl)
    clear hok h
    go_wp2_with fail
    refine bodyPost_ret (v := .tuple #[.string ⟨#[]⟩, .int .i64 520]) (by simp [results, Tryz.results71, go_sem]) rfl ?_
    exact ⟨_, by rw [HE.out], HB.out⟩
  · obtain ⟨g, o, cc, p, rfl, hc, hsl, hk, hp⟩ := hok h
    have HE : Hid (ptE ws = 0) := Lib.hid (by unfold ptE; rw [h]; rfl)
    have HS := Lib.hid hsl
    have HK := Lib.hid hk
    clear hok h hsl hk hB
    go_wp2_with fail
    refine (text_any _ _ _ p.ts _ HS.out (by omega) (HT.out.below HB.out) HK.out).mono ?_
    rintro e w2 ⟨s, rfl, hB2⟩
    go_wp2_with fail
    refine bodyPost_ret (v := .tuple #[.string s, .int .i64 0]) (by simp [results, Tryz.results71, go_sem]) rfl ?_
    exact ⟨_, by rw [HE.out], HB.out.on hB2⟩
theorem ptC : PtC := by
  intro a n c l w h0 ht
  have HP := Lib.hid (print_any a n c l w h0 ht)
  go_enter Tryz.func47, Tryz.ntmps47
  go_wp2_with fail
  refine HP.out.mono ?_
  rintro e w1 ⟨s, rfl, hB⟩
  go_wp2_with fail
  go_ret
  exact ⟨rfl, hB⟩
end Go.Proofs.YtehoidohallfcaaGreatDoor

