/- Contract of law14.distance; what grid returns. -/
import Derived.Deep.RegionHeld3
import Derived.Test.YtjiacdihfbbfjaaRImg
import Derived.Test.YtjiacdihfbbfjaaArr
import Derived.WalkKit
import Derived.WalkSpells
import Derived.WalkLawsBesides
import Derived.Deep.LoopGhost
import Derived.Deep.QuietTactic
import Derived.BigQuiet
import Derived.StillTailTactics
import Derived.Lib.Hide
import Derived.Outline
import Derived.Lib.QuietBelow
namespace Go.Proofs.Ytjiacdihfbbfjaa
open Go.RowKit

theorem mul_bd {x y : Int} (hx : -4000 ≤ x ∧ x ≤ 4000) (hy : -4000 ≤ y ∧ y ≤ 4000) : -16000000 ≤ x * y ∧ x * y ≤ 16000000 := by
  have h1 : (4000 - x) * (4000 - y) ≥ 0 := Int.mul_nonneg (by omega) (by omega)
  have h2 : (4000 + x) * (4000 + y) ≥ 0 := Int.mul_nonneg (by omega) (by omega)
  have h3 : (4000 + x) * (4000 - y) ≥ 0 := Int.mul_nonneg (by omega) (by omega)
  have h4 : (4000 - x) * (4000 + y) ≥ 0 := Int.mul_nonneg (by omega) (by omega)
  simp only [Int.sub_mul, Int.mul_sub, Int.add_mul, Int.mul_add] at h1 h2 h3 h4
  omega
set_option maxRecDepth 40000 in
set_option maxHeartbeats 2000000 in
theorem distance_any (g : Grid) (ah ac : Option Addr) (nh ch nc cc i k : Nat) (W : World) (hI : Ints W ac nc cc g.cells) (hs : g.shape = 1 ∨ g.shape = 2) (hw : 1 ≤ g.w ∧ g.w ≤ 16) (hc : ∀ x ∈ g.cells, 0 ≤ x ∧ x < 256) (hi : i < nc) (hk : k < nc) :
    Calls Try.prog 35 #[.agg #[.int .i64 g.shape, .int .i64 g.w, .int .i64 g.h, .slice ah nh ch, .slice ac nc cc], .int .i64 i, .int .i64 k] W fun e w' => e = .returned (.int .i64 (distL g i k)) ∧ Below W.heap.size W w' := by
  obtain ⟨a, b, e1⟩ : ∃ a b, plc g i = (a, b) := ⟨_, _, rfl⟩
  obtain ⟨c, d, e2⟩ : ∃ c d, plc g k = (c, d) := ⟨_, _, rfl⟩
  have b1 := plc_bd g hw hc (i := i) (by rw [hI.len]; exact hi)
  have b2 := plc_bd g hw hc (i := k) (by rw [hI.len]; exact hk)
  have HD : Hid (distL g i k = normD g.shape (c - a) (d - b)) := Lib.hid (by unfold distL; rw [e1, e2])
  rw [e1] at b1
  rw [e2] at b2
  simp only at b1 b2
  have bx : -4000 ≤ c - a ∧ c - a ≤ 4000 := by omega
  have by' : -4000 ≤ d - b ∧ d - b ≤ 4000 := by omega
  have m1 := mul_bd bx bx
  have m2 := mul_bd bx by'
  have m3 := mul_bd by' by'
  have hal : Below W.heap.size W (W.alloc (.cells #[.int .i64 g.shape, .int .i64 g.w, .int .i64 g.h, .slice ah nh ch, .slice ac nc cc] 24)) := (Below.refl _ _).alloc (Nat.le_refl _) _
  have hbx := Box.new W #[.int .i64 g.shape, .int .i64 g.w, .int .i64 g.h, .slice ah nh ch, .slice ac nc cc] 24
  have HE1 := Lib.hid e1
  have HE2 := Lib.hid e2
  have HS := Lib.hid hs
  have hlt := hbx.lt
  clear e1 e2 hs
  go_enter Try.func35, Try.ntmps35
  go_wp2_with fail
  refine (place_eq g ah ac nh ch nc cc i _ (hI.below hal) hw hc hi HE1.out).mono ?_
  rintro e w1 ⟨rfl, hB1⟩
  have hb1 := hbx.below hB1
  obtain ⟨d0, d1, d2, d3, d4⟩ := hb1.g5
  have hl1 := hb1.lt
  go_wp2_with fail
  refine (place_eq g ah ac nh ch nc cc k _ (hI.below (hal.on hB1)) hw hc hk HE2.out).mono ?_
  rintro e w2 ⟨rfl, hB2⟩
  have hb2 := hb1.below hB2
  have hl2 := hb2.lt
  clear d0 d1 d2 d3 d4
  obtain ⟨d0, d1, d2, d3, d4⟩ := hb2.g5
  have hBB := (hal.on hB1).on hB2
  rcases HS.out with hs | hs
  · have t0 : (g.shape == 2) = false := by rw [hs]; rfl
    have HS' := Lib.hid hs
    clear hs
    go_wp2_with fail
    go_ret
    refine ⟨ret_int ?_, hBB⟩
    rw [HD.out]
    unfold normD
    rw [HS'.out, if_neg (by decide)]
  · have t0 : (g.shape == 2) = true := by rw [hs]; rfl
    have HS' := Lib.hid hs
    clear hs
    go_wp2_with fail
    go_ret
    refine ⟨ret_int ?_, hBB⟩
    rw [HD.out]
    unfold normD
    rw [HS'.out, if_pos rfl]
end Go.Proofs.Ytjiacdihfbbfjaa
