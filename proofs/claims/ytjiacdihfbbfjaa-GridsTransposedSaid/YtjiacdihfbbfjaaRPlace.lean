/- Contracts of ref14.Place, Linear. -/
import Derived.Test.YtjiacdihfbbfjaaMaps
import Derived.WalkKit
import Derived.WalkSpells
import Derived.WalkLawsBesides
import Derived.Deep.LoopGhost
import Derived.Deep.QuietTactic
import Derived.BigQuiet
import Derived.StillTailTactics
import Derived.Lib.Hide
import Derived.Outline
import Derived.Lib.QuietBelow
namespace Go.Proofs.Ytjiacdihfbbfjaa
open Go.RowKit

theorem ret_ii {a b x y : Int} (h : a = b) (h2 : x = y) : Ending.returned (.tuple #[.int .i64 a, .int .i64 x]) = .returned (.tuple #[.int .i64 b, .int .i64 y]) := by rw [h, h2]
set_option maxRecDepth 20000 in
set_option maxHeartbeats 1000000 in
theorem place_any (g : Grid) (ah ac : Option Addr) (nh ch nc cc k : Nat) (W : World) (hI : Ints W ac nc cc g.cells) (hw : 1 ≤ g.w ∧ g.w ≤ 16) (hc : ∀ x ∈ g.cells, 0 ≤ x ∧ x < 256) (hk : k < nc) :
    Calls Try.prog 69 #[.agg #[.int .i64 g.shape, .int .i64 g.w, .int .i64 g.h, .slice ah nh ch, .slice ac nc cc], .int .i64 k] W fun e w' => e = .returned (.tuple #[.int .i64 (placeOf g (g.cells[k]?.getD 0)).1, .int .i64 (placeOf g (g.cells[k]?.getD 0)).2]) ∧ Below W.heap.size W w' := by
  obtain ⟨w, hwe⟩ : ∃ w, g.w = w := ⟨_, rfl⟩
  obtain ⟨s, hse⟩ : ∃ s, g.shape = s := ⟨_, rfl⟩
  obtain ⟨b0, o0, rfl, hb0⟩ := hI.at' (by omega)
  have hx := hI.cell b0 o0 rfl k hk
  have hp := hc _ (getD_mem g.cells k (by rw [hI.len]; exact hk))
  have hP : placeOf g (g.cells[k]?.getD 0) = if s = 2 then (g.cells[k]?.getD 0 % w - g.cells[k]?.getD 0 / w / 2, g.cells[k]?.getD 0 / w) else (g.cells[k]?.getD 0 % w, g.cells[k]?.getD 0 / w) := by unfold placeOf; rw [hwe, hse]
  obtain ⟨pos, hpos⟩ : ∃ pos, g.cells[k]?.getD 0 = pos := ⟨_, rfl⟩
  rw [hpos] at hx hp hP
  rw [hpos]
  have HP := Lib.hid hP
  have hm := hI.mx
  have hcap := hI.cap
  unfold maxLen at hm
  rw [hwe] at hw ⊢
  rw [hse]
  clear hwe hse hP hpos hc
  have h0 : (w == 0) = false := by rw [beq_eq_false_iff_ne]; omega
  have q1 : 0 ≤ pos / w := Int.ediv_nonneg hp.1 (by omega)
  have q2 : pos / w ≤ pos := Int.ediv_le_self _ hp.1
  have q3 : 0 ≤ pos % w := Int.emod_nonneg _ (by omega)
  have q4 : pos % w < w := Int.emod_lt_of_pos _ (by omega)
  have k0 : (0 : Int) ≤ (k : Int) := by omega
  have k1 : (k : Int) < (nc : Int) := by omega
  have q5 : 0 ≤ pos / w % 2 := by omega
  have q6 : pos / w % 2 ≤ pos / w := by omega
  by_cases hs : s = 2
  · have hs' : (s == 2) = true := by rw [beq_iff_eq]; exact hs
    have HS := Lib.hid hs
    clear hs
    go_enter Try.func69, Try.ntmps69
    go_wp2_with (go_quiet (fail))
    go_ret2
    rw [HP.out, if_pos HS.out]
    exact ⟨ret_ii (by omega) rfl, (by repeat (first | (with_reducible exact Below.refl _ _) | (with_reducible assumption) | (with_reducible refine below_drewN ?_ _) | ((with_reducible refine Below.setCell ?_ ?_ _); rotate_left; focus (first | (simp; done) | (simp; omega) | omega)) | ((with_reducible refine Below.alloc ?_ ?_ _); rotate_left; focus (first | (simp; done) | (simp; omega) | omega)) | (with_reducible refine Below.drew ?_)))⟩
  · have hs' : (s == 2) = false := by rw [beq_eq_false_iff_ne]; exact hs
    have HS := Lib.hid hs
    clear hs
    go_enter Try.func69, Try.ntmps69
    go_wp2_with (go_quiet (fail))
    go_ret2
    rw [HP.out, if_neg HS.out]
    exact ⟨rfl, (by repeat (first | (with_reducible exact Below.refl _ _) | (with_reducible assumption) | (with_reducible refine below_drewN ?_ _) | ((with_reducible refine Below.setCell ?_ ?_ _); rotate_left; focus (first | (simp; done) | (simp; omega) | omega)) | ((with_reducible refine Below.alloc ?_ ?_ _); rotate_left; focus (first | (simp; done) | (simp; omega) | omega)) | (with_reducible refine Below.drew ?_)))⟩

/-- The linear maps of the reference. -/
def refTurn (p : Int × Int) : Int × Int := (-p.2, p.1 + p.2)
def refTurns : Nat → Int × Int → Int × Int
  | 0, p => p
  | k + 1, p => refTurn (refTurns k p)
def refLin (s : Int) (k : Nat) (p : Int × Int) : Int × Int :=
  let q := if k % 2 = 1 then (p.2, p.1) else p
  if s = 2 then refTurns (k / 2) q else (if k / 2 % 2 = 1 then -q.1 else q.1, if k / 4 = 1 then -q.2 else q.2)
theorem refTurns_bd {p : Int × Int} (hp : (-1000 ≤ p.1 ∧ p.1 ≤ 1000) ∧ (-1000 ≤ p.2 ∧ p.2 ≤ 1000)) {j : Nat} (hj : j ≤ 5) : (-1000000 ≤ (refTurns j p).1 ∧ (refTurns j p).1 ≤ 1000000) ∧ (-1000000 ≤ (refTurns j p).2 ∧ (refTurns j p).2 ≤ 1000000) := by
  obtain ⟨⟨h1, h2⟩, h3, h4⟩ := hp
  have : j = 0 ∨ j = 1 ∨ j = 2 ∨ j = 3 ∨ j = 4 ∨ j = 5 := by omega
  rcases this with rfl | rfl | rfl | rfl | rfl | rfl <;> simp only [refTurns, refTurn] <;> omega

set_option maxRecDepth 20000 in
set_option maxHeartbeats 1000000 in
theorem lin_hex1 (k : Nat) (a b : Int) (W : World) (hk : k < 12) (hh : k % 2 = 1) (h1 : -1000 ≤ a ∧ a ≤ 1000) (h2 : -1000 ≤ b ∧ b ≤ 1000) :
    Calls Try.prog 93 #[.int .i64 2, .int .i64 k, .int .i64 a, .int .i64 b] W fun e w' => e = .returned (.tuple #[.int .i64 (refTurns (k / 2) (b, a)).1, .int .i64 (refTurns (k / 2) (b, a)).2]) ∧ w' = W := by
  have t0 : ((k : Int) % 2 == 1) = true := by simp; omega
  have HH := Lib.hid hh
  clear hh
  go_enter Try.func93, Try.ntmps93
  go_wp2_with fail
  go_loop [2, 3, 11] (fun u v i => ∃ (j : Nat) (x y : Int), i = .int .i64 j ∧ j ≤ k / 2 ∧ u = .int .i64 x ∧ v = .int .i64 y ∧ Hid ((x, y) = refTurns j (b, a))) (fun _ _ i => k - (intOf i).toNat)
  case atStart => exact ⟨0, _, _, rfl, by omega, rfl, rfl, Lib.hid rfl⟩
  case round =>
    obtain ⟨j, x, y, rfl, hj, rfl, rfl, HP⟩ := hrel
    have hbd := refTurns_bd (p := (b, a)) (by simp only; omega) (j := j) (by omega)
    rw [← HP.out] at hbd
    obtain ⟨b1, b2⟩ := hbd
    simp only at b1 b2
    by_cases hlt : (j : Int) < (k : Int) / 2
    · go_wp2_with fail
      go_round
      case rel => exact ⟨j + 1, -y, x + y, by go_num, by omega, rfl, rfl, Lib.hid (by rw [refTurns, ← HP.out]; rfl)⟩
      case measure => simp [intOf]; omega
    · have hjk : j = k / 2 := by omega
      have HJ := Lib.hid hjk
      clear hjk
      go_wp2_with fail
      go_ret2
      rw [← HJ.out, ← HP.out]
      exact ⟨rfl, rfl⟩
set_option maxRecDepth 20000 in
set_option maxHeartbeats 1000000 in
theorem lin_hex0 (k : Nat) (a b : Int) (W : World) (hk : k < 12) (hh : k % 2 = 0) (h1 : -1000 ≤ a ∧ a ≤ 1000) (h2 : -1000 ≤ b ∧ b ≤ 1000) :
    Calls Try.prog 93 #[.int .i64 2, .int .i64 k, .int .i64 a, .int .i64 b] W fun e w' => e = .returned (.tuple #[.int .i64 (refTurns (k / 2) (a, b)).1, .int .i64 (refTurns (k / 2) (a, b)).2]) ∧ w' = W := by
  have t0 : ((k : Int) % 2 == 1) = false := by simp; omega
  have HH := Lib.hid hh
  clear hh
  go_enter Try.func93, Try.ntmps93
  go_wp2_with fail
  go_loop [2, 3, 11] (fun u v i => ∃ (j : Nat) (x y : Int), i = .int .i64 j ∧ j ≤ k / 2 ∧ u = .int .i64 x ∧ v = .int .i64 y ∧ Hid ((x, y) = refTurns j (a, b))) (fun _ _ i => k - (intOf i).toNat)
  case atStart => exact ⟨0, _, _, rfl, by omega, rfl, rfl, Lib.hid rfl⟩
  case round =>
    obtain ⟨j, x, y, rfl, hj, rfl, rfl, HP⟩ := hrel
    have hbd := refTurns_bd (p := (a, b)) (by simp only; omega) (j := j) (by omega)
    rw [← HP.out] at hbd
    obtain ⟨b1, b2⟩ := hbd
    simp only at b1 b2
    by_cases hlt : (j : Int) < (k : Int) / 2
    · go_wp2_with fail
      go_round
      case rel => exact ⟨j + 1, -y, x + y, by go_num, by omega, rfl, rfl, Lib.hid (by rw [refTurns, ← HP.out]; rfl)⟩
      case measure => simp [intOf]; omega
    · have hjk : j = k / 2 := by omega
      have HJ := Lib.hid hjk
      clear hjk
      go_wp2_with fail
      go_ret2
      rw [← HJ.out, ← HP.out]
      exact ⟨rfl, rfl⟩

set_option maxRecDepth 20000 in
set_option maxHeartbeats 1000000 in
theorem lin_sq (s : Int) (k : Nat) (a b : Int) (W : World) (hs : s ≠ 2) (hk : k < 8) (h1 : -1000 ≤ a ∧ a ≤ 1000) (h2 : -1000 ≤ b ∧ b ≤ 1000) :
    Calls Try.prog 93 #[.int .i64 s, .int .i64 k, .int .i64 a, .int .i64 b] W fun e w' => e = .returned (.tuple #[.int .i64 (refLin s k (a, b)).1, .int .i64 (refLin s k (a, b)).2]) ∧ w' = W := by
  have hs' : (s == 2) = false := by rw [beq_eq_false_iff_ne]; exact hs
  have HS := Lib.hid hs
  clear hs
  unfold refLin
  simp only [if_neg HS.out]
  by_cases h0 : k % 2 = 1 <;> by_cases h3 : k / 2 % 2 = 1 <;> by_cases h4 : k / 4 = 1
  all_goals
    first | rw [if_pos h0] | rw [if_neg h0]
    first | rw [if_pos h3] | rw [if_neg h3]
    first | rw [if_pos h4] | rw [if_neg h4]
    first | (have t0 : ((k : Int) % 2 == 1) = true := (by simp; omega)) | (have t0 : ((k : Int) % 2 == 1) = false := (by simp; omega))
    first | (have t1 : ((k : Int) / 2 % 2 == 1) = true := (by simp; omega)) | (have t1 : ((k : Int) / 2 % 2 == 1) = false := (by simp; omega))
    first | (have t2 : ((k : Int) / 4 == 1) = true := (by simp; omega)) | (have t2 : ((k : Int) / 4 == 1) = false := (by simp; omega))
    clear h0 h3 h4
    go_enter Try.func93, Try.ntmps93
    go_wp2_with fail
    go_ret2
    exact ⟨rfl, rfl⟩
theorem linear_any (s : Int) (k : Nat) (a b : Int) (W : World) (hs : s = 1 ∨ s = 2) (hk : k < linMany s) (h1 : -1000 ≤ a ∧ a ≤ 1000) (h2 : -1000 ≤ b ∧ b ≤ 1000) :
    Calls Try.prog 93 #[.int .i64 s, .int .i64 k, .int .i64 a, .int .i64 b] W fun e w' => e = .returned (.tuple #[.int .i64 (refLin s k (a, b)).1, .int .i64 (refLin s k (a, b)).2]) ∧ w' = W := by
  rcases hs with rfl | rfl
  · exact lin_sq 1 k a b W (by decide) hk h1 h2
  · unfold refLin
    simp only [if_pos]
    by_cases h0 : k % 2 = 1
    · simp only [if_pos h0]; exact lin_hex1 k a b W hk h0 h1 h2
    · simp only [if_neg h0]; exact lin_hex0 k a b W hk (by omega) h1 h2
theorem refLin_bd (s : Int) (k : Nat) (hk : k < linMany s) {p : Int × Int} (hp : (-1000 ≤ p.1 ∧ p.1 ≤ 1000) ∧ (-1000 ≤ p.2 ∧ p.2 ≤ 1000)) (hs : s = 1 ∨ s = 2) : (-1000000 ≤ (refLin s k p).1 ∧ (refLin s k p).1 ≤ 1000000) ∧ (-1000000 ≤ (refLin s k p).2 ∧ (refLin s k p).2 ≤ 1000000) := by
  unfold refLin
  rcases hs with rfl | rfl
  · simp only [if_neg (show ¬ (1 : Int) = 2 by decide)]
    split <;> split <;> split <;> (try simp only) <;> omega
  · simp only [if_true]
    refine refTurns_bd ?_ (by unfold linMany at hk; simp at hk; omega)
    split <;> (try simp only) <;> omega
end Go.Proofs.Ytjiacdihfbbfjaa
