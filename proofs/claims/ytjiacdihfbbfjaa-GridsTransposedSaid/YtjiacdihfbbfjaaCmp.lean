/- Contracts of slices.Compare, moves.order, slices.BinarySearchFunc at slices of ints. -/
import Derived.Test.YtjiacdihfbbfjaaSl
import Derived.WalkLawsBesides
import Derived.WalkKit
import Derived.WalkSpells
import Derived.WalkLawsBesides
import Derived.Deep.LoopGhost
import Derived.Deep.QuietTactic
import Derived.BigQuiet
import Derived.StillTailTactics
import Derived.Lib.Hide
import Derived.Outline
import Derived.Lib.QuietBelow
namespace Go.Proofs.Ytjiacdihfbbfjaa
open Go.RowKit

def cmpL : List Int → List Int → Int
  | [], [] => 0
  | [], _ :: _ => -1
  | _ :: _, [] => 1
  | x :: a, y :: b => if x < y then -1 else if y < x then 1 else cmpL a b
theorem cmp_step (x y : List Int) (k : Nat) (h : k < x.length) (h' : k < y.length) :
   cmpL (x.drop k) (y.drop k) = if x[k]?.getD 0 < y[k]?.getD 0 then -1 else if y[k]?.getD 0 < x[k]?.getD 0 then 1 else cmpL (x.drop (k+1)) (y.drop (k+1)) := by
  rw [getD_drop x k h, getD_drop y k h']; rfl
theorem cmp_long (x y : List Int) (k : Nat) (h : k < x.length) (h' : y.length ≤ k) : cmpL (x.drop k) (y.drop k) = 1 := by
  rw [getD_drop x k h, List.drop_eq_nil_of_le h']; rfl
theorem cmp_end (x y : List Int) (k : Nat) (h : x.length ≤ k) (hk : k = x.length) (hy : k ≤ y.length) : cmpL (x.drop k) (y.drop k) = if x.length < y.length then -1 else 0 := by
  rw [List.drop_eq_nil_of_le h]
  by_cases h2 : k < y.length
  · rw [getD_drop y k h2, if_pos (by omega)]; rfl
  · rw [List.drop_eq_nil_of_le (by omega), if_neg (by omega)]; rfl
theorem cmpL_less (x y : List Int) : (cmpL x y < 0) = (lessL x y = true) := by
  induction x generalizing y with
  | nil => cases y <;> simp [cmpL, lessL]
  | cons a x ih => cases y with
    | nil => simp [cmpL, lessL]
    | cons b y =>
      simp only [cmpL, lessL]
      by_cases h1 : a < b
      · simp [h1]; left; omega
      · by_cases h2 : b < a
        · simp [h1, h2]; omega
        · have : a = b := by omega
          subst this; simp [ih]
theorem cmpL_eq (x y : List Int) : (cmpL x y = 0) = (x = y) := by
  induction x generalizing y with
  | nil => cases y <;> simp [cmpL]
  | cons a x ih => cases y with
    | nil => simp [cmpL]
    | cons b y =>
      simp only [cmpL]
      by_cases h1 : a < b
      · simp [h1]; intro h; omega
      · by_cases h2 : b < a
        · simp [h1, h2]; intro h; omega
        · have : a = b := by omega
          subst this; simp [ih]
theorem cmpL_bd (x y : List Int) : -1 ≤ cmpL x y ∧ cmpL x y ≤ 1 := by
  induction x generalizing y with
  | nil => cases y <;> simp [cmpL]
  | cons a x ih => cases y with
    | nil => simp [cmpL]
    | cons b y =>
      simp only [cmpL]
      split
      · omega
      · split
        · omega
        · exact ih y

set_option maxRecDepth 10000 in
set_option maxHeartbeats 1000000 in
theorem compare_any (a0 a1 : Option Addr) (n0 c0 n1 c1 : Nat) (x y : List Int) (w : World) (h0 : Ints w a0 n0 c0 x) (h1 : Ints w a1 n1 c1 y) :
    Calls Try.prog 90 #[.slice a0 n0 c0, .slice a1 n1 c1] w fun e w' => e = .returned (.int .i64 (cmpL x y)) ∧ ∃ k, w' = w.drewN k := by
  have hm0 := h0.mx
  have hm1 := h1.mx
  have hc0 := h0.cap
  have hc1 := h1.cap
  have hl0 := Lib.hid h0.len
  have hl1 := Lib.hid h1.len
  unfold maxLen at hm0 hm1
  go_enter Try.func90, Try.ntmps90
  go_wp2_with fail
  go_loopw [5, 6, 7, 8, 11] (fun _ _ _ _ i wr => ∃ k : Nat, k ≤ n0 ∧ k ≤ n1 ∧ i = .int .i64 k ∧ Hid (cmpL x y = cmpL (x.drop k) (y.drop k)) ∧ ∃ m, wr = w.drewN m) (fun _ _ _ _ i _ => n0 - (intOf i).toNat)
  case atStart => exact ⟨0, by omega, by omega, rfl, Lib.hid (by simp), 0, rfl⟩
  case round =>
    obtain ⟨k, hk0, hk1, rfl, HL, m, rfl⟩ := hrel
    by_cases hlt0 : k < n0
    · obtain ⟨b0, o0, rfl, _⟩ := h0.at' (by omega)
      have e0 := h0.cell _ _ rfl k hlt0
      by_cases hlt1 : k < n1
      · obtain ⟨b1, o1, rfl, _⟩ := h1.at' (by omega)
        have e1 := h1.cell _ _ rfl k hlt1
        have hs := Lib.hid (cmp_step x y k (by rw [hl0.out]; omega) (by rw [hl1.out]; omega))
        by_cases hA : x[k]?.getD 0 < y[k]?.getD 0
        · have hc : Lib.compareInt (x[k]?.getD 0) (y[k]?.getD 0) = -1 := by unfold Lib.compareInt; simp [hA]
          go_wp2_with (go_at_call 121; refine (Try.cmp_Compare_int _ _ _).mono ?_; rintro e w' ⟨rfl, rfl⟩)
          go_ret
          exact ⟨ret_int (by rw [HL.out, hs.out, if_pos hA]), (by first | exact ⟨_, rfl⟩ | exact ⟨_, World.drewN_drewN⟩ | exact ⟨0, rfl⟩ | exact ⟨_, by simp only [World.drewN_drewN]; rfl⟩)⟩
        · by_cases hB : y[k]?.getD 0 < x[k]?.getD 0
          · have hc : Lib.compareInt (x[k]?.getD 0) (y[k]?.getD 0) = 1 := by unfold Lib.compareInt; simp [hA, hB]
            go_wp2_with (go_at_call 121; refine (Try.cmp_Compare_int _ _ _).mono ?_; rintro e w' ⟨rfl, rfl⟩)
            go_ret
            exact ⟨ret_int (by rw [HL.out, hs.out, if_neg (by omega), if_pos (by omega)]), (by first | exact ⟨_, rfl⟩ | exact ⟨_, World.drewN_drewN⟩ | exact ⟨0, rfl⟩ | exact ⟨_, by simp only [World.drewN_drewN]; rfl⟩)⟩
          · have hc : Lib.compareInt (x[k]?.getD 0) (y[k]?.getD 0) = 0 := by unfold Lib.compareInt; simp [hA, hB]
            go_wp2_with (go_at_call 121; refine (Try.cmp_Compare_int _ _ _).mono ?_; rintro e w' ⟨rfl, rfl⟩)
            go_roundw
            case rel => exact ⟨k + 1, by omega, by omega, by go_num, Lib.hid (by rw [HL.out, hs.out, if_neg (by omega), if_neg (by omega)]), (by first | exact ⟨_, rfl⟩ | exact ⟨_, World.drewN_drewN⟩ | exact ⟨0, rfl⟩ | exact ⟨_, by simp only [World.drewN_drewN]; rfl⟩)⟩
            case measure => simp [intOf]; omega
      · have he := Lib.hid (cmp_long x y k (by rw [hl0.out]; omega) (by rw [hl1.out]; omega))
        go_wp2_with fail
        go_ret
        exact ⟨ret_int (by rw [HL.out, he.out]), (by first | exact ⟨_, rfl⟩ | exact ⟨_, World.drewN_drewN⟩ | exact ⟨0, rfl⟩ | exact ⟨_, by simp only [World.drewN_drewN]; rfl⟩)⟩
    · have he := Lib.hid (cmp_end x y k (by rw [hl0.out]; omega) (by rw [hl0.out]; omega) (by rw [hl1.out]; omega))
      rw [hl0.out, hl1.out] at he
      go_wp2_with fail
      all_goals
        go_ret
        refine ⟨ret_int ?_, (by first | exact ⟨_, rfl⟩ | exact ⟨_, World.drewN_drewN⟩ | exact ⟨0, rfl⟩ | exact ⟨_, by simp only [World.drewN_drewN]; rfl⟩)⟩
        rw [HL.out, he.out]
        first | rw [if_pos (by omega)] | rw [if_neg (by omega)]

theorem order_any (a0 a1 : Option Addr) (n0 c0 n1 c1 : Nat) (x y : List Int) (w : World) (h0 : Ints w a0 n0 c0 x) (h1 : Ints w a1 n1 c1 y) :
    Calls Try.prog 60 #[.slice a0 n0 c0, .slice a1 n1 c1] w fun e w' => e = .returned (.int .i64 (cmpL x y)) ∧ ∃ k, w' = w.drewN k := by
  go_enter Try.func60, Try.ntmps60
  go_wp2_with (go_at_call 90; refine (compare_any _ _ _ _ _ _ x y _ (by first | exact h0 | exact h0.drewN _ | exact (h0.drewN _).drewN _ | exact h0.below (by assumption)) (by first | exact h1 | exact h1.drewN _ | exact (h1.drewN _).drewN _ | exact h1.below (by assumption))).mono ?_; rintro e w' ⟨rfl, q, rfl⟩)
  go_ret
  exact ⟨rfl, (by first | exact ⟨_, rfl⟩ | exact ⟨_, World.drewN_drewN⟩ | exact ⟨0, rfl⟩ | exact ⟨_, by simp only [World.drewN_drewN]; rfl⟩)⟩
end Go.Proofs.Ytjiacdihfbbfjaa
