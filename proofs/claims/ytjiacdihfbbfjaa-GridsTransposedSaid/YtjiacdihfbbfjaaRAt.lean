/- Contract of ref14.At. -/
import Derived.Test.YtjiacdihfbbfjaaRPlace
import Derived.WalkKit
import Derived.WalkSpells
import Derived.WalkLawsBesides
import Derived.Deep.LoopGhost
import Derived.Deep.QuietTactic
import Derived.BigQuiet
import Derived.StillTailTactics
import Derived.Lib.Hide
import Derived.Outline
import Derived.Lib.QuietBelow
namespace Go.Proofs.Ytjiacdihfbbfjaa
open Go.RowKit

/-- The index of x among the first elements. -/
def idxL (l : List Int) (x : Int) : Int := match l.findIdx? (· == x) with | some i => (i : Int) | none => -1
def posOf (g : Grid) (a b : Int) : Int := b * g.w + (if g.shape = 2 then a + (b - b % 2) / 2 else a)
def atRef (g : Grid) (a b : Int) : Int :=
  let x := if g.shape = 2 then a + (b - b % 2) / 2 else a
  if b < 0 ∨ g.h ≤ b then -1 else if x < 0 ∨ g.w ≤ x then -1 else idxL g.cells (b * g.w + x)
theorem idxL_hit {l : List Int} {x : Int} {k : Nat} (hk : k < l.length) (hm : x ∉ l.take k) (h : l[k]?.getD 0 = x) : idxL l x = k := by
  unfold idxL
  have : l.findIdx? (· == x) = some k := by
    rw [List.findIdx?_eq_some_iff_getElem]
    refine ⟨hk, by rw [List.getElem?_eq_getElem hk] at h; simpa using h, fun j hj => ?_⟩
    simp only [beq_iff_eq]
    intro e
    exact hm (by rw [← e]; exact List.mem_take_iff_getElem.2 ⟨j, by omega, rfl⟩)
  rw [this]
theorem idxL_miss {l : List Int} {x : Int} (h : x ∉ l.take l.length) : idxL l x = -1 := by
  rw [List.take_of_length_le (Nat.le_refl _)] at h
  unfold idxL
  have : l.findIdx? (· == x) = none := by
    rw [List.findIdx?_eq_none_iff]
    intro y hy; simp only [beq_eq_false_iff_ne]; intro e; exact h (e ▸ hy)
  rw [this]

set_option maxRecDepth 20000 in
set_option maxHeartbeats 1000000 in
theorem at_hex (g : Grid) (ah ac : Option Addr) (nh ch nc cc : Nat) (a b : Int) (W : World) (hI : Ints W ac nc cc g.cells) (hs : g.shape = 2) (hw : 1 ≤ g.w ∧ g.w ≤ 16) (hh : 1 ≤ g.h ∧ g.h ≤ 16) (ha : -10000000 ≤ a ∧ a ≤ 10000000) (hb : -10000000 ≤ b ∧ b ≤ 10000000) :
    Calls Try.prog 94 #[.agg #[.int .i64 g.shape, .int .i64 g.w, .int .i64 g.h, .slice ah nh ch, .slice ac nc cc], .int .i64 a, .int .i64 b] W fun e w' => e = .returned (.int .i64 (atRef g a b)) ∧ Below W.heap.size W w' := by
  obtain ⟨w, hwe⟩ : ∃ w, g.w = w := ⟨_, rfl⟩
  obtain ⟨h, hhe⟩ : ∃ h, g.h = h := ⟨_, rfl⟩
  obtain ⟨s, hse⟩ : ∃ s, g.shape = s := ⟨_, rfl⟩
  obtain ⟨l, hle⟩ : ∃ l, g.cells = l := ⟨_, rfl⟩
  have hA : atRef g a b = if b < 0 ∨ h ≤ b then -1 else if (a + (b - b % 2) / 2) < 0 ∨ w ≤ (a + (b - b % 2) / 2) then -1 else idxL l (b * w + (a + (b - b % 2) / 2)) := by
    unfold atRef; simp only [hwe, hhe, hle]
    first | rw [if_pos hs] | rw [if_neg hs]
  have HA := Lib.hid hA
  rw [hse] at hs
  rw [hwe] at hw ⊢
  rw [hhe] at hh ⊢
  rw [hle] at hI
  rw [hse]
  clear hwe hhe hse hle hA
  have hss : (s == 2) = true := by simpa using hs
  clear hs
  have hm := hI.mx
  have hcap := hI.cap
  have HL := Lib.hid hI.len
  unfold maxLen at hm
  by_cases hb0 : b < 0
  · have tb : decide (b < 0) = true := by simpa using hb0
    have HB := Lib.hid hb0
    clear hb0
    go_enter Try.func94, Try.ntmps94
    go_wp2_with (go_quiet (fail))
    go_ret
    exact ⟨ret_int (by rw [HA.out, if_pos (.inl HB.out)]), (by repeat (first | (with_reducible exact Below.refl _ _) | (with_reducible assumption) | (with_reducible refine below_drewN ?_ _) | ((with_reducible refine Below.setCell ?_ ?_ _); rotate_left; focus (first | (simp; done) | (simp; omega) | omega)) | ((with_reducible refine Below.alloc ?_ ?_ _); rotate_left; focus (first | (simp; done) | (simp; omega) | omega)) | (with_reducible refine Below.drew ?_)))⟩
  · have tb : decide (b < 0) = false := by simpa using hb0
    by_cases hb1 : h ≤ b
    · have HB := Lib.hid hb1
      go_enter Try.func94, Try.ntmps94
      go_wp2_with (go_quiet (fail))
      go_ret
      exact ⟨ret_int (by rw [HA.out, if_pos (.inr HB.out)]), (by repeat (first | (with_reducible exact Below.refl _ _) | (with_reducible assumption) | (with_reducible refine below_drewN ?_ _) | ((with_reducible refine Below.setCell ?_ ?_ _); rotate_left; focus (first | (simp; done) | (simp; omega) | omega)) | ((with_reducible refine Below.alloc ?_ ?_ _); rotate_left; focus (first | (simp; done) | (simp; omega) | omega)) | (with_reducible refine Below.drew ?_)))⟩
    · have q1 : 0 ≤ b % 2 ∧ b % 2 ≤ 1 := by omega
      have q2 : 0 ≤ b * w := Int.mul_nonneg (by omega) (by omega)
      have q3 : b * w ≤ 16 * 16 := Int.mul_le_mul (by omega) hw.2 (by omega) (by omega)
      have q4 : 0 ≤ (b - b % 2) / 2 ∧ (b - b % 2) / 2 ≤ b := by omega
      have HB : Hid (¬ (b < 0 ∨ h ≤ b)) := Lib.hid (by omega)
      clear hb0
      by_cases hx0 : (a + (b - b % 2) / 2) < 0
      · have tx : decide ((a + (b - b % 2) / 2) < 0) = true := by simpa using hx0
        have HX := Lib.hid hx0
        clear hx0
        go_enter Try.func94, Try.ntmps94
        go_wp2_with (go_quiet (fail))
        go_ret
        exact ⟨ret_int (by rw [HA.out, if_neg HB.out, if_pos (.inl HX.out)]), (by repeat (first | (with_reducible exact Below.refl _ _) | (with_reducible assumption) | (with_reducible refine below_drewN ?_ _) | ((with_reducible refine Below.setCell ?_ ?_ _); rotate_left; focus (first | (simp; done) | (simp; omega) | omega)) | ((with_reducible refine Below.alloc ?_ ?_ _); rotate_left; focus (first | (simp; done) | (simp; omega) | omega)) | (with_reducible refine Below.drew ?_)))⟩
      · have tx : decide ((a + (b - b % 2) / 2) < 0) = false := by simpa using hx0
        by_cases hx1 : w ≤ (a + (b - b % 2) / 2)
        · have HX := Lib.hid hx1
          go_enter Try.func94, Try.ntmps94
          go_wp2_with (go_quiet (fail))
          go_ret
          exact ⟨ret_int (by rw [HA.out, if_neg HB.out, if_pos (.inr HX.out)]), (by repeat (first | (with_reducible exact Below.refl _ _) | (with_reducible assumption) | (with_reducible refine below_drewN ?_ _) | ((with_reducible refine Below.setCell ?_ ?_ _); rotate_left; focus (first | (simp; done) | (simp; omega) | omega)) | ((with_reducible refine Below.alloc ?_ ?_ _); rotate_left; focus (first | (simp; done) | (simp; omega) | omega)) | (with_reducible refine Below.drew ?_)))⟩
        · have HX : Hid (¬ ((a + (b - b % 2) / 2) < 0 ∨ w ≤ (a + (b - b % 2) / 2))) := Lib.hid (by omega)
          go_enter Try.func94, Try.ntmps94
          go_wp2_with (go_quiet (fail))
          go_loopw [8] (fun c wr => ∃ k : Nat, k ≤ nc ∧ c = .int .i64 k ∧ Hid (b * w + (a + (b - b % 2) / 2) ∉ l.take k) ∧ Box wr W.heap.size #[.int .i64 s, .int .i64 w, .int .i64 h, .slice ah nh ch, .slice ac nc cc] 24 ∧ Below W.heap.size W wr) (fun c _ => nc - (intOf c).toNat)
          case atStart => exact ⟨0, by omega, rfl, Lib.hid (by simp), Box.new _ _ _, (by repeat (first | (with_reducible exact Below.refl _ _) | (with_reducible assumption) | (with_reducible refine below_drewN ?_ _) | ((with_reducible refine Below.setCell ?_ ?_ _); rotate_left; focus (first | (simp; done) | (simp; omega) | omega)) | ((with_reducible refine Below.alloc ?_ ?_ _); rotate_left; focus (first | (simp; done) | (simp; omega) | omega)) | (with_reducible refine Below.drew ?_)))⟩
          case round =>
            obtain ⟨k, hk, rfl, HM, hx, hB⟩ := hrel
            have d1 : wr.cell? ⟨W.heap.size, 1, none⟩ = some (.int .i64 w) := by simpa using hx.cell 1
            have d4 : wr.cell? ⟨W.heap.size, 4, none⟩ = some (.slice ac nc cc) := by simpa using hx.cell 4
            by_cases hlt : k < nc
            · obtain ⟨b0, o0, rfl, hb0⟩ := hI.at' (by omega)
              have hc := (hB.cell (p := ⟨b0, o0 + k, none⟩) hb0).trans (hI.cell _ _ rfl k hlt)
              have k0 : (0 : Int) ≤ (k : Int) := by omega
              have k1 : (k : Int) < (nc : Int) := by omega
              by_cases he : l[k]?.getD 0 = b * w + (a + (b - b % 2) / 2)
              · have te : (l[k]?.getD 0 == b * w + (a + (b - b % 2) / 2)) = true := by rw [beq_iff_eq]; exact he
                have HE := Lib.hid he
                clear he
                go_wp2_with (go_quiet (fail))
                go_ret
                exact ⟨ret_int (by rw [HA.out, if_neg HB.out, if_neg HX.out]; exact (idxL_hit (by rw [HL.out]; omega) HM.out HE.out).symm), below_drewN hB _⟩
              · have te : (l[k]?.getD 0 == b * w + (a + (b - b % 2) / 2)) = false := by rw [beq_eq_false_iff_ne]; exact he
                have HE := Lib.hid he
                clear he
                go_wp2_with (go_quiet (fail))
                go_roundw
                case rel => exact ⟨k + 1, by omega, by go_num, Lib.hid (notin_step (by rw [HL.out]; omega) HM.out HE.out), hx.drewN _, below_drewN hB _⟩
                case measure => simp [intOf]; omega
            · obtain rfl : nc = k := by omega
              go_wp2_with fail
              go_ret
              exact ⟨ret_int (by rw [HA.out, if_neg HB.out, if_neg HX.out]; exact (idxL_miss (by rw [HL.out]; exact HM.out)).symm), hB⟩
set_option maxRecDepth 20000 in
set_option maxHeartbeats 1000000 in
theorem at_sq (g : Grid) (ah ac : Option Addr) (nh ch nc cc : Nat) (a b : Int) (W : World) (hI : Ints W ac nc cc g.cells) (hs : ¬ g.shape = 2) (hw : 1 ≤ g.w ∧ g.w ≤ 16) (hh : 1 ≤ g.h ∧ g.h ≤ 16) (ha : -10000000 ≤ a ∧ a ≤ 10000000) (hb : -10000000 ≤ b ∧ b ≤ 10000000) :
    Calls Try.prog 94 #[.agg #[.int .i64 g.shape, .int .i64 g.w, .int .i64 g.h, .slice ah nh ch, .slice ac nc cc], .int .i64 a, .int .i64 b] W fun e w' => e = .returned (.int .i64 (atRef g a b)) ∧ Below W.heap.size W w' := by
  obtain ⟨w, hwe⟩ : ∃ w, g.w = w := ⟨_, rfl⟩
  obtain ⟨h, hhe⟩ : ∃ h, g.h = h := ⟨_, rfl⟩
  obtain ⟨s, hse⟩ : ∃ s, g.shape = s := ⟨_, rfl⟩
  obtain ⟨l, hle⟩ : ∃ l, g.cells = l := ⟨_, rfl⟩
  have hA : atRef g a b = if b < 0 ∨ h ≤ b then -1 else if a < 0 ∨ w ≤ a then -1 else idxL l (b * w + a) := by
    unfold atRef; simp only [hwe, hhe, hle]
    first | rw [if_pos hs] | rw [if_neg hs]
  have HA := Lib.hid hA
  rw [hse] at hs
  rw [hwe] at hw ⊢
  rw [hhe] at hh ⊢
  rw [hle] at hI
  rw [hse]
  clear hwe hhe hse hle hA
  have hss : (s == 2) = false := by simpa using hs
  clear hs
  have hm := hI.mx
  have hcap := hI.cap
  have HL := Lib.hid hI.len
  unfold maxLen at hm
  by_cases hb0 : b < 0
  · have tb : decide (b < 0) = true := by simpa using hb0
    have HB := Lib.hid hb0
    clear hb0
    go_enter Try.func94, Try.ntmps94
    go_wp2_with (go_quiet (fail))
    go_ret
    exact ⟨ret_int (by rw [HA.out, if_pos (.inl HB.out)]), (by repeat (first | (with_reducible exact Below.refl _ _) | (with_reducible assumption) | (with_reducible refine below_drewN ?_ _) | ((with_reducible refine Below.setCell ?_ ?_ _); rotate_left; focus (first | (simp; done) | (simp; omega) | omega)) | ((with_reducible refine Below.alloc ?_ ?_ _); rotate_left; focus (first | (simp; done) | (simp; omega) | omega)) | (with_reducible refine Below.drew ?_)))⟩
  · have tb : decide (b < 0) = false := by simpa using hb0
    by_cases hb1 : h ≤ b
    · have HB := Lib.hid hb1
      go_enter Try.func94, Try.ntmps94
      go_wp2_with (go_quiet (fail))
      go_ret
      exact ⟨ret_int (by rw [HA.out, if_pos (.inr HB.out)]), (by repeat (first | (with_reducible exact Below.refl _ _) | (with_reducible assumption) | (with_reducible refine below_drewN ?_ _) | ((with_reducible refine Below.setCell ?_ ?_ _); rotate_left; focus (first | (simp; done) | (simp; omega) | omega)) | ((with_reducible refine Below.alloc ?_ ?_ _); rotate_left; focus (first | (simp; done) | (simp; omega) | omega)) | (with_reducible refine Below.drew ?_)))⟩
    · have q1 : 0 ≤ b % 2 ∧ b % 2 ≤ 1 := by omega
      have q2 : 0 ≤ b * w := Int.mul_nonneg (by omega) (by omega)
      have q3 : b * w ≤ 16 * 16 := Int.mul_le_mul (by omega) hw.2 (by omega) (by omega)
      have q4 : 0 ≤ (b - b % 2) / 2 ∧ (b - b % 2) / 2 ≤ b := by omega
      have HB : Hid (¬ (b < 0 ∨ h ≤ b)) := Lib.hid (by omega)
      clear hb0
      by_cases hx0 : a < 0
      · have tx : decide (a < 0) = true := by simpa using hx0
        have HX := Lib.hid hx0
        clear hx0
        go_enter Try.func94, Try.ntmps94
        go_wp2_with (go_quiet (fail))
        go_ret
        exact ⟨ret_int (by rw [HA.out, if_neg HB.out, if_pos (.inl HX.out)]), (by repeat (first | (with_reducible exact Below.refl _ _) | (with_reducible assumption) | (with_reducible refine below_drewN ?_ _) | ((with_reducible refine Below.setCell ?_ ?_ _); rotate_left; focus (first | (simp; done) | (simp; omega) | omega)) | ((with_reducible refine Below.alloc ?_ ?_ _); rotate_left; focus (first | (simp; done) | (simp; omega) | omega)) | (with_reducible refine Below.drew ?_)))⟩
      · have tx : decide (a < 0) = false := by simpa using hx0
        by_cases hx1 : w ≤ a
        · have HX := Lib.hid hx1
          go_enter Try.func94, Try.ntmps94
          go_wp2_with (go_quiet (fail))
          go_ret
          exact ⟨ret_int (by rw [HA.out, if_neg HB.out, if_pos (.inr HX.out)]), (by repeat (first | (with_reducible exact Below.refl _ _) | (with_reducible assumption) | (with_reducible refine below_drewN ?_ _) | ((with_reducible refine Below.setCell ?_ ?_ _); rotate_left; focus (first | (simp; done) | (simp; omega) | omega)) | ((with_reducible refine Below.alloc ?_ ?_ _); rotate_left; focus (first | (simp; done) | (simp; omega) | omega)) | (with_reducible refine Below.drew ?_)))⟩
        · have HX : Hid (¬ (a < 0 ∨ w ≤ a)) := Lib.hid (by omega)
          go_enter Try.func94, Try.ntmps94
          go_wp2_with (go_quiet (fail))
          go_loopw [8] (fun c wr => ∃ k : Nat, k ≤ nc ∧ c = .int .i64 k ∧ Hid (b * w + a ∉ l.take k) ∧ Box wr W.heap.size #[.int .i64 s, .int .i64 w, .int .i64 h, .slice ah nh ch, .slice ac nc cc] 24 ∧ Below W.heap.size W wr) (fun c _ => nc - (intOf c).toNat)
          case atStart => exact ⟨0, by omega, rfl, Lib.hid (by simp), Box.new _ _ _, (by repeat (first | (with_reducible exact Below.refl _ _) | (with_reducible assumption) | (with_reducible refine below_drewN ?_ _) | ((with_reducible refine Below.setCell ?_ ?_ _); rotate_left; focus (first | (simp; done) | (simp; omega) | omega)) | ((with_reducible refine Below.alloc ?_ ?_ _); rotate_left; focus (first | (simp; done) | (simp; omega) | omega)) | (with_reducible refine Below.drew ?_)))⟩
          case round =>
            obtain ⟨k, hk, rfl, HM, hx, hB⟩ := hrel
            have d1 : wr.cell? ⟨W.heap.size, 1, none⟩ = some (.int .i64 w) := by simpa using hx.cell 1
            have d4 : wr.cell? ⟨W.heap.size, 4, none⟩ = some (.slice ac nc cc) := by simpa using hx.cell 4
            by_cases hlt : k < nc
            · obtain ⟨b0, o0, rfl, hb0⟩ := hI.at' (by omega)
              have hc := (hB.cell (p := ⟨b0, o0 + k, none⟩) hb0).trans (hI.cell _ _ rfl k hlt)
              have k0 : (0 : Int) ≤ (k : Int) := by omega
              have k1 : (k : Int) < (nc : Int) := by omega
              by_cases he : l[k]?.getD 0 = b * w + a
              · have te : (l[k]?.getD 0 == b * w + a) = true := by rw [beq_iff_eq]; exact he
                have HE := Lib.hid he
                clear he
                go_wp2_with (go_quiet (fail))
                go_ret
                exact ⟨ret_int (by rw [HA.out, if_neg HB.out, if_neg HX.out]; exact (idxL_hit (by rw [HL.out]; omega) HM.out HE.out).symm), below_drewN hB _⟩
              · have te : (l[k]?.getD 0 == b * w + a) = false := by rw [beq_eq_false_iff_ne]; exact he
                have HE := Lib.hid he
                clear he
                go_wp2_with (go_quiet (fail))
                go_roundw
                case rel => exact ⟨k + 1, by omega, by go_num, Lib.hid (notin_step (by rw [HL.out]; omega) HM.out HE.out), hx.drewN _, below_drewN hB _⟩
                case measure => simp [intOf]; omega
            · obtain rfl : nc = k := by omega
              go_wp2_with fail
              go_ret
              exact ⟨ret_int (by rw [HA.out, if_neg HB.out, if_neg HX.out]; exact (idxL_miss (by rw [HL.out]; exact HM.out)).symm), hB⟩
theorem at_any (g : Grid) (ah ac : Option Addr) (nh ch nc cc : Nat) (a b : Int) (W : World) (hI : Ints W ac nc cc g.cells) (hw : 1 ≤ g.w ∧ g.w ≤ 16) (hh : 1 ≤ g.h ∧ g.h ≤ 16) (ha : -10000000 ≤ a ∧ a ≤ 10000000) (hb : -10000000 ≤ b ∧ b ≤ 10000000) :
    Calls Try.prog 94 #[.agg #[.int .i64 g.shape, .int .i64 g.w, .int .i64 g.h, .slice ah nh ch, .slice ac nc cc], .int .i64 a, .int .i64 b] W fun e w' => e = .returned (.int .i64 (atRef g a b)) ∧ Below W.heap.size W w' := by
  by_cases hs : g.shape = 2
  · exact at_hex g ah ac nh ch nc cc a b W hI hs hw hh ha hb
  · exact at_sq g ah ac nh ch nc cc a b W hI hs hw hh ha hb
end Go.Proofs.Ytjiacdihfbbfjaa
