/- Contracts of law13.center, touch; slices.Contains; graphs.Check at a graph. -/
import Derived.Test.YtjiacdihfbbfjaaTouM
import Derived.Test.YtjiacdihfbbfjaaShelf
import Derived.WalkKit
import Derived.WalkSpells
import Derived.WalkLawsBesides
import Derived.Deep.LoopGhost
import Derived.Deep.QuietTactic
import Derived.BigQuiet
import Derived.StillTailTactics
import Derived.Lib.Hide
import Derived.Outline
import Derived.Lib.QuietBelow
namespace Go.Proofs.Ytjiacdihfbbfjaa
open Go.RowKit

theorem contains_any (a : Option Addr) (n c : Nat) (l : List Int) (x : Int) (w : World) (h : Ints w a n c l) :
    Calls Try.prog 85 #[.slice a n c, .int .i64 x] w fun e w' => e = .returned (.bool (inL l x)) ∧ w' = w := by
  have hm := h.mx
  have hcp := h.cap
  unfold maxLen at hm
  by_cases h0 : n = 0
  · subst h0
    have hl : l = [] := List.eq_nil_of_length_eq_zero h.len
    subst hl
    exact Try.slices_Contains_int_empty a c x w
  · obtain ⟨b, o, rfl, hb⟩ := h.at' (by omega)
    have := Try.slices_Contains_int b o n c l x w (by rw [h.len]; omega) (by omega) h.getD_cell
    rw [List.take_of_length_le (by rw [h.len]; omega)] at this
    exact this
set_option maxRecDepth 20000 in
set_option maxHeartbeats 1000000 in
theorem center_any (g : Grid) (ah ac : Option Addr) (nh ch nc cc k : Nat) (W : World) (h : CellOk g W ac nc cc k) :
    Calls Try.prog 84 #[.agg #[.int .i64 g.shape, .int .i64 g.w, .int .i64 g.h, .slice ah nh ch, .slice ac nc cc], .int .i64 k] W fun e w' => e = .returned (.tuple #[.int .i64 (cenX g k), .int .i64 (rowL g k)]) ∧ Below W.heap.size W w' := by
  obtain ⟨⟨z1, z2⟩, z3, z4⟩ := h.bd
  have HC : Hid (colL g k = g.cells[k]?.getD 0 % g.w) := Lib.hid rfl
  have HR : Hid (rowL g k = g.cells[k]?.getD 0 / g.w) := Lib.hid rfl
  have HX : Hid (cenX g k = if g.shape = 2 then 2 * colL g k + rowL g k % 2 else colL g k) := Lib.hid rfl
  obtain ⟨hI, hw, hc, hk⟩ := h
  obtain ⟨b0, o0, rfl, hb0⟩ := hI.at' (by omega)
  have hx := hI.cell b0 o0 rfl k hk
  have hp := hc _ (getD_mem g.cells k (by rw [hI.len]; exact hk))
  obtain ⟨X, hX⟩ : ∃ X, colL g k = X := ⟨_, rfl⟩
  obtain ⟨Y, hY⟩ : ∃ Y, rowL g k = Y := ⟨_, rfl⟩
  rw [hX] at HC HX z1 z2
  rw [hY] at HR HX z3 z4 ⊢
  obtain ⟨w, hwe⟩ : ∃ w, g.w = w := ⟨_, rfl⟩
  obtain ⟨pos, hpos⟩ : ∃ pos, g.cells[k]?.getD 0 = pos := ⟨_, rfl⟩
  rw [hpos] at hx hp HC HR
  have hm := hI.mx
  have hcap := hI.cap
  unfold maxLen at hm
  rw [hwe] at hw HC HR ⊢
  clear hwe hpos hc hX hY
  have hC := HC.out
  have hR := HR.out
  have h0 : (w == 0) = false := by rw [beq_eq_false_iff_ne]; omega
  have q1 : 0 ≤ pos / w := by omega
  have q3 : 0 ≤ pos % w := by omega
  have k0 : (0 : Int) ≤ (k : Int) := by omega
  have k1 : (k : Int) < (nc : Int) := by omega
  have q5 : pos / w < 256 := by omega
  have q6 : pos % w < 16 := by omega
  clear hC hR z1 z2 z3 z4
  by_cases hs : g.shape = 2
  · have ts : (g.shape == 2) = true := by rw [hs]; rfl
    have HXE : Hid (cenX g k = 2 * (pos % w) + pos / w % 2) := Lib.hid (by rw [HX.out, if_pos hs, HC.out, HR.out])
    rw [HXE.out, HR.out]
    clear hs HX
    go_enter Try.func84, Try.ntmps84
    go_wp2_with (go_quiet (fail))
    go_ret2
    exact ⟨rfl, (by repeat (first | (with_reducible exact Below.refl _ _) | (with_reducible assumption) | (with_reducible refine below_drewN ?_ _) | ((with_reducible refine Below.setCell ?_ ?_ _); rotate_left; focus (first | (simp; done) | (simp; omega) | omega)) | ((with_reducible refine Below.alloc ?_ ?_ _); rotate_left; focus (first | (simp; done) | (simp; omega) | omega)) | (with_reducible refine Below.drew ?_)))⟩
  · have ts : (g.shape == 2) = false := by rw [beq_eq_false_iff_ne]; exact hs
    have HXE : Hid (cenX g k = pos % w) := Lib.hid (by rw [HX.out, if_neg hs, HC.out])
    rw [HXE.out, HR.out]
    clear hs HX
    go_enter Try.func84, Try.ntmps84
    go_wp2_with (go_quiet (fail))
    go_ret2
    exact ⟨rfl, (by repeat (first | (with_reducible exact Below.refl _ _) | (with_reducible assumption) | (with_reducible refine below_drewN ?_ _) | ((with_reducible refine Below.setCell ?_ ?_ _); rotate_left; focus (first | (simp; done) | (simp; omega) | omega)) | ((with_reducible refine Below.alloc ?_ ?_ _); rotate_left; focus (first | (simp; done) | (simp; omega) | omega)) | (with_reducible refine Below.drew ?_)))⟩
set_option maxRecDepth 20000 in
set_option maxHeartbeats 1000000 in
theorem touch_any (g : Grid) (ah ac : Option Addr) (nh ch nc cc a b : Nat) (W : World) (ha : CellOk g W ac nc cc a) (hb : CellOk g W ac nc cc b) (hs : g.shape = 1 ∨ g.shape = 2) :
    Calls Try.prog 57 #[.agg #[.int .i64 g.shape, .int .i64 g.w, .int .i64 g.h, .slice ah nh ch, .slice ac nc cc], .int .i64 a, .int .i64 b] W fun e w' => e = .returned (.bool (touchB g a b)) ∧ Below W.heap.size W w' := by
  have hal : Below W.heap.size W (W.alloc (.cells #[.int .i64 g.shape, .int .i64 g.w, .int .i64 g.h, .slice ah nh ch, .slice ac nc cc] 24)) := (Below.refl _ _).alloc (Nat.le_refl _) _
  have hbx := Box.new W #[.int .i64 g.shape, .int .i64 g.w, .int .i64 g.h, .slice ah nh ch, .slice ac nc cc] 24
  have hl := hbx.lt
  have ⟨⟨a1, a2⟩, a3, a4⟩ := ha.bd
  have ⟨⟨b1, b2⟩, b3, b4⟩ := hb.bd
  have xa : 0 ≤ cenX g a ∧ cenX g a ≤ 40 := by unfold cenX; split <;> omega
  have xb : 0 ≤ cenX g b ∧ cenX g b ≤ 40 := by unfold cenX; split <;> omega
  have C1 := fun w (h : CellOk g w ac nc cc a) => center_any g ah ac nh ch nc cc a w h
  have C2 := fun w (h : CellOk g w ac nc cc b) => center_any g ah ac nh ch nc cc b w h
  have HT : Hid (touchB g a b = if g.shape = 1 then absd (cenX g a) (cenX g b) + absd (rowL g a) (rowL g b) == 1
    else (absd (cenX g a) (cenX g b) == 2 && absd (rowL g a) (rowL g b) == 0) || (absd (cenX g a) (cenX g b) == 1 && absd (rowL g a) (rowL g b) == 1)) := Lib.hid rfl
  obtain ⟨X, hX⟩ : ∃ X, cenX g a = X := ⟨_, rfl⟩
  obtain ⟨U, hU⟩ : ∃ X, cenX g b = X := ⟨_, rfl⟩
  obtain ⟨Y, hY⟩ : ∃ X, rowL g a = X := ⟨_, rfl⟩
  obtain ⟨V, hV⟩ : ∃ X, rowL g b = X := ⟨_, rfl⟩
  simp only [hX, hY] at C1
  simp only [hU, hV] at C2
  rw [hX, hU, hY, hV] at HT
  rw [hX] at xa
  rw [hU] at xb
  rw [hY] at a3 a4
  rw [hV] at b3 b4
  obtain ⟨xa1, xa2⟩ := xa
  obtain ⟨xb1, xb2⟩ := xb
  have H1 := Lib.hid C1
  have H2 := Lib.hid C2
  have HA := Lib.hid (ha.below hal)
  have HB := Lib.hid (hb.below hal)
  have HS := Lib.hid hs
  clear C1 C2 hX hU hY hV hs ha hb a1 a2 b1 b2
  go_enter Try.func57, Try.ntmps57
  go_wp2_with fail
  refine (H1.out _ HA.out).mono ?_
  rintro e w1 ⟨rfl, hB1⟩
  obtain ⟨d0, d1, d2, d3, d4⟩ := (hbx.below hB1).g5
  have hl1 := (hbx.below hB1).lt
  go_wp2_with fail
  refine (H2.out _ (HB.out.below hB1)).mono ?_
  rintro e w2 ⟨rfl, hB2⟩
  clear d0 d1 d2 d3 d4
  obtain ⟨d0, d1, d2, d3, d4⟩ := ((hbx.below hB1).below hB2).g5
  have hl2 := ((hbx.below hB1).below hB2).lt
  have hBB := (hal.on hB1).on hB2
  obtain ⟨D, hD⟩ : ∃ D, max (X - U) (U - X) = D := ⟨_, rfl⟩
  obtain ⟨E, hE⟩ : ∃ E, max (Y - V) (V - Y) = E := ⟨_, rfl⟩
  have HT2 : Hid (touchB g a b = if g.shape = 1 then D + E == 1 else (D == 2 && E == 0) || (D == 1 && E == 1)) := Lib.hid (by rw [HT.out]; unfold absd; rw [hD, hE])
  have hD0 : 0 ≤ D := by omega
  have hD1 : D ≤ 40 := by omega
  have hE0 : 0 ≤ E := by omega
  have hE1 : E ≤ 256 := by omega
  clear HT H1 H2 HA HB hbx
  rcases HS.out with hs | hs
  · have ts : (g.shape == 1) = true := by rw [hs]; rfl
    have HT3 : Hid (touchB g a b = (D + E == 1)) := Lib.hid (by rw [HT2.out, if_pos hs])
    clear hs HT2
    go_wp2_with fail
    go_ret
    exact ⟨ret_bool HT3.out.symm, hBB⟩
  · have ts : (g.shape == 1) = false := by rw [hs]; rfl
    have HT3 : Hid (touchB g a b = ((D == 2 && E == 0) || (D == 1 && E == 1))) := Lib.hid (by rw [HT2.out, if_neg (by omega)])
    clear hs HT2
    go_wp2_with fail
    all_goals
      go_ret
      exact ⟨ret_bool (by rw [HT3.out]; simp [*]), hBB⟩
end Go.Proofs.Ytjiacdihfbbfjaa
