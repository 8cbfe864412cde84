/- Contract of law13.line. -/
import Derived.Test.YtjiacdihfbbfjaaTou
import Derived.Test.YtjiacdihfbbfjaaLinesM
import Derived.WalkKit
import Derived.WalkSpells
import Derived.WalkLawsBesides
import Derived.Deep.LoopGhost
import Derived.Deep.QuietTactic
import Derived.BigQuiet
import Derived.StillTailTactics
import Derived.Lib.Hide
import Derived.Outline
import Derived.Lib.QuietBelow
namespace Go.Proofs.Ytjiacdihfbbfjaa
open Go.RowKit

set_option maxRecDepth 20000 in
set_option maxHeartbeats 1000000 in
theorem lawline_any (g : Grid) (f : Int) (ah ac : Option Addr) (nh ch nc cc k : Nat) (W : World) (h : CellOk g W ac nc cc k) :
    Calls Try.prog 53 #[.agg #[.int .i64 g.shape, .int .i64 g.w, .int .i64 g.h, .slice ah nh ch, .slice ac nc cc], .int .i64 f, .int .i64 k] W fun e w' => e = .returned (.int .i64 (lawLine g f k)) ∧ Below W.heap.size W w' := by
  have hal : Below W.heap.size W (W.alloc (.cells #[.int .i64 g.shape, .int .i64 g.w, .int .i64 g.h, .slice ah nh ch, .slice ac nc cc] 24)) := (Below.refl _ _).alloc (Nat.le_refl _) _
  have hbx := Box.new W #[.int .i64 g.shape, .int .i64 g.w, .int .i64 g.h, .slice ah nh ch, .slice ac nc cc] 24
  have hl := hbx.lt
  have ⟨⟨a1, a2⟩, a3, a4⟩ := h.bd
  have xa : 0 ≤ cenX g k ∧ cenX g k ≤ 40 := by unfold cenX; split <;> omega
  have C1 := fun w (h : CellOk g w ac nc cc k) => center_any g ah ac nh ch nc cc k w h
  have HT : Hid (lawLine g f k = if f = 1 then rowL g k else if g.shape = 1 then cenX g k else if f = 2 then cenX g k - rowL g k else cenX g k + rowL g k) := Lib.hid rfl
  obtain ⟨X, hX⟩ : ∃ X, cenX g k = X := ⟨_, rfl⟩
  obtain ⟨Y, hY⟩ : ∃ X, rowL g k = X := ⟨_, rfl⟩
  simp only [hX, hY] at C1
  rw [hX, hY] at HT
  rw [hX] at xa
  rw [hY] at a3 a4
  obtain ⟨xa1, xa2⟩ := xa
  have H1 := Lib.hid C1
  have HA := Lib.hid (h.below hal)
  clear C1 hX hY h a1 a2
  by_cases h1 : f = 1
  · subst h1
    have HT2 : Hid (lawLine g 1 k = Y) := Lib.hid (by rw [HT.out, if_pos rfl])
    go_enter Try.func53, Try.ntmps53
    go_wp2_with fail
    refine (H1.out _ HA.out).mono ?_
    rintro e w1 ⟨rfl, hB1⟩
    go_wp2_with fail
    go_ret
    exact ⟨ret_int HT2.out.symm, hal.on hB1⟩
  · have t1 : (f == 1) = false := by rw [beq_eq_false_iff_ne]; exact h1
    by_cases hs : g.shape = 1
    · have ts : (g.shape == 1) = true := by rw [hs]; rfl
      have HT2 : Hid (lawLine g f k = X) := Lib.hid (by rw [HT.out, if_neg h1, if_pos hs])
      clear h1 hs
      go_enter Try.func53, Try.ntmps53
      go_wp2_with fail
      refine (H1.out _ HA.out).mono ?_
      rintro e w1 ⟨rfl, hB1⟩
      obtain ⟨d0, d1, d2, d3, d4⟩ := (hbx.below hB1).g5
      have hl1 := (hbx.below hB1).lt
      go_wp2_with fail
      go_ret
      exact ⟨ret_int HT2.out.symm, hal.on hB1⟩
    · have ts : (g.shape == 1) = false := by rw [beq_eq_false_iff_ne]; exact hs
      by_cases h2 : f = 2
      · subst h2
        have HT2 : Hid (lawLine g 2 k = X - Y) := Lib.hid (by rw [HT.out, if_neg h1, if_neg hs, if_pos rfl])
        clear h1 hs
        go_enter Try.func53, Try.ntmps53
        go_wp2_with fail
        refine (H1.out _ HA.out).mono ?_
        rintro e w1 ⟨rfl, hB1⟩
        obtain ⟨d0, d1, d2, d3, d4⟩ := (hbx.below hB1).g5
        have hl1 := (hbx.below hB1).lt
        go_wp2_with fail
        go_ret
        exact ⟨ret_int HT2.out.symm, hal.on hB1⟩
      · have t2 : (f == 2) = false := by rw [beq_eq_false_iff_ne]; exact h2
        have HT2 : Hid (lawLine g f k = X + Y) := Lib.hid (by rw [HT.out, if_neg h1, if_neg hs, if_neg h2])
        clear h1 hs h2
        go_enter Try.func53, Try.ntmps53
        go_wp2_with fail
        refine (H1.out _ HA.out).mono ?_
        rintro e w1 ⟨rfl, hB1⟩
        obtain ⟨d0, d1, d2, d3, d4⟩ := (hbx.below hB1).g5
        have hl1 := (hbx.below hB1).lt
        go_wp2_with fail
        go_ret
        exact ⟨ret_int HT2.out.symm, hal.on hB1⟩
end Go.Proofs.Ytjiacdihfbbfjaa
