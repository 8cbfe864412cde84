/- Contracts of grids.Check, ref13.Check, law14.grid. -/
import Derived.Test.YtjiacdihfbbfjaaGMake
import Derived.WalkKit
import Derived.WalkSpells
import Derived.WalkLawsBesides
import Derived.Deep.LoopGhost
import Derived.Deep.QuietTactic
import Derived.BigQuiet
import Derived.StillTailTactics
import Derived.Lib.Hide
import Derived.Outline
import Derived.Lib.QuietBelow
namespace Go.Proofs.Ytjiacdihfbbfjaa
open Go.RowKit

theorem ret_some {f : FuncId} {args : Array Value} {W : World} {og : Option Grid} {g : Grid} (h : Calls Try.prog f args W (RetGridE W og)) (hg : og = some g) :
    Calls Try.prog f args W fun e w' => ∃ v, e = .returned (.tuple #[v, .int .i64 0]) ∧ GridF w' W.heap.size v g ∧ Below W.heap.size W w' := by
  subst hg; exact h
theorem ret_none {f : FuncId} {args : Array Value} {W : World} {og : Option Grid} (h : Calls Try.prog f args W (RetGridE W og)) (hg : og = none) :
    Calls Try.prog f args W fun e w' => ∃ v, e = .returned (.tuple #[v, .int .i64 130]) ∧ GridF w' W.heap.size v zeroGrid ∧ Below W.heap.size W w' := by
  subst hg; exact h

/-- What Check answers. -/
def checkErr (g : Grid) : Int := match makeL g.shape g.w g.h g.holes with
  | none => 130
  | some x => if eqL x.cells g.cells then 0 else 130
theorem checkErr_none {g : Grid} (h : makeL g.shape g.w g.h g.holes = none) : checkErr g = 130 := by unfold checkErr; rw [h]
theorem checkErr_some {g x : Grid} (h : makeL g.shape g.w g.h g.holes = some x) : checkErr g = if eqL x.cells g.cells then 0 else 130 := by unfold checkErr; rw [h]
theorem makeL_cells_le {s w h : Int} {l : List Int} {g : Grid} (hm : makeL s w h l = some g) : g.cells.length ≤ 256 := by
  unfold makeL at hm
  split at hm
  · rename_i hh
    obtain ⟨⟨_, h1, h2, h3, h4⟩, _⟩ := hh
    injection hm with hm; subst hm
    have := cellsUpto_le (w * h).toNat l
    have h5 : w * h ≤ 16 * 16 := Int.mul_le_mul h2 h4 (by omega) (by omega)
    simp only
    omega
  · cases hm

theorem same13_any' (a0 a1 : Option Addr) (n0 c0 n1 c1 : Nat) (x y : List Int) (w : World) (h0 : Ints w a0 n0 c0 x) (h1 : Ints w a1 n1 c1 y) (_ : n0 ≤ 10000000000) (_ : n1 ≤ 10000000000) :
    Calls Try.prog 54 #[.slice a0 n0 c0, .slice a1 n1 c1] w fun e w' => e = .returned (.bool (eqL x y)) ∧ ∃ k, w' = w.drewN k := same13_any a0 a1 n0 c0 n1 c1 x y w h0 h1
theorem refMake_any' (s w h : Int) (a0 : Option Addr) (n0 c0 : Nat) (holes : List Int) (W : World) (h0 : Ints W a0 n0 c0 holes) (_ : n0 ≤ 10000000) :
    Calls Try.prog 39 #[.int .i64 s, .int .i64 w, .int .i64 h, .slice a0 n0 c0] W (RetGridE W (makeL s w h holes)) := refMake_any s w h a0 n0 c0 holes W h0
set_option maxRecDepth 20000 in
set_option maxHeartbeats 1000000 in
theorem gridsCheck_any (g : Grid) (ah ac : Option Addr) (nh ch nc cc : Nat) (W : World) (h1 : Ints W ah nh ch g.holes) (h2 : Ints W ac nc cc g.cells) (hn : nh ≤ 10000000) (hm : nc ≤ 10000000000) :
    Calls Try.prog 43 #[.agg #[.int .i64 g.shape, .int .i64 g.w, .int .i64 g.h, .slice ah nh ch, .slice ac nc cc]] W fun e w' => e = .returned (.int .i64 (checkErr g)) ∧ Below W.heap.size W w' := by
  obtain ⟨bx, hbx⟩ : ∃ o, Obj.cells #[Value.int .i64 g.shape, .int .i64 g.w, .int .i64 g.h, .slice ah nh ch, .slice ac nc cc] 24 = o := ⟨_, rfl⟩
  have hBx : Below W.heap.size W (W.alloc bx) := (Below.refl _ _).alloc (Nat.le_refl _) _
  have HX := Lib.hid hbx
  clear hbx
  cases hg : makeL g.shape g.w g.h g.holes with
  | none =>
    have HG := Lib.hid hg
    have HC := Lib.hid (checkErr_none hg)
    clear hg
    go_enter Try.func43, Try.ntmps43
    go_wp2_with fail
    rw [HX.out]
    refine (ret_none (gridsMake_any g.shape g.w g.h ah nh ch g.holes _ (h1.below hBx) hn) HG.out).mono ?_
    rintro e w1 ⟨v, rfl, ⟨a1, n1, c1, a2, n2, c2, rfl, hI1, hI2, _, _⟩, hB1⟩
    go_wp2_with fail
    go_ret
    exact ⟨ret_int HC.out.symm, (hBx.on hB1).alloc (Nat.le_trans hBx.size hB1.size) _⟩
  | some x =>
    have HG := Lib.hid hg
    have HL := makeL_cells_le hg
    have HC := Lib.hid (checkErr_some hg)
    clear hg
    have hcB : Box (W.alloc bx) W.heap.size #[.int .i64 g.shape, .int .i64 g.w, .int .i64 g.h, .slice ah nh ch, .slice ac nc cc] 24 := by rw [← HX.out]; exact Box.new _ _ _
    cases he : eqL x.cells g.cells
    all_goals
      have HE := Lib.hid he
      go_enter Try.func43, Try.ntmps43
      go_wp2_with fail
      rw [HX.out]
      refine (ret_some (gridsMake_any g.shape g.w g.h ah nh ch g.holes _ (h1.below hBx) hn) HG.out).mono ?_
      rintro e w1 ⟨v, rfl, ⟨a1, n1, c1, a2, n2, c2, rfl, hI1, hI2, _, _⟩, hB1⟩
      have c4 : w1.cell? ⟨W.heap.size, 4, none⟩ = some (.slice ac nc cc) := by simpa using (hcB.below hB1).cell 4
      have hsz : W.heap.size < w1.heap.size := by have := hB1.size; simp at this; omega
      go_wp2_with fail
      refine (equalS_any _ _ _ _ _ _ x.cells g.cells _ (hI2.below ((Below.refl _ _).alloc (Nat.le_refl _) _)) ((h2.below (hBx.on hB1)).below ((Below.refl _ _).alloc (Nat.le_refl _) _)) (by rw [← hI2.len]; omega) hm).mono ?_
      rintro e w' ⟨rfl, q, rfl⟩
      go_wp2_with fail
      go_ret
      exact ⟨ret_int (by rw [HC.out, HE.out]; rfl), below_drewN ((hBx.on hB1).alloc (Nat.le_trans hBx.size hB1.size) _) _⟩
set_option maxRecDepth 20000 in
set_option maxHeartbeats 1000000 in
theorem refCheck_any (g : Grid) (ah ac : Option Addr) (nh ch nc cc : Nat) (W : World) (h1 : Ints W ah nh ch g.holes) (h2 : Ints W ac nc cc g.cells) (hn : nh ≤ 10000000) (hm : nc ≤ 10000000000) :
    Calls Try.prog 44 #[.agg #[.int .i64 g.shape, .int .i64 g.w, .int .i64 g.h, .slice ah nh ch, .slice ac nc cc]] W fun e w' => e = .returned (.int .i64 (checkErr g)) ∧ Below W.heap.size W w' := by
  obtain ⟨bx, hbx⟩ : ∃ o, Obj.cells #[Value.int .i64 g.shape, .int .i64 g.w, .int .i64 g.h, .slice ah nh ch, .slice ac nc cc] 24 = o := ⟨_, rfl⟩
  have hBx : Below W.heap.size W (W.alloc bx) := (Below.refl _ _).alloc (Nat.le_refl _) _
  have HX := Lib.hid hbx
  clear hbx
  cases hg : makeL g.shape g.w g.h g.holes with
  | none =>
    have HG := Lib.hid hg
    have HC := Lib.hid (checkErr_none hg)
    clear hg
    go_enter Try.func44, Try.ntmps44
    go_wp2_with fail
    rw [HX.out]
    refine (ret_none (refMake_any' g.shape g.w g.h ah nh ch g.holes _ (h1.below hBx) hn) HG.out).mono ?_
    rintro e w1 ⟨v, rfl, ⟨a1, n1, c1, a2, n2, c2, rfl, hI1, hI2, _, _⟩, hB1⟩
    go_wp2_with fail
    go_ret
    exact ⟨ret_int HC.out.symm, (hBx.on hB1).alloc (Nat.le_trans hBx.size hB1.size) _⟩
  | some x =>
    have HG := Lib.hid hg
    have HL := makeL_cells_le hg
    have HC := Lib.hid (checkErr_some hg)
    clear hg
    have hcB : Box (W.alloc bx) W.heap.size #[.int .i64 g.shape, .int .i64 g.w, .int .i64 g.h, .slice ah nh ch, .slice ac nc cc] 24 := by rw [← HX.out]; exact Box.new _ _ _
    cases he : eqL x.cells g.cells
    all_goals
      have HE := Lib.hid he
      go_enter Try.func44, Try.ntmps44
      go_wp2_with fail
      rw [HX.out]
      refine (ret_some (refMake_any' g.shape g.w g.h ah nh ch g.holes _ (h1.below hBx) hn) HG.out).mono ?_
      rintro e w1 ⟨v, rfl, ⟨a1, n1, c1, a2, n2, c2, rfl, hI1, hI2, _, _⟩, hB1⟩
      have c4 : w1.cell? ⟨W.heap.size, 4, none⟩ = some (.slice ac nc cc) := by simpa using (hcB.below hB1).cell 4
      have hsz : W.heap.size < w1.heap.size := by have := hB1.size; simp at this; omega
      go_wp2_with fail
      refine (same13_any' _ _ _ _ _ _ x.cells g.cells _ (hI2.below ((Below.refl _ _).alloc (Nat.le_refl _) _)) ((h2.below (hBx.on hB1)).below ((Below.refl _ _).alloc (Nat.le_refl _) _)) (by rw [← hI2.len]; omega) hm).mono ?_
      rintro e w' ⟨rfl, q, rfl⟩
      go_wp2_with fail
      go_ret
      exact ⟨ret_int (by rw [HC.out, HE.out]; rfl), below_drewN ((hBx.on hB1).alloc (Nat.le_trans hBx.size hB1.size) _) _⟩
end Go.Proofs.Ytjiacdihfbbfjaa
