/- Contracts of law14.grid, moves.where, turned, and the linear maps. -/
import Derived.Test.YtjiacdihfbbfjaaGCheck
import Derived.WalkKit
import Derived.WalkSpells
import Derived.WalkLawsBesides
import Derived.Deep.LoopGhost
import Derived.Deep.QuietTactic
import Derived.BigQuiet
import Derived.StillTailTactics
import Derived.Lib.Hide
import Derived.Outline
import Derived.Lib.QuietBelow
namespace Go.Proofs.Ytjiacdihfbbfjaa
open Go.RowKit

def RetGrid (W : World) (g : Grid) (e : Ending) (w' : World) : Prop := ∃ v, e = .returned v ∧ GridF w' W.heap.size v g ∧ Below W.heap.size W w'
def gridL (s w h : Int) (holes : List Int) : Grid := (makeL s w h holes).getD zeroGrid

set_option maxRecDepth 20000 in
set_option maxHeartbeats 1000000 in
theorem grid_any (s w h : Int) (a0 : Option Addr) (n0 c0 : Nat) (holes : List Int) (W : World) (h0 : Ints W a0 n0 c0 holes) :
    Calls Try.prog 30 #[.int .i64 s, .int .i64 w, .int .i64 h, .slice a0 n0 c0] W (RetGrid W (gridL s w h holes)) := by
  obtain ⟨bx, hbx⟩ : ∃ o, Obj.cells #[Value.int .i64 0, .int .i64 0, .int .i64 0, .slice none 0 0, .slice none 0 0] 24 = o := ⟨_, rfl⟩
  have hBx : Below W.heap.size W (W.alloc bx) := (Below.refl _ _).alloc (Nat.le_refl _) _
  have HX := Lib.hid hbx
  have hcB : Box (W.alloc bx) W.heap.size #[Value.int .i64 0, .int .i64 0, .int .i64 0, .slice none 0 0, .slice none 0 0] 24 := by rw [← hbx]; exact Box.new _ _ _
  clear hbx
  cases hg : makeL s w h holes with
  | none =>
    have HG := Lib.hid hg
    have HC := Lib.hid (show gridL s w h holes = zeroGrid by unfold gridL; rw [hg]; rfl)
    clear hg
    go_enter Try.func30, Try.ntmps30
    go_wp2_with fail
    rw [HX.out]
    refine (ret_none (refMake_any s w h a0 n0 c0 holes _ (h0.below hBx)) HG.out).mono ?_
    rintro e w1 ⟨v, rfl, ⟨a1, n1, c1, a2, n2, c2, rfl, hI1, hI2, hf1, hf2⟩, hB1⟩
    have hsz : W.heap.size < w1.heap.size := by have := hB1.size; simp at this; omega
    have hb1 := hcB.below hB1
    have z0 : w1.cell? ⟨W.heap.size, 0, none⟩ = some (.int .i64 0) := by simpa using hb1.cell 0
    have z1 : w1.cell? ⟨W.heap.size, 1, none⟩ = some (.int .i64 0) := by simpa using hb1.cell 1
    have z2 : w1.cell? ⟨W.heap.size, 2, none⟩ = some (.int .i64 0) := by simpa using hb1.cell 2
    have z3 : w1.cell? ⟨W.heap.size, 3, none⟩ = some (.slice none 0 0) := by simpa using hb1.cell 3
    have z4 : w1.cell? ⟨W.heap.size, 4, none⟩ = some (.slice none 0 0) := by simpa using hb1.cell 4
    have y0 := hb1.frozen 0
    have y1 := hb1.frozen 1
    have y2 := hb1.frozen 2
    have y3 := hb1.frozen 3
    have y4 := hb1.frozen 4
    have hB2 := hBx.on hB1
    go_wp2_with fail
    refine bodyPost_ret (v := .agg #[.int .i64 0, .int .i64 0, .int .i64 0, .slice none 0 0, .slice none 0 0]) (by simp [results, Try.results30, go_sem, z0, z1, z2, z3, z4, hsz]) rfl ?_
    exact ⟨_, rfl, by rw [HC.out]; exact zeroGrid_F _ _, (by repeat (first | (with_reducible exact Below.refl _ _) | (with_reducible assumption) | (with_reducible refine below_drewN ?_ _) | ((with_reducible refine Below.setCell ?_ ?_ _); rotate_left; focus (first | (simp; done) | (simp; omega) | omega)) | ((with_reducible refine Below.alloc ?_ ?_ _); rotate_left; focus (first | (simp; done) | (simp; omega) | omega)) | (with_reducible refine Below.drew ?_)))⟩
  | some g =>
    have HG := Lib.hid hg
    have HC := Lib.hid (show gridL s w h holes = g by unfold gridL; rw [hg]; rfl)
    clear hg
    go_enter Try.func30, Try.ntmps30
    go_wp2_with fail
    rw [HX.out]
    refine (ret_some (refMake_any s w h a0 n0 c0 holes _ (h0.below hBx)) HG.out).mono ?_
    rintro e w1 ⟨v, rfl, ⟨a1, n1, c1, a2, n2, c2, rfl, hI1, hI2, hf1, hf2⟩, hB1⟩
    have hsz : W.heap.size < w1.heap.size := by have := hB1.size; simp at this; omega
    have hb1 := hcB.below hB1
    have z0 : w1.cell? ⟨W.heap.size, 0, none⟩ = some (.int .i64 0) := by simpa using hb1.cell 0
    have z1 : w1.cell? ⟨W.heap.size, 1, none⟩ = some (.int .i64 0) := by simpa using hb1.cell 1
    have z2 : w1.cell? ⟨W.heap.size, 2, none⟩ = some (.int .i64 0) := by simpa using hb1.cell 2
    have z3 : w1.cell? ⟨W.heap.size, 3, none⟩ = some (.slice none 0 0) := by simpa using hb1.cell 3
    have z4 : w1.cell? ⟨W.heap.size, 4, none⟩ = some (.slice none 0 0) := by simpa using hb1.cell 4
    have y0 := hb1.frozen 0
    have y1 := hb1.frozen 1
    have y2 := hb1.frozen 2
    have y3 := hb1.frozen 3
    have y4 := hb1.frozen 4
    have hB2 := hBx.on hB1
    go_wp2_with fail
    refine bodyPost_ret (v := .agg #[.int .i64 g.shape, .int .i64 g.w, .int .i64 g.h, .slice a1 n1 c1, .slice a2 n2 c2]) (by simp [results, Try.results30, go_sem, z0, z1, z2, z3, z4, hsz]) rfl ?_
    refine ⟨_, rfl, by rw [HC.out]; exact ⟨_, _, _, _, _, _, rfl, Ints.below (hI1.set5 (fun e => by have := hf1 _ e; simp at this; omega) _ _ _ _ _) ((Below.refl _ _).alloc (Nat.le_refl _) _), Ints.below (hI2.set5 (fun e => by have := hf2 _ e; simp at this; omega) _ _ _ _ _) ((Below.refl _ _).alloc (Nat.le_refl _) _), fun k e => Nat.le_trans hBx.size (hf1 k e), fun k e => Nat.le_trans hBx.size (hf2 k e)⟩, (by repeat (first | (with_reducible exact Below.refl _ _) | (with_reducible assumption) | (with_reducible refine below_drewN ?_ _) | ((with_reducible refine Below.setCell ?_ ?_ _); rotate_left; focus (first | (simp; done) | (simp; omega) | omega)) | ((with_reducible refine Below.alloc ?_ ?_ _); rotate_left; focus (first | (simp; done) | (simp; omega) | omega)) | (with_reducible refine Below.drew ?_)))⟩

/-- A pair of coordinates as a result. -/
def RetPlace (W : World) (p : Int × Int) (e : Ending) (w' : World) : Prop := e = .returned (.agg #[.int .i64 p.1, .int .i64 p.2]) ∧ Below W.heap.size W w'
theorem retPlace_eq {W w' : World} {p : Int × Int} {a b : Int} (h1 : a = p.1) (h2 : b = p.2) (hb : Below W.heap.size W w') : RetPlace W p (.returned (.agg #[.int .i64 a, .int .i64 b])) w' := by
  subst h1 h2; exact ⟨rfl, hb⟩
def placeOf (g : Grid) (pos : Int) : Int × Int := if g.shape = 2 then (pos % g.w - pos / g.w / 2, pos / g.w) else (pos % g.w, pos / g.w)

set_option maxRecDepth 20000 in
set_option maxHeartbeats 1000000 in
theorem where_any (g : Grid) (ah ac : Option Addr) (nh ch nc cc : Nat) (pos : Int) (W : World) (hw : 1 ≤ g.w ∧ g.w ≤ 16) (hp : 0 ≤ pos ∧ pos < 256) :
    Calls Try.prog 87 #[.agg #[.int .i64 g.shape, .int .i64 g.w, .int .i64 g.h, .slice ah nh ch, .slice ac nc cc], .int .i64 pos] W (RetPlace W (placeOf g pos)) := by
  obtain ⟨w, hwe⟩ : ∃ w, g.w = w := ⟨_, rfl⟩
  obtain ⟨s, hse⟩ : ∃ s, g.shape = s := ⟨_, rfl⟩
  have hP : placeOf g pos = if s = 2 then (pos % w - pos / w / 2, pos / w) else (pos % w, pos / w) := by unfold placeOf; rw [hwe, hse]
  have HP := Lib.hid hP
  rw [hwe] at hw ⊢
  rw [hse]
  clear hwe hse hP
  have h0 : (w == 0) = false := by rw [beq_eq_false_iff_ne]; omega
  have q1 : 0 ≤ pos / w := Int.ediv_nonneg hp.1 (by omega)
  have q2 : pos / w ≤ pos := Int.ediv_le_self _ hp.1
  have q3 : 0 ≤ pos % w := Int.emod_nonneg _ (by omega)
  have q4 : pos % w < w := Int.emod_lt_of_pos _ (by omega)
  by_cases hs : s = 2
  · have hs' : (s == 2) = true := by rw [beq_iff_eq]; exact hs
    have HS := Lib.hid hs
    clear hs
    go_enter Try.func87, Try.ntmps87
    go_wp2_with (go_quiet (fail))
    refine bodyPost_ret (v := .agg #[.int .i64 (pos % w - pos / w / 2), .int .i64 (pos / w)]) (by simp [results, Try.results87, go_sem]) rfl ?_
    exact retPlace_eq (by rw [HP.out, if_pos HS.out]) (by rw [HP.out, if_pos HS.out]) (by repeat (first | (with_reducible exact Below.refl _ _) | (with_reducible assumption) | (with_reducible refine below_drewN ?_ _) | ((with_reducible refine Below.setCell ?_ ?_ _); rotate_left; focus (first | (simp; done) | (simp; omega) | omega)) | ((with_reducible refine Below.alloc ?_ ?_ _); rotate_left; focus (first | (simp; done) | (simp; omega) | omega)) | (with_reducible refine Below.drew ?_)))
  · have hs' : (s == 2) = false := by rw [beq_eq_false_iff_ne]; exact hs
    have HS := Lib.hid hs
    clear hs
    go_enter Try.func87, Try.ntmps87
    go_wp2_with (go_quiet (fail))
    refine bodyPost_ret (v := .agg #[.int .i64 (pos % w), .int .i64 (pos / w)]) (by simp [results, Try.results87, go_sem]) rfl ?_
    exact retPlace_eq (by rw [HP.out, if_neg HS.out]) (by rw [HP.out, if_neg HS.out]) (by repeat (first | (with_reducible exact Below.refl _ _) | (with_reducible assumption) | (with_reducible refine below_drewN ?_ _) | ((with_reducible refine Below.setCell ?_ ?_ _); rotate_left; focus (first | (simp; done) | (simp; omega) | omega)) | ((with_reducible refine Below.alloc ?_ ?_ _); rotate_left; focus (first | (simp; done) | (simp; omega) | omega)) | (with_reducible refine Below.drew ?_)))

/-- The linear maps. -/
def turned (p : Int × Int) : Int × Int := (-p.2, p.1 + p.2)
def sqMap (k : Nat) (p : Int × Int) : Int × Int :=
  match k with
  | 0 => (p.1, p.2) | 1 => (-p.1, p.2) | 2 => (p.1, -p.2) | 3 => (-p.1, -p.2) | 4 => (p.2, p.1) | 5 => (-p.2, p.1) | 6 => (p.2, -p.1) | _ => (-p.2, -p.1)
def turns : Nat → Int × Int → Int × Int
  | 0, p => p
  | k + 1, p => turned (turns k p)
def hexMap (k : Nat) (p : Int × Int) : Int × Int := turns (k % 6) (if 6 ≤ k then (p.2, p.1) else p)
def small (p : Int × Int) : Prop := -1000 ≤ p.1 ∧ p.1 ≤ 1000 ∧ -1000 ≤ p.2 ∧ p.2 ≤ 1000

set_option maxRecDepth 20000 in
set_option maxHeartbeats 1000000 in
theorem sq0 (a b : Int) (W : World) (hp : small (a, b)) : Calls Try.prog 111 #[.agg #[.int .i64 a, .int .i64 b]] W (RetPlace W (sqMap 0 (a, b))) := by
  obtain ⟨h1, h2, h3, h4⟩ := hp
  simp only at h1 h2 h3 h4
  go_enter Try.func111, Try.ntmps111
  go_wp2_with (go_quiet (fail))
  refine bodyPost_ret (v := .agg #[.int .i64 (a), .int .i64 (b)]) (by simp [results, Try.results111, go_sem]) rfl ?_
  exact retPlace_eq rfl rfl (by repeat (first | (with_reducible exact Below.refl _ _) | (with_reducible assumption) | (with_reducible refine below_drewN ?_ _) | ((with_reducible refine Below.setCell ?_ ?_ _); rotate_left; focus (first | (simp; done) | (simp; omega) | omega)) | ((with_reducible refine Below.alloc ?_ ?_ _); rotate_left; focus (first | (simp; done) | (simp; omega) | omega)) | (with_reducible refine Below.drew ?_)))
set_option maxRecDepth 20000 in
set_option maxHeartbeats 1000000 in
theorem sq1 (a b : Int) (W : World) (hp : small (a, b)) : Calls Try.prog 112 #[.agg #[.int .i64 a, .int .i64 b]] W (RetPlace W (sqMap 1 (a, b))) := by
  obtain ⟨h1, h2, h3, h4⟩ := hp
  simp only at h1 h2 h3 h4
  go_enter Try.func112, Try.ntmps112
  go_wp2_with (go_quiet (fail))
  refine bodyPost_ret (v := .agg #[.int .i64 (-a), .int .i64 (b)]) (by simp [results, Try.results112, go_sem]) rfl ?_
  exact retPlace_eq rfl rfl (by repeat (first | (with_reducible exact Below.refl _ _) | (with_reducible assumption) | (with_reducible refine below_drewN ?_ _) | ((with_reducible refine Below.setCell ?_ ?_ _); rotate_left; focus (first | (simp; done) | (simp; omega) | omega)) | ((with_reducible refine Below.alloc ?_ ?_ _); rotate_left; focus (first | (simp; done) | (simp; omega) | omega)) | (with_reducible refine Below.drew ?_)))
set_option maxRecDepth 20000 in
set_option maxHeartbeats 1000000 in
theorem sq2 (a b : Int) (W : World) (hp : small (a, b)) : Calls Try.prog 113 #[.agg #[.int .i64 a, .int .i64 b]] W (RetPlace W (sqMap 2 (a, b))) := by
  obtain ⟨h1, h2, h3, h4⟩ := hp
  simp only at h1 h2 h3 h4
  go_enter Try.func113, Try.ntmps113
  go_wp2_with (go_quiet (fail))
  refine bodyPost_ret (v := .agg #[.int .i64 (a), .int .i64 (-b)]) (by simp [results, Try.results113, go_sem]) rfl ?_
  exact retPlace_eq rfl rfl (by repeat (first | (with_reducible exact Below.refl _ _) | (with_reducible assumption) | (with_reducible refine below_drewN ?_ _) | ((with_reducible refine Below.setCell ?_ ?_ _); rotate_left; focus (first | (simp; done) | (simp; omega) | omega)) | ((with_reducible refine Below.alloc ?_ ?_ _); rotate_left; focus (first | (simp; done) | (simp; omega) | omega)) | (with_reducible refine Below.drew ?_)))
set_option maxRecDepth 20000 in
set_option maxHeartbeats 1000000 in
theorem sq3 (a b : Int) (W : World) (hp : small (a, b)) : Calls Try.prog 114 #[.agg #[.int .i64 a, .int .i64 b]] W (RetPlace W (sqMap 3 (a, b))) := by
  obtain ⟨h1, h2, h3, h4⟩ := hp
  simp only at h1 h2 h3 h4
  go_enter Try.func114, Try.ntmps114
  go_wp2_with (go_quiet (fail))
  refine bodyPost_ret (v := .agg #[.int .i64 (-a), .int .i64 (-b)]) (by simp [results, Try.results114, go_sem]) rfl ?_
  exact retPlace_eq rfl rfl (by repeat (first | (with_reducible exact Below.refl _ _) | (with_reducible assumption) | (with_reducible refine below_drewN ?_ _) | ((with_reducible refine Below.setCell ?_ ?_ _); rotate_left; focus (first | (simp; done) | (simp; omega) | omega)) | ((with_reducible refine Below.alloc ?_ ?_ _); rotate_left; focus (first | (simp; done) | (simp; omega) | omega)) | (with_reducible refine Below.drew ?_)))
set_option maxRecDepth 20000 in
set_option maxHeartbeats 1000000 in
theorem sq4 (a b : Int) (W : World) (hp : small (a, b)) : Calls Try.prog 115 #[.agg #[.int .i64 a, .int .i64 b]] W (RetPlace W (sqMap 4 (a, b))) := by
  obtain ⟨h1, h2, h3, h4⟩ := hp
  simp only at h1 h2 h3 h4
  go_enter Try.func115, Try.ntmps115
  go_wp2_with (go_quiet (fail))
  refine bodyPost_ret (v := .agg #[.int .i64 (b), .int .i64 (a)]) (by simp [results, Try.results115, go_sem]) rfl ?_
  exact retPlace_eq rfl rfl (by repeat (first | (with_reducible exact Below.refl _ _) | (with_reducible assumption) | (with_reducible refine below_drewN ?_ _) | ((with_reducible refine Below.setCell ?_ ?_ _); rotate_left; focus (first | (simp; done) | (simp; omega) | omega)) | ((with_reducible refine Below.alloc ?_ ?_ _); rotate_left; focus (first | (simp; done) | (simp; omega) | omega)) | (with_reducible refine Below.drew ?_)))
set_option maxRecDepth 20000 in
set_option maxHeartbeats 1000000 in
theorem sq5 (a b : Int) (W : World) (hp : small (a, b)) : Calls Try.prog 116 #[.agg #[.int .i64 a, .int .i64 b]] W (RetPlace W (sqMap 5 (a, b))) := by
  obtain ⟨h1, h2, h3, h4⟩ := hp
  simp only at h1 h2 h3 h4
  go_enter Try.func116, Try.ntmps116
  go_wp2_with (go_quiet (fail))
  refine bodyPost_ret (v := .agg #[.int .i64 (-b), .int .i64 (a)]) (by simp [results, Try.results116, go_sem]) rfl ?_
  exact retPlace_eq rfl rfl (by repeat (first | (with_reducible exact Below.refl _ _) | (with_reducible assumption) | (with_reducible refine below_drewN ?_ _) | ((with_reducible refine Below.setCell ?_ ?_ _); rotate_left; focus (first | (simp; done) | (simp; omega) | omega)) | ((with_reducible refine Below.alloc ?_ ?_ _); rotate_left; focus (first | (simp; done) | (simp; omega) | omega)) | (with_reducible refine Below.drew ?_)))
set_option maxRecDepth 20000 in
set_option maxHeartbeats 1000000 in
theorem sq6 (a b : Int) (W : World) (hp : small (a, b)) : Calls Try.prog 117 #[.agg #[.int .i64 a, .int .i64 b]] W (RetPlace W (sqMap 6 (a, b))) := by
  obtain ⟨h1, h2, h3, h4⟩ := hp
  simp only at h1 h2 h3 h4
  go_enter Try.func117, Try.ntmps117
  go_wp2_with (go_quiet (fail))
  refine bodyPost_ret (v := .agg #[.int .i64 (b), .int .i64 (-a)]) (by simp [results, Try.results117, go_sem]) rfl ?_
  exact retPlace_eq rfl rfl (by repeat (first | (with_reducible exact Below.refl _ _) | (with_reducible assumption) | (with_reducible refine below_drewN ?_ _) | ((with_reducible refine Below.setCell ?_ ?_ _); rotate_left; focus (first | (simp; done) | (simp; omega) | omega)) | ((with_reducible refine Below.alloc ?_ ?_ _); rotate_left; focus (first | (simp; done) | (simp; omega) | omega)) | (with_reducible refine Below.drew ?_)))
set_option maxRecDepth 20000 in
set_option maxHeartbeats 1000000 in
theorem sq7 (a b : Int) (W : World) (hp : small (a, b)) : Calls Try.prog 118 #[.agg #[.int .i64 a, .int .i64 b]] W (RetPlace W (sqMap 7 (a, b))) := by
  obtain ⟨h1, h2, h3, h4⟩ := hp
  simp only at h1 h2 h3 h4
  go_enter Try.func118, Try.ntmps118
  go_wp2_with (go_quiet (fail))
  refine bodyPost_ret (v := .agg #[.int .i64 (-b), .int .i64 (-a)]) (by simp [results, Try.results118, go_sem]) rfl ?_
  exact retPlace_eq rfl rfl (by repeat (first | (with_reducible exact Below.refl _ _) | (with_reducible assumption) | (with_reducible refine below_drewN ?_ _) | ((with_reducible refine Below.setCell ?_ ?_ _); rotate_left; focus (first | (simp; done) | (simp; omega) | omega)) | ((with_reducible refine Below.alloc ?_ ?_ _); rotate_left; focus (first | (simp; done) | (simp; omega) | omega)) | (with_reducible refine Below.drew ?_)))

set_option maxRecDepth 20000 in
set_option maxHeartbeats 1000000 in
theorem turned_any (a b : Int) (W : World) (h1 : -1000000 ≤ a ∧ a ≤ 1000000) (h2 : -1000000 ≤ b ∧ b ≤ 1000000) : Calls Try.prog 120 #[.agg #[.int .i64 a, .int .i64 b]] W (RetPlace W (turned (a, b))) := by
  go_enter Try.func120, Try.ntmps120
  go_wp2_with (go_quiet (fail))
  refine bodyPost_ret (v := .agg #[.int .i64 (-b), .int .i64 (a + b)]) (by simp [results, Try.results120, go_sem]) rfl ?_
  exact retPlace_eq rfl rfl (by repeat (first | (with_reducible exact Below.refl _ _) | (with_reducible assumption) | (with_reducible refine below_drewN ?_ _) | ((with_reducible refine Below.setCell ?_ ?_ _); rotate_left; focus (first | (simp; done) | (simp; omega) | omega)) | ((with_reducible refine Below.alloc ?_ ?_ _); rotate_left; focus (first | (simp; done) | (simp; omega) | omega)) | (with_reducible refine Below.drew ?_)))
end Go.Proofs.Ytjiacdihfbbfjaa
