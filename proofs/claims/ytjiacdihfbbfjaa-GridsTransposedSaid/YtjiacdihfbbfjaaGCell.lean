/- Contracts of grids.Cell, ref13.at, ref13.Cell, ref13.SameGrid, Column, Row, Axis. -/
import Derived.Test.YtjiacdihfbbfjaaRImg
import Derived.Test.YtjiacdihfbbfjaaMovM
import Derived.WalkKit
import Derived.WalkSpells
import Derived.WalkLawsBesides
import Derived.Deep.LoopGhost
import Derived.Deep.QuietTactic
import Derived.BigQuiet
import Derived.StillTailTactics
import Derived.Lib.Hide
import Derived.Outline
import Derived.Lib.QuietBelow
namespace Go.Proofs.Ytjiacdihfbbfjaa
open Go.RowKit

def cellL (l : List Int) (x : Int) : Int × Bool := if inL l x then (idxL l x, true) else (0, false)
def cellOut (g : Grid) (x : Int) : Int × Bool := if checkErr g = 0 then cellL g.cells x else (0, false)
theorem bsearch_idx {l : List Int} (hs : l.Pairwise (· < ·)) {x : Int} (hx : inL l x = true) : ((bsearchAt l x : Nat) : Int) = idxL l x := by
  obtain ⟨q, hq, e⟩ := List.mem_iff_getElem.1 (List.contains_iff_mem.1 hx)
  have hi : idxL l x = q := by
    refine idxL_hit hq (fun hm => ?_) (by rw [List.getElem?_eq_getElem hq]; exact e)
    obtain ⟨j, hj, e2⟩ := List.mem_take_iff_getElem.1 hm
    have hj := Nat.lt_min.1 hj
    have := List.pairwise_iff_getElem.1 hs j q (by omega) hq hj.1
    omega
  rw [hi]
  unfold bsearchAt
  have h1 : (l.take q).countP (· < x) = q := by
    rw [List.countP_eq_length.2, List.length_take]
    · omega
    · intro y hy
      obtain ⟨j, hj, e2⟩ := List.mem_take_iff_getElem.1 hy
      have hj := Nat.lt_min.1 hj
      have := List.pairwise_iff_getElem.1 hs j q (by omega) hq hj.1
      simp; omega
  have h2 : (l.drop q).countP (· < x) = 0 := by
    rw [List.countP_eq_zero]
    intro y hy
    obtain ⟨j, hj, e2⟩ := List.mem_iff_getElem.1 hy
    rw [List.getElem_drop] at e2
    simp only [List.length_drop] at hj
    by_cases hz : j = 0
    · subst hz; simp only [Nat.add_zero] at e2; simp; omega
    · have := List.pairwise_iff_getElem.1 hs q (q + j) hq (by omega) (by omega)
      simp; omega
  have h3 : l.countP (· < x) = (l.take q).countP (· < x) + (l.drop q).countP (· < x) := by rw [← List.countP_append, List.take_append_drop]
  rw [h3, h1, h2]; rfl
theorem ret_ib {a x : Int} {b y : Bool} (h : a = x) (h2 : b = y) : Ending.returned (.tuple #[.int .i64 a, .bool b]) = .returned (.tuple #[.int .i64 x, .bool y]) := by rw [h, h2]
theorem valid_of {g : Grid} (h : checkErr g = 0) : Valid g := by
  rcases checkErr_cases g with ⟨_, h2⟩ | ⟨h2, _⟩
  · exact h2
  · omega

set_option maxRecDepth 20000 in
set_option maxHeartbeats 1000000 in
theorem gcell_any (g : Grid) (ah ac : Option Addr) (nh ch nc cc : Nat) (pos : Int) (W : World) (h1 : Ints W ah nh ch g.holes) (h2 : Ints W ac nc cc g.cells) (hn : nh ≤ 10000000) (hm : nc ≤ 10000000000) :
    Calls Try.prog 40 #[.agg #[.int .i64 g.shape, .int .i64 g.w, .int .i64 g.h, .slice ah nh ch, .slice ac nc cc], .int .i64 pos] W fun e w' => e = .returned (.tuple #[.int .i64 (cellOut g pos).1, .bool (cellOut g pos).2]) ∧ Below W.heap.size W w' := by
  have hal : Below W.heap.size W (W.alloc (.cells #[.int .i64 g.shape, .int .i64 g.w, .int .i64 g.h, .slice ah nh ch, .slice ac nc cc] 24)) := (Below.refl _ _).alloc (Nat.le_refl _) _
  have hbx := Box.new W #[.int .i64 g.shape, .int .i64 g.w, .int .i64 g.h, .slice ah nh ch, .slice ac nc cc] 24
  have hl := hbx.lt
  have hck := gridsCheck_any g ah ac nh ch nc cc _ (h1.below hal) (h2.below hal) hn hm
  rcases checkErr_cases g with ⟨he, hv⟩ | ⟨he, _⟩
  · rw [he] at hck
    have HCK := Lib.hid hck
    have HV := Lib.hid hv
    have HE := Lib.hid he
    clear hck hv he
    cases hin : inL g.cells pos
    all_goals
      have HI := Lib.hid hin
      go_enter Try.func40, Try.ntmps40
      go_wp2_with fail
      refine HCK.out.mono ?_
      rintro e w1 ⟨rfl, hB1⟩
      obtain ⟨d0, d1, d2, d3, d4⟩ := (hbx.below hB1).g5
      have hl1 := (hbx.below hB1).lt
      go_wp2_with fail
      have hc := bsearch_any ac nc cc g.cells pos w1 (h2.below (hal.on hB1)) hm (incr_le HV.out.incr)
      rw [HI.out] at hc
      refine hc.mono ?_
      rintro e w2 ⟨rfl, q, rfl⟩
      clear hc
      go_wp2_with fail
      go_ret2
      refine ⟨ret_ib ?_ ?_, below_drewN (hal.on hB1) q⟩
      · unfold cellOut cellL
        rw [if_pos HE.out, HI.out]
        first | rfl | exact bsearch_idx HV.out.incr HI.out
      · unfold cellOut cellL
        rw [if_pos HE.out, HI.out]
        rfl
  · rw [he] at hck
    have HCK := Lib.hid hck
    have HE := Lib.hid he
    clear hck he
    go_enter Try.func40, Try.ntmps40
    go_wp2_with fail
    refine HCK.out.mono ?_
    rintro e w1 ⟨rfl, hB1⟩
    go_wp2_with fail
    go_ret2
    refine ⟨ret_ib ?_ ?_, hal.on hB1⟩ <;> (unfold cellOut; rw [if_neg (by rw [HE.out]; decide)])

set_option maxRecDepth 20000 in
set_option maxHeartbeats 1000000 in
theorem at13_any (g : Grid) (ah ac : Option Addr) (nh ch nc cc : Nat) (pos : Int) (W : World) (h2 : Ints W ac nc cc g.cells) :
    Calls Try.prog 73 #[.agg #[.int .i64 g.shape, .int .i64 g.w, .int .i64 g.h, .slice ah nh ch, .slice ac nc cc], .int .i64 pos] W fun e w' => e = .returned (.tuple #[.int .i64 (cellL g.cells pos).1, .bool (cellL g.cells pos).2]) ∧ Below W.heap.size W w' := by
  have hal : Below W.heap.size W (W.alloc (.cells #[.int .i64 g.shape, .int .i64 g.w, .int .i64 g.h, .slice ah nh ch, .slice ac nc cc] 24)) := (Below.refl _ _).alloc (Nat.le_refl _) _
  have hbx := Box.new W #[.int .i64 g.shape, .int .i64 g.w, .int .i64 g.h, .slice ah nh ch, .slice ac nc cc] 24
  have hl := hbx.lt
  have hcp := h2.cap
  have hmx := h2.mx
  unfold maxLen at hmx
  have HL := Lib.hid h2.len
  go_enter Try.func73, Try.ntmps73
  go_wp2_with fail
  go_loopw [6] (fun c wr => ∃ k : Nat, k ≤ nc ∧ c = .int .i64 k ∧ wr = W.alloc (.cells #[.int .i64 g.shape, .int .i64 g.w, .int .i64 g.h, .slice ah nh ch, .slice ac nc cc] 24) ∧ Hid (pos ∉ g.cells.take k)) (fun c _ => nc - (intOf c).toNat)
  case atStart => exact ⟨0, by omega, rfl, rfl, Lib.hid (by simp)⟩
  case round =>
    obtain ⟨k, hk, rfl, rfl, HM⟩ := hrel
    by_cases hlt : k < nc
    · obtain ⟨b0, o0, rfl, hb0⟩ := h2.at' (by omega)
      have e0 := (hal.cell (p := ⟨b0, o0 + k, none⟩) hb0).trans (h2.cell _ _ rfl k hlt)
      have q0 : (k : Int) < (nc : Int) := by omega
      obtain ⟨x, hx⟩ : ∃ x, g.cells[k]?.getD 0 = x := ⟨_, rfl⟩
      rw [hx] at e0
      have HX := Lib.hid hx
      clear hx
      by_cases hxp : x = pos
      · have t0 : (x == pos) = true := by rw [beq_iff_eq]; exact hxp
        have HXP := Lib.hid hxp
        clear hxp
        go_wp2_with fail
        go_ret2
        have hidx := idxL_hit (l := g.cells) (x := pos) (k := k) (by rw [HL.out]; exact hlt) HM.out (by rw [HX.out, HXP.out])
        have hinl : inL g.cells pos = true := by unfold inL; rw [List.contains_iff_mem, ← HXP.out, ← HX.out]; exact getD_mem _ _ (by rw [HL.out]; exact hlt)
        refine ⟨ret_ib ?_ ?_, hal⟩ <;> (unfold cellL; rw [if_pos hinl])
        exact hidx.symm
      · have t0 : (x == pos) = false := by rw [beq_eq_false_iff_ne]; exact hxp
        have HN : Hid (pos ∉ g.cells.take (k + 1)) := Lib.hid (by
          rw [take_getD _ _ (by rw [HL.out]; exact hlt), HX.out]
          intro hm
          rcases List.mem_append.1 hm with hm | hm
          · exact HM.out hm
          · exact hxp (List.mem_singleton.1 hm).symm)
        clear hxp
        go_wp2_with fail
        go_roundw
        case rel => exact ⟨k + 1, by omega, by go_num, by first | trivial | rfl, HN⟩
        case measure => simp [intOf]; omega
    · obtain rfl : k = nc := by omega
      go_wp2_with fail
      go_ret2
      have hinl : inL g.cells pos = false := by
        unfold inL; rw [Bool.eq_false_iff]; intro hc
        have := HM.out
        rw [List.take_of_length_le (by rw [HL.out]; omega)] at this
        exact this (List.contains_iff_mem.1 hc)
      refine ⟨ret_ib ?_ ?_, hal⟩ <;> (unfold cellL; rw [hinl]; rfl)

set_option maxRecDepth 20000 in
set_option maxHeartbeats 1000000 in
theorem refCell_any (g : Grid) (ah ac : Option Addr) (nh ch nc cc : Nat) (pos : Int) (W : World) (h1 : Ints W ah nh ch g.holes) (h2 : Ints W ac nc cc g.cells) (hn : nh ≤ 10000000) (hm : nc ≤ 10000000000) :
    Calls Try.prog 41 #[.agg #[.int .i64 g.shape, .int .i64 g.w, .int .i64 g.h, .slice ah nh ch, .slice ac nc cc], .int .i64 pos] W fun e w' => e = .returned (.tuple #[.int .i64 (cellOut g pos).1, .bool (cellOut g pos).2]) ∧ Below W.heap.size W w' := by
  have hal : Below W.heap.size W (W.alloc (.cells #[.int .i64 g.shape, .int .i64 g.w, .int .i64 g.h, .slice ah nh ch, .slice ac nc cc] 24)) := (Below.refl _ _).alloc (Nat.le_refl _) _
  have hbx := Box.new W #[.int .i64 g.shape, .int .i64 g.w, .int .i64 g.h, .slice ah nh ch, .slice ac nc cc] 24
  have hl := hbx.lt
  have hck := refCheck_any g ah ac nh ch nc cc _ (h1.below hal) (h2.below hal) hn hm
  rcases checkErr_cases g with ⟨he, hv⟩ | ⟨he, _⟩
  all_goals
    rw [he] at hck
    have HCK := Lib.hid hck
    have HE := Lib.hid he
    clear hck he
    go_enter Try.func41, Try.ntmps41
    go_wp2_with fail
    refine HCK.out.mono ?_
    rintro e w1 ⟨rfl, hB1⟩
    obtain ⟨d0, d1, d2, d3, d4⟩ := (hbx.below hB1).g5
    have hl1 := (hbx.below hB1).lt
    go_wp2_with fail
  · refine (at13_any g ah ac nh ch nc cc pos w1 (h2.below (hal.on hB1))).mono ?_
    rintro e w2 ⟨rfl, hB2⟩
    go_wp2_with fail
    go_ret2
    refine ⟨ret_ib ?_ ?_, (hal.on hB1).on hB2⟩ <;> (unfold cellOut; rw [if_pos HE.out])
  · go_ret2
    refine ⟨ret_ib ?_ ?_, hal.on hB1⟩ <;> (unfold cellOut; rw [if_neg (by rw [HE.out]; decide)])

/-! ### the coordinates of a cell -/
def colL (g : Grid) (k : Nat) : Int := g.cells[k]?.getD 0 % g.w
def rowL (g : Grid) (k : Nat) : Int := g.cells[k]?.getD 0 / g.w
def axisL (g : Grid) (k : Nat) : Int := colL g k - (rowL g k - rowL g k % 2) / 2
/-- What the functions of a cell ask. -/
structure CellOk (g : Grid) (W : World) (ac : Option Addr) (nc cc k : Nat) : Prop where
  ints : Ints W ac nc cc g.cells
  w : 1 ≤ g.w ∧ g.w ≤ 16
  mem : ∀ x ∈ g.cells, 0 ≤ x ∧ x < 256
  lt : k < nc
theorem CellOk.below {g : Grid} {W W' : World} {ac : Option Addr} {nc cc k : Nat} (h : CellOk g W ac nc cc k) (hb : Below W.heap.size W W') : CellOk g W' ac nc cc k := ⟨h.ints.below hb, h.w, h.mem, h.lt⟩
theorem CellOk.bd {g : Grid} {W : World} {ac : Option Addr} {nc cc k : Nat} (h : CellOk g W ac nc cc k) : (0 ≤ colL g k ∧ colL g k < 16) ∧ (0 ≤ rowL g k ∧ rowL g k < 256) := by
  have hp := h.mem _ (getD_mem g.cells k (by rw [h.ints.len]; exact h.lt))
  have hw := h.w
  unfold colL rowL
  generalize g.cells[k]?.getD 0 = c at *
  have q1 : 0 ≤ c / g.w := Int.ediv_nonneg hp.1 (by omega)
  have q2 : c / g.w ≤ c := Int.ediv_le_self _ hp.1
  have q3 : 0 ≤ c % g.w := Int.emod_nonneg _ (by omega)
  have q4 : c % g.w < g.w := Int.emod_lt_of_pos _ (by omega)
  omega
set_option maxRecDepth 20000 in
set_option maxHeartbeats 1000000 in
theorem col_any (g : Grid) (ah ac : Option Addr) (nh ch nc cc k : Nat) (W : World) (h : CellOk g W ac nc cc k) :
    Calls Try.prog 101 #[.agg #[.int .i64 g.shape, .int .i64 g.w, .int .i64 g.h, .slice ah nh ch, .slice ac nc cc], .int .i64 k] W fun e w' => e = .returned (.int .i64 (colL g k)) ∧ Below W.heap.size W w' := by
  obtain ⟨hI, hw, hc, hk⟩ := h
  obtain ⟨w, hwe⟩ : ∃ w, g.w = w := ⟨_, rfl⟩
  obtain ⟨b0, o0, rfl, hb0⟩ := hI.at' (by omega)
  have hx := hI.cell b0 o0 rfl k hk
  have hp := hc _ (getD_mem g.cells k (by rw [hI.len]; exact hk))
  have HO : Hid (colL g k = colL g k) := Lib.hid rfl
  obtain ⟨pos, hpos⟩ : ∃ pos, g.cells[k]?.getD 0 = pos := ⟨_, rfl⟩
  have HP := Lib.hid hpos
  have HW := Lib.hid hwe
  rw [hpos] at hx hp
  have hm := hI.mx
  have hcap := hI.cap
  unfold maxLen at hm
  rw [hwe] at hw ⊢
  clear hwe hpos hc
  have h0 : (w == 0) = false := by rw [beq_eq_false_iff_ne]; omega
  have q1 : 0 ≤ pos / w := Int.ediv_nonneg hp.1 (by omega)
  have q2 : pos / w ≤ pos := Int.ediv_le_self _ hp.1
  have q3 : 0 ≤ pos % w := Int.emod_nonneg _ (by omega)
  have q4 : pos % w < w := Int.emod_lt_of_pos _ (by omega)
  have k0 : (0 : Int) ≤ (k : Int) := by omega
  have k1 : (k : Int) < (nc : Int) := by omega
  go_enter Try.func101, Try.ntmps101
  go_wp2_with (go_quiet (fail))
  go_ret
  exact ⟨ret_int (by unfold colL; rw [HP.out, HW.out]), (by repeat (first | (with_reducible exact Below.refl _ _) | (with_reducible assumption) | (with_reducible refine below_drewN ?_ _) | ((with_reducible refine Below.setCell ?_ ?_ _); rotate_left; focus (first | (simp; done) | (simp; omega) | omega)) | ((with_reducible refine Below.alloc ?_ ?_ _); rotate_left; focus (first | (simp; done) | (simp; omega) | omega)) | (with_reducible refine Below.drew ?_)))⟩
set_option maxRecDepth 20000 in
set_option maxHeartbeats 1000000 in
theorem row_any (g : Grid) (ah ac : Option Addr) (nh ch nc cc k : Nat) (W : World) (h : CellOk g W ac nc cc k) :
    Calls Try.prog 102 #[.agg #[.int .i64 g.shape, .int .i64 g.w, .int .i64 g.h, .slice ah nh ch, .slice ac nc cc], .int .i64 k] W fun e w' => e = .returned (.int .i64 (rowL g k)) ∧ Below W.heap.size W w' := by
  obtain ⟨hI, hw, hc, hk⟩ := h
  obtain ⟨w, hwe⟩ : ∃ w, g.w = w := ⟨_, rfl⟩
  obtain ⟨b0, o0, rfl, hb0⟩ := hI.at' (by omega)
  have hx := hI.cell b0 o0 rfl k hk
  have hp := hc _ (getD_mem g.cells k (by rw [hI.len]; exact hk))
  have HO : Hid (rowL g k = rowL g k) := Lib.hid rfl
  obtain ⟨pos, hpos⟩ : ∃ pos, g.cells[k]?.getD 0 = pos := ⟨_, rfl⟩
  have HP := Lib.hid hpos
  have HW := Lib.hid hwe
  rw [hpos] at hx hp
  have hm := hI.mx
  have hcap := hI.cap
  unfold maxLen at hm
  rw [hwe] at hw ⊢
  clear hwe hpos hc
  have h0 : (w == 0) = false := by rw [beq_eq_false_iff_ne]; omega
  have q1 : 0 ≤ pos / w := Int.ediv_nonneg hp.1 (by omega)
  have q2 : pos / w ≤ pos := Int.ediv_le_self _ hp.1
  have q3 : 0 ≤ pos % w := Int.emod_nonneg _ (by omega)
  have q4 : pos % w < w := Int.emod_lt_of_pos _ (by omega)
  have k0 : (0 : Int) ≤ (k : Int) := by omega
  have k1 : (k : Int) < (nc : Int) := by omega
  go_enter Try.func102, Try.ntmps102
  go_wp2_with (go_quiet (fail))
  go_ret
  exact ⟨ret_int (by unfold rowL; rw [HP.out, HW.out]), (by repeat (first | (with_reducible exact Below.refl _ _) | (with_reducible assumption) | (with_reducible refine below_drewN ?_ _) | ((with_reducible refine Below.setCell ?_ ?_ _); rotate_left; focus (first | (simp; done) | (simp; omega) | omega)) | ((with_reducible refine Below.alloc ?_ ?_ _); rotate_left; focus (first | (simp; done) | (simp; omega) | omega)) | (with_reducible refine Below.drew ?_)))⟩
set_option maxRecDepth 20000 in
set_option maxHeartbeats 1000000 in
theorem axis_any (g : Grid) (ah ac : Option Addr) (nh ch nc cc k : Nat) (W : World) (h : CellOk g W ac nc cc k) :
    Calls Try.prog 103 #[.agg #[.int .i64 g.shape, .int .i64 g.w, .int .i64 g.h, .slice ah nh ch, .slice ac nc cc], .int .i64 k] W fun e w' => e = .returned (.int .i64 (axisL g k)) ∧ Below W.heap.size W w' := by
  have hal : Below W.heap.size W (W.alloc (.cells #[.int .i64 g.shape, .int .i64 g.w, .int .i64 g.h, .slice ah nh ch, .slice ac nc cc] 24)) := (Below.refl _ _).alloc (Nat.le_refl _) _
  have hbx := Box.new W #[.int .i64 g.shape, .int .i64 g.w, .int .i64 g.h, .slice ah nh ch, .slice ac nc cc] 24
  have hl := hbx.lt
  obtain ⟨⟨a1, a2⟩, a3, a4⟩ := h.bd
  have HO : Hid (axisL g k = colL g k - (rowL g k - rowL g k % 2) / 2) := Lib.hid rfl
  obtain ⟨c, hc⟩ : ∃ c, colL g k = c := ⟨_, rfl⟩
  obtain ⟨r, hr⟩ : ∃ r, rowL g k = r := ⟨_, rfl⟩
  rw [hc] at a1 a2 HO
  rw [hr] at a3 a4 HO
  have HC := Lib.hid hc
  have HR := Lib.hid hr
  clear hc hr
  have q5 : 0 ≤ r % 2 := by omega
  have q6 : r % 2 ≤ r := by omega
  go_enter Try.func103, Try.ntmps103
  go_wp2_with fail
  have hcall := row_any g ah ac nh ch nc cc k _ (h.below hal)
  rw [HR.out] at hcall
  refine hcall.mono ?_
  rintro e w1 ⟨rfl, hB1⟩
  obtain ⟨d0, d1, d2, d3, d4⟩ := (hbx.below hB1).g5
  have hl1 := (hbx.below hB1).lt
  clear hcall
  go_wp2_with fail
  have hcall := col_any g ah ac nh ch nc cc k _ (h.below (hal.on hB1))
  rw [HC.out] at hcall
  refine hcall.mono ?_
  rintro e w2 ⟨rfl, hB2⟩
  clear hcall
  go_wp2_with fail
  go_ret
  exact ⟨ret_int HO.out.symm, (hal.on hB1).on hB2⟩
end Go.Proofs.Ytjiacdihfbbfjaa
