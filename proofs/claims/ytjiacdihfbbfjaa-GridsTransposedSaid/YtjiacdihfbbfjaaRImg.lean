/- Contract of ref14.image. -/
import Derived.Test.YtjiacdihfbbfjaaRAt
import Derived.Test.YtjiacdihfbbfjaaRefX
import Derived.Maps.AppendAt
import Derived.WalkKit
import Derived.WalkSpells
import Derived.WalkLawsBesides
import Derived.Deep.LoopGhost
import Derived.Deep.QuietTactic
import Derived.BigQuiet
import Derived.StillTailTactics
import Derived.Lib.Hide
import Derived.Outline
import Derived.Lib.QuietBelow
namespace Go.Proofs.Ytjiacdihfbbfjaa
open Go.RowKit

def plc (g : Grid) (i : Nat) : Int × Int := placeOf g (g.cells[i]?.getD 0)
def tgt (g : Grid) (k j i : Nat) : Int :=
  atRef g ((refLin g.shape k (plc g i)).1 - (refLin g.shape k (plc g 0)).1 + (plc g j).1) ((refLin g.shape k (plc g i)).2 - (refLin g.shape k (plc g 0)).2 + (plc g j).2)
def tgts (g : Grid) (k j n : Nat) : List Int := (List.range n).map (tgt g k j)
def refImg (g : Grid) (k j : Nat) : Option (List Int) := if (tgts g k j g.cells.length).all (fun x => decide (0 ≤ x)) then some (tgts g k j g.cells.length) else none
theorem tgts_succ (g : Grid) (k j n : Nat) : tgts g k j (n + 1) = tgts g k j n ++ [tgt g k j n] := by unfold tgts; rw [List.range_succ]; simp
theorem tgts_len (g : Grid) (k j n : Nat) : (tgts g k j n).length = n := by unfold tgts; simp
theorem refImg_none {g : Grid} {k j i : Nat} (hi : i < g.cells.length) (h : tgt g k j i < 0) : refImg g k j = none := by
  unfold refImg
  rw [if_neg]
  intro ha
  have := List.all_eq_true.1 ha (tgt g k j i) (List.mem_map.2 ⟨i, List.mem_range.2 hi, rfl⟩)
  simp at this; omega
theorem refImg_some {g : Grid} {k j n : Nat} (hn : g.cells.length = n) (h : (tgts g k j n).all (fun x => decide (0 ≤ x)) = true) : refImg g k j = some (tgts g k j n) := by
  unfold refImg; rw [hn, if_pos h]
def RetImg (W : World) (o : Option (List Int)) (e : Ending) (w' : World) : Prop :=
  (o = none ∧ e = .returned (.tuple #[.slice none 0 0, .bool false]) ∧ Below W.heap.size W w') ∨ (∃ l v, o = some l ∧ e = .returned (.tuple #[v, .bool true]) ∧ OwnInts w' W.heap.size 3 v l ∧ Below W.heap.size W w')
theorem plc_bd (g : Grid) (hw : 1 ≤ g.w ∧ g.w ≤ 16) (hc : ∀ x ∈ g.cells, 0 ≤ x ∧ x < 256) {i : Nat} (hi : i < g.cells.length) : (-1000 ≤ (plc g i).1 ∧ (plc g i).1 ≤ 1000) ∧ (-1000 ≤ (plc g i).2 ∧ (plc g i).2 ≤ 1000) := by
  have h2 := hc _ (getD_mem g.cells i hi)
  unfold plc
  generalize g.cells[i]?.getD 0 = c at *
  have q1 : 0 ≤ c / g.w := Int.ediv_nonneg h2.1 (by omega)
  have q2 : c / g.w ≤ c := Int.ediv_le_self _ h2.1
  have q3 : 0 ≤ c % g.w := Int.emod_nonneg _ (by omega)
  have q4 : c % g.w < g.w := Int.emod_lt_of_pos _ (by omega)
  unfold placeOf
  split <;> simp only <;> omega
theorem place_eq (g : Grid) (ah ac : Option Addr) (nh ch nc cc k : Nat) (W : World) (hI : Ints W ac nc cc g.cells) (hw : 1 ≤ g.w ∧ g.w ≤ 16) (hc : ∀ x ∈ g.cells, 0 ≤ x ∧ x < 256) (hk : k < nc) {x y : Int} (h : plc g k = (x, y)) :
    Calls Try.prog 69 #[.agg #[.int .i64 g.shape, .int .i64 g.w, .int .i64 g.h, .slice ah nh ch, .slice ac nc cc], .int .i64 k] W fun e w' => e = .returned (.tuple #[.int .i64 x, .int .i64 y]) ∧ Below W.heap.size W w' := by
  have := place_any g ah ac nh ch nc cc k W hI hw hc hk
  unfold plc at h; rw [h] at this; exact this
theorem linear_eq (s : Int) (k : Nat) (a b : Int) (W : World) (hs : s = 1 ∨ s = 2) (hk : k < linMany s) (h1 : -1000 ≤ a ∧ a ≤ 1000) (h2 : -1000 ≤ b ∧ b ≤ 1000) {p : Int × Int} (hp : p = (a, b)) {x y : Int} (h : refLin s k p = (x, y)) :
    Calls Try.prog 93 #[.int .i64 s, .int .i64 k, .int .i64 a, .int .i64 b] W fun e w' => e = .returned (.tuple #[.int .i64 x, .int .i64 y]) ∧ w' = W := by
  subst hp
  have := linear_any s k a b W hs hk h1 h2
  rw [h] at this; exact this
theorem Box.g5 {w : World} {B : Nat} {v0 v1 v2 v3 v4 : Value} {t : TypeId} (h : Box w B #[v0, v1, v2, v3, v4] t) : w.cell? ⟨B, 0, none⟩ = some v0 ∧ w.cell? ⟨B, 1, none⟩ = some v1 ∧ w.cell? ⟨B, 2, none⟩ = some v2 ∧ w.cell? ⟨B, 3, none⟩ = some v3 ∧ w.cell? ⟨B, 4, none⟩ = some v4 :=
  ⟨by simpa using h.cell 0, by simpa using h.cell 1, by simpa using h.cell 2, by simpa using h.cell 3, by simpa using h.cell 4⟩
set_option maxRecDepth 20000 in
set_option maxHeartbeats 2000000 in
theorem image_any (g : Grid) (ah ac : Option Addr) (nh ch nc cc k j : Nat) (W : World) (hI : Ints W ac nc cc g.cells) (hs : g.shape = 1 ∨ g.shape = 2) (hw : 1 ≤ g.w ∧ g.w ≤ 16) (hh : 1 ≤ g.h ∧ g.h ≤ 16) (hc : ∀ x ∈ g.cells, 0 ≤ x ∧ x < 256) (hk : k < linMany g.shape) (hj : j < nc) (hn : nc ≤ 256) :
    Calls Try.prog 62 #[.agg #[.int .i64 g.shape, .int .i64 g.w, .int .i64 g.h, .slice ah nh ch, .slice ac nc cc], .int .i64 k, .int .i64 j] W (RetImg W (refImg g k j)) := by
  have hl := hI.len
  have b0 := plc_bd g hw hc (i := 0) (by omega)
  have bj := plc_bd g hw hc (i := j) (by omega)
  have bl := refLin_bd g.shape k hk b0 hs
  obtain ⟨x0, y0, e0⟩ : ∃ x y, plc g 0 = (x, y) := ⟨_, _, rfl⟩
  obtain ⟨a, b, el⟩ : ∃ x y, refLin g.shape k (plc g 0) = (x, y) := ⟨_, _, rfl⟩
  obtain ⟨c, d, ej⟩ : ∃ x y, plc g j = (x, y) := ⟨_, _, rfl⟩
  have HT : Hid (∀ i, tgt g k j i = atRef g ((refLin g.shape k (plc g i)).1 - a + c) ((refLin g.shape k (plc g i)).2 - b + d)) := Lib.hid fun i => by unfold tgt; rw [el, ej]
  rw [el] at bl
  rw [e0] at b0
  rw [ej] at bj
  simp only at bl b0 bj
  obtain ⟨b01, b02⟩ := b0
  obtain ⟨bj1, bj2⟩ := bj
  obtain ⟨bl1, bl2⟩ := bl
  have H0 := Lib.hid e0
  have HE := Lib.hid el
  have HJ := Lib.hid ej
  have HL := Lib.hid hl
  clear e0 el ej hl
  have hal : Below W.heap.size W (W.alloc (.cells #[.int .i64 g.shape, .int .i64 g.w, .int .i64 g.h, .slice ah nh ch, .slice ac nc cc] 24)) := (Below.refl _ _).alloc (Nat.le_refl _) _
  have hbx := Box.new W #[.int .i64 g.shape, .int .i64 g.w, .int .i64 g.h, .slice ah nh ch, .slice ac nc cc] 24
  obtain ⟨i3, hi3, hz30, hz31, hz32⟩ := info_parts info_int
  go_enter Try.func62, Try.ntmps62
  go_wp2_with fail
  refine (place_eq g ah ac nh ch nc cc 0 _ (hI.below hal) hw hc (by omega) H0.out).mono ?_
  rintro e w1 ⟨rfl, hB1⟩
  have hx1 := hbx.below hB1
  have hB1' := hal.on hB1
  obtain ⟨d0, d1, d2, d3, d4⟩ := hx1.g5
  go_wp2_with fail
  refine (linear_eq g.shape k x0 y0 _ hs hk b01 b02 H0.out HE.out).mono ?_
  rintro e w1' ⟨rfl, rfl⟩
  go_wp2_with fail
  refine (place_eq g ah ac nh ch nc cc j _ (hI.below hB1') hw hc hj HJ.out).mono ?_
  rintro e w2 ⟨rfl, hB2⟩
  have hx2 := hx1.below hB2
  have hB3 := hB1'.on hB2
  have hs3 := hB3.size
  clear d0 d1 d2 d3 d4 hx1 hB1 hB1' hB2 hal hbx
  go_wp2_with fail
  go_loopw [12, 13] (fun v i wr => ∃ n : Nat, n ≤ nc ∧ i = .int .i64 n ∧ OwnInts wr (W.heap.size + 1) 3 v (tgts g k j n) ∧ Hid ((tgts g k j n).all (fun x => decide (0 ≤ x)) = true) ∧ Box wr W.heap.size #[.int .i64 g.shape, .int .i64 g.w, .int .i64 g.h, .slice ah nh ch, .slice ac nc cc] 24 ∧ Below W.heap.size W wr) (fun _ i _ => nc - (intOf i).toNat)
  case atStart => exact ⟨0, by omega, rfl, OwnInts.made0 _ _ _ (by have := hx2.lt; omega), Lib.hid rfl, hx2.alloc _, hB3.alloc hs3 _⟩
  case round =>
    clear hx2 hB3 hs3
    obtain ⟨n, hnn, rfl, hO, HA, hx, hB⟩ := hrel
    obtain ⟨d0, d1, d2, d3, d4⟩ := hx.g5
    have hsz := hB.size
    have hlt0 := hx.lt
    by_cases hlt : n < nc
    · have bi := plc_bd g hw hc (i := n) (by rw [HL.out]; exact hlt)
      have bli := refLin_bd g.shape k hk bi hs
      obtain ⟨xi, yi, ei⟩ : ∃ x y, plc g n = (x, y) := ⟨_, _, rfl⟩
      obtain ⟨ai, bi', eli⟩ : ∃ x y, refLin g.shape k (plc g n) = (x, y) := ⟨_, _, rfl⟩
      have HTn := HT.out n
      rw [eli] at bli HTn
      rw [ei] at bi
      simp only at bli bi HTn
      obtain ⟨bi1, bi2⟩ := bi
      obtain ⟨bli1, bli2⟩ := bli
      have HI := Lib.hid ei
      have HEI := Lib.hid eli
      have HTN := Lib.hid HTn
      clear ei eli HTn
      go_wp2_with fail
      refine (place_eq g ah ac nh ch nc cc n _ (hI.below hB) hw hc hlt HI.out).mono ?_
      rintro e w4 ⟨rfl, hB4⟩
      have hx4 := hx.below hB4
      have hB5 := hB.on hB4
      have hO4 := hO.below hB4
      clear d0 d1 d2 d3 d4
      obtain ⟨d0, d1, d2, d3, d4⟩ := hx4.g5
      go_wp2_with fail
      refine (linear_eq g.shape k xi yi _ hs hk bi1 bi2 HI.out HEI.out).mono ?_
      rintro e w4' ⟨rfl, rfl⟩
      go_wp2_with fail
      refine (at_any g ah ac nh ch nc cc (ai - a + c) (bi' - b + d) _ (hI.below hB5) hw hh (by omega) (by omega)).mono ?_
      rintro e w6 ⟨rfl, hB6⟩
      rw [← HTN.out]
      have hx6 := hx4.below hB6
      have hB7 := hB5.on hB6
      have hO6 := hO4.below hB6
      have hs6 := hB6.size
      have hs4 := hB4.size
      clear d0 d1 d2 d3 d4 hx4 hB4 hB5 hB6 hx hB hO hO4
      by_cases ht : tgt g k j n < 0
      · have tt : decide (tgt g k j n < 0) = true := by simpa using ht
        have HTT := Lib.hid (refImg_none (by rw [HL.out]; exact hlt) ht)
        clear ht
        go_wp2_with fail
        go_ret2
        exact .inl ⟨HTT.out, rfl, hB7⟩
      · have tt : decide (tgt g k j n < 0) = false := by simpa using ht
        have htl := tgts_len g k j n
        have HTL := Lib.hid htl
        clear htl
        obtain ⟨q, hq⟩ : ∃ q : Nat, (tgts g k j n).length = q := ⟨_, rfl⟩
        have hqn : q ≤ 256 := by rw [← hq, HTL.out]; omega
        unfold OwnInts at hO6
        rw [hq] at hO6
        have HQ := Lib.hid hq
        clear hq
        go_wp2_with (at_builtin; refine wpList_append_own2 _ rfl _ _ 22 rfl (W.heap.size + 1) 3 i3 (.int .i64 0) 1 8 Try.underlying22 hi3 hz30 hz31 hz32 rfl (by decide) _ _ _ (hO6.alloc _) rfl ⟨_, 0, none⟩ 1 1 [.int .i64 (tgt g k j n)] rfl rfl (cell_one_new _ _ _) (by simp [Value.oneCell']) (by unfold maxLen; omega) (by omega) (by first | omega | (simp; omega)) ?_; intro v' w1 hown' hgrow hfr)
        go_roundw
        case rel =>
          refine ⟨n + 1, by omega, by go_num, ?_, Lib.hid ?_, (hx6.alloc _).grown hgrow (fun e => by have := (hO6.lt _ e).1; omega), (hB7.alloc (by omega) _).grown hgrow (by simp; omega) (fun k' e => by have := (hO6.lt k' e).1; omega)⟩
          · rw [tgts_succ]; exact OwnInts.snoc (by rw [HQ.out]; exact hown')
          · rw [tgts_succ, List.all_append, HA.out]; simp; omega
        case measure => simp [intOf]; omega
    · obtain rfl : nc = n := by omega
      go_wp2_with fail
      go_ret2
      exact .inr ⟨_, _, refImg_some HL.out HA.out, rfl, hO.mono (by omega), hB⟩
end Go.Proofs.Ytjiacdihfbbfjaa

