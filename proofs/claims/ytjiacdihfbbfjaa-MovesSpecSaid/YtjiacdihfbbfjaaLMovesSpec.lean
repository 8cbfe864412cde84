/- For every grid, valid or not, moves.Moves and moves.Is answer as the reference does (law14.MovesSpec), at every input. -/
import Derived.RegionTactic
import Derived.BigRegion
import Derived.ChangeAlike
import Derived.Test.YtjiacdihfbbfjaaSane
import Derived.Test.YtjiacdihfbbfjaaLFew
import Derived.Test.YtjiacdihfbbfjaaRowG
import Derived.Test.YtjiacdihfbbfjaaHeadF
import Derived.Test.YtjiacdihfbbfjaaMovEq2
import Derived.WalkKit
import Derived.WalkSpells
import Derived.WalkLawsBesides
import Derived.Deep.LoopGhost
import Derived.Deep.QuietTactic
import Derived.BigQuiet
import Derived.StillTailTactics
import Derived.Lib.Hide
import Derived.Outline
import Derived.Lib.QuietBelow
namespace Go.Proofs.Ytjiacdihfbbfjaa
open Go.ChangeShapes Go.WideShapes Go.ChangeAt Go.RowKit Go.Deep

/-- The first n cells are ints. -/
def IntCells (cur : Array Value) (n : Nat) : Prop := ∀ j, j < n → ∃ z : Int, cur[j]? = some (.int .i64 z)
theorem IntCells.set {cur : Array Value} {n : Nat} (h : IntCells cur n) (i : Nat) (z : Int) : IntCells (cur.setIfInBounds i (.int .i64 z)) n := by
  intro j hj
  obtain ⟨y, hy⟩ := h j hj
  by_cases e : i = j
  · subst e
    exact ⟨z, Array.getElem?_setIfInBounds_self_of_lt (Array.getElem?_eq_some_iff.1 hy).1⟩
  · exact ⟨y, by rw [Array.getElem?_setIfInBounds_ne e]; exact hy⟩
theorem ints_cells {w : World} {g n cap : Nat} {cur : Array Value} (hb : Box w g cur 3) (hc : IntCells cur n) (hn : n ≤ cap) (hm : cap ≤ maxLen) : ∃ l, Ints w (some ⟨g, 0, none⟩) n cap l := by
  obtain ⟨f, hf⟩ := choose_lt hc
  refine ⟨(List.range n).map f, by simp, hn, hm, fun _ => ⟨g, 0, rfl, hb.lt⟩, fun b o e i hi => ?_⟩
  obtain ⟨rfl, rfl⟩ : g = b ∧ 0 = o := by simpa using e
  rw [Nat.zero_add, hb.cell, hf i hi]
  simp [hi]
theorem own_box {w : World} {base : Nat} {v : Value} {n : Nat} {l : List Int} (h : w.ownsRow base 3 1 v n (l.map (Value.int .i64))) (hn : 0 < n) : ∃ g cap cur, v = .slice (some ⟨g, 0, none⟩) n cap ∧ base ≤ g ∧ Box w g cur 3 ∧ n ≤ cap ∧ cap ≤ maxLen ∧ IntCells cur n := by
  have hl := h.1
  rcases h.2 with ⟨_, h0⟩ | ⟨g, cap, cur, rfl, hg, hb, h1, h2, h3, h4⟩
  · omega
  · refine ⟨g, cap, cur, rfl, hg, hb, h1, h2, fun j hj => ?_⟩
    have e : cur.toList[j]? = (cur.toList.take (n * 1))[j]? := by rw [List.getElem?_take, if_pos (by omega)]
    rw [h4] at e
    simp only [List.length_map] at hl
    refine ⟨l[j]'(by omega), ?_⟩
    rw [← Array.getElem?_toList, e]
    simp [show j < l.length by omega]
theorem own_one {w : World} {B : Nat} {u : Value} {t : TypeId} (h : Box w B #[u] t) (base : Nat) (hb : base ≤ B) : w.ownsRow base t 1 (.slice (some ⟨B, 0, none⟩) 1 1) 1 [u] :=
  ⟨rfl, .inr ⟨B, 1, #[u], rfl, hb, h, Nat.le_refl _, by simp [maxLen], rfl, rfl⟩⟩

set_option maxRecDepth 40000 in
set_option maxHeartbeats 4000000 in
theorem lawMoves_out (g : Grid) (ah ac ap : Option Addr) (nh ch nc cc np cp : Nat) (p : List Int) (x0 x1 x2 : Int) (W : World) (h1 : Ints W ah nh ch g.holes) (h2 : Ints W ac nc cc g.cells) (h3 : Ints W ap np cp p) (hf : fewG g = false ∨ 40 < np) :
    Calls Try.prog 3 #[.agg #[.int .i64 g.shape, .int .i64 g.w, .int .i64 g.h, .slice ah nh ch, .slice ac nc cc], .slice ap np cp, .agg #[.int .u8 x0, .int .u8 x1, .int .u8 x2]] W fun e w' => e = .returned (.bool true) ∧ Below W.heap.size W w' := by
  rcases hf with hf | hf
  · have HF := Lib.hid hf
    clear hf
    have hal : Below W.heap.size W ((W.alloc (.cells #[.int .i64 g.shape, .int .i64 g.w, .int .i64 g.h, .slice ah nh ch, .slice ac nc cc] 24)).alloc (.cells #[.int .u8 x0, .int .u8 x1, .int .u8 x2] 25)) := ((Below.refl _ _).alloc (Nat.le_refl _) _).alloc (by simp) _
    have hbg := (Box.new W #[.int .i64 g.shape, .int .i64 g.w, .int .i64 g.h, .slice ah nh ch, .slice ac nc cc] 24).alloc (.cells #[.int .u8 x0, .int .u8 x1, .int .u8 x2] 25)
    have hbk := Box.new (W.alloc (.cells #[.int .i64 g.shape, .int .i64 g.w, .int .i64 g.h, .slice ah nh ch, .slice ac nc cc] 24)) #[.int .u8 x0, .int .u8 x1, .int .u8 x2] 25
    simp only [World.size_alloc] at hbk
    have hmp := h3.mx
    have hcp := h3.cap
    unfold maxLen at hmp
    go_enter Try.func3, Try.ntmps3
    go_wp2_with fail
    obtain ⟨W2, hW2⟩ : ∃ W2, (W.alloc (.cells #[.int .i64 g.shape, .int .i64 g.w, .int .i64 g.h, .slice ah nh ch, .slice ac nc cc] 24)).alloc (.cells #[.int .u8 x0, .int .u8 x1, .int .u8 x2] 25) = W2 := ⟨_, rfl⟩
    rw [hW2] at hal hbg hbk ⊢
    clear hW2
    refine (sane_any W2).mono ?_
    rintro e w1 ⟨rfl, hB1⟩
    have hg1 := hbg.below hB1
    have hk1 := hbk.below hB1
    have hB2 := hal.on hB1
    have hlk := hk1.lt
    have hs1 := hB2.size
    obtain ⟨d0, d1, d2, d3, d4⟩ := hg1.g5
    clear hbg hbk hal hB1
    go_wp2_with fail
    refine (fewG_any g ah ac nh ch nc cc w1 (h1.below hB2) (h2.below hB2)).mono ?_
    rintro e w2 ⟨rfl, hB3⟩
    rw [HF.out]
    go_wp2_with fail
    go_ret
    exact ⟨rfl, hB2.on hB3⟩
  · have tp : decide (40 < (np : Int)) = true := by simp; omega
    have tp' : decide (40 < np) = true := by simp; omega
    cases hfg : fewG g
    all_goals
      have HF := Lib.hid hfg
      clear hfg hf
      have hal : Below W.heap.size W ((W.alloc (.cells #[.int .i64 g.shape, .int .i64 g.w, .int .i64 g.h, .slice ah nh ch, .slice ac nc cc] 24)).alloc (.cells #[.int .u8 x0, .int .u8 x1, .int .u8 x2] 25)) := ((Below.refl _ _).alloc (Nat.le_refl _) _).alloc (by simp) _
      have hbg := (Box.new W #[.int .i64 g.shape, .int .i64 g.w, .int .i64 g.h, .slice ah nh ch, .slice ac nc cc] 24).alloc (.cells #[.int .u8 x0, .int .u8 x1, .int .u8 x2] 25)
      have hbk := Box.new (W.alloc (.cells #[.int .i64 g.shape, .int .i64 g.w, .int .i64 g.h, .slice ah nh ch, .slice ac nc cc] 24)) #[.int .u8 x0, .int .u8 x1, .int .u8 x2] 25
      simp only [World.size_alloc] at hbk
      have hmp := h3.mx
      have hcp := h3.cap
      unfold maxLen at hmp
      go_enter Try.func3, Try.ntmps3
      go_wp2_with fail
      obtain ⟨W2, hW2⟩ : ∃ W2, (W.alloc (.cells #[.int .i64 g.shape, .int .i64 g.w, .int .i64 g.h, .slice ah nh ch, .slice ac nc cc] 24)).alloc (.cells #[.int .u8 x0, .int .u8 x1, .int .u8 x2] 25) = W2 := ⟨_, rfl⟩
      rw [hW2] at hal hbg hbk ⊢
      clear hW2
      refine (sane_any W2).mono ?_
      rintro e w1 ⟨rfl, hB1⟩
      have hg1 := hbg.below hB1
      have hk1 := hbk.below hB1
      have hB2 := hal.on hB1
      have hlk := hk1.lt
      have hs1 := hB2.size
      obtain ⟨d0, d1, d2, d3, d4⟩ := hg1.g5
      clear hbg hbk hal hB1
      go_wp2_with fail
      refine (fewG_any g ah ac nh ch nc cc w1 (h1.below hB2) (h2.below hB2)).mono ?_
      rintro e w2 ⟨rfl, hB3⟩
      rw [HF.out]
      go_wp2_with fail
      go_ret
      exact ⟨rfl, hB2.on hB3⟩

theorem cells2 (w : World) (u v : Value) (t : TypeId) : ∀ j x, [u, v][j]? = some x → (w.alloc (.cells #[u, v] t)).cell? ((⟨w.heap.size, 0, none⟩ : Addr).add j) = some x := by
  intro j x h
  have hb := Box.new w #[u, v] t
  rw [add_plain, Nat.zero_add, hb.cell, ← h]
  simp
theorem own_rows {w : World} {base : Nat} {v : Value} {n : Nat} {us : List Value} (h : w.ownsRow base 22 1 v n us) (hn : 0 < n) : ∃ g cap, v = .slice (some ⟨g, 0, none⟩) n cap ∧ n ≤ cap ∧ cap ≤ maxLen ∧ g < w.heap.size ∧ ∀ i, i < n → w.cell? ⟨g, i, none⟩ = us[i]? := by
  have hc := h
  rcases h.2 with ⟨_, h0⟩ | ⟨g, cap, cur, rfl, _, hg, h1, h2, _⟩
  · omega
  · exact ⟨g, cap, rfl, h1, h2, (Array.getElem?_eq_some_iff.1 hg).1, fun i hi => hc.cellAt i (by omega)⟩
set_option maxRecDepth 40000 in
set_option maxHeartbeats 4000000 in
theorem lawMoves_in (g : Grid) (ah ac ap : Option Addr) (nh ch nc cc np cp : Nat) (p : List Int) (x0 x1 x2 : Int) (W : World) (h1 : Ints W ah nh ch g.holes) (h2 : Ints W ac nc cc g.cells) (h3 : Ints W ap np cp p) (hfg : fewG g = true) (hp : np ≤ 40)
    (hx0 : 0 ≤ x0 ∧ x0 ≤ 255) (hx1 : 0 ≤ x1 ∧ x1 ≤ 255) (hx2 : 0 ≤ x2 ∧ x2 ≤ 255) :
    Calls Try.prog 3 #[.agg #[.int .i64 g.shape, .int .i64 g.w, .int .i64 g.h, .slice ah nh ch, .slice ac nc cc], .slice ap np cp, .agg #[.int .u8 x0, .int .u8 x1, .int .u8 x2]] W fun e w' => e = .returned (.bool true) ∧ Below W.heap.size W w' := by
  have hfw : nc ≤ 30 ∧ nh ≤ 256 := by
    have h := hfg
    unfold fewG at h
    simp only [Bool.and_eq_true, decide_eq_true_eq] at h
    rw [← h1.len, ← h2.len]; exact h
  have HF := Lib.hid hfg
  clear hfg
  have tp : decide (40 < (np : Int)) = false := by simp; omega
  have tp' : decide (40 < np) = false := by simp; omega
  have hal : Below W.heap.size W ((W.alloc (.cells #[.int .i64 g.shape, .int .i64 g.w, .int .i64 g.h, .slice ah nh ch, .slice ac nc cc] 24)).alloc (.cells #[.int .u8 x0, .int .u8 x1, .int .u8 x2] 25)) := ((Below.refl _ _).alloc (Nat.le_refl _) _).alloc (by simp) _
  have hbg := (Box.new W #[.int .i64 g.shape, .int .i64 g.w, .int .i64 g.h, .slice ah nh ch, .slice ac nc cc] 24).alloc (.cells #[.int .u8 x0, .int .u8 x1, .int .u8 x2] 25)
  have hbk := Box.new (W.alloc (.cells #[.int .i64 g.shape, .int .i64 g.w, .int .i64 g.h, .slice ah nh ch, .slice ac nc cc] 24)) #[.int .u8 x0, .int .u8 x1, .int .u8 x2] 25
  simp only [World.size_alloc] at hbk
  have hmp := h3.mx
  have hcp := h3.cap
  unfold maxLen at hmp
  go_enter Try.func3, Try.ntmps3
  go_wp2_with fail
  obtain ⟨W2, hW2⟩ : ∃ W2, (W.alloc (.cells #[.int .i64 g.shape, .int .i64 g.w, .int .i64 g.h, .slice ah nh ch, .slice ac nc cc] 24)).alloc (.cells #[.int .u8 x0, .int .u8 x1, .int .u8 x2] 25) = W2 := ⟨_, rfl⟩
  rw [hW2] at hal hbg hbk ⊢
  clear hW2
  refine (sane_any W2).mono ?_
  rintro e w1 ⟨rfl, hB1⟩
  have hg1 := hbg.below hB1
  have hk1 := hbk.below hB1
  have hB2 := hal.on hB1
  have hlk := hk1.lt
  have hs1 := hB2.size
  obtain ⟨d0, d1, d2, d3, d4⟩ := hg1.g5
  clear hbg hbk hal hB1
  go_wp2_with fail
  refine (fewG_any g ah ac nh ch nc cc w1 (h1.below hB2) (h2.below hB2)).mono ?_
  rintro e w2 ⟨rfl, hB3⟩
  rw [HF.out]
  have hB4 := hB2.on hB3
  have hg2 := hg1.below hB3
  have hk2 := hk1.below hB3
  clear d0 d1 d2 d3 d4 hg1 hk1 hB2 hB3 hlk hs1
  obtain ⟨d0, d1, d2, d3, d4⟩ := hg2.g5
  obtain ⟨E, hE⟩ : ∃ E, checkErr g = E := ⟨_, rfl⟩
  obtain ⟨ll, hll⟩ : ∃ ll, movesOut g = ll := ⟨_, rfl⟩
  have hm1 := moves_any g ah ac nh ch nc cc w2 (h1.below hB4) (h2.below hB4) (by omega) (by omega)
  rw [hE, hll] at hm1
  have HM1 := Lib.hid hm1
  have HE := Lib.hid hE
  have HLL := Lib.hid hll
  clear hm1 hE hll
  go_wp2_with fail
  refine HM1.out.mono ?_
  rintro e w3 ⟨v3, rfl, hO3, hB5⟩
  obtain ⟨a3, c3, rfl, hR3⟩ := hO3.rows
  have hg3 := hg2.below hB5
  have hk3 := hk2.below hB5
  have hB6 := hB4.on hB5
  clear d0 d1 d2 d3 d4 hg2 hk2 hO3 hB5 hB4 HM1
  obtain ⟨d0, d1, d2, d3, d4⟩ := hg3.g5
  have hm2 := refMoves_any g ah ac nh ch nc cc w3 (h1.below hB6) (h2.below hB6) (by omega) (by omega)
  rw [← movesOut_eq, HE.out, HLL.out] at hm2
  have HM2 := Lib.hid hm2
  clear hm2
  go_wp2_with fail
  refine HM2.out.mono ?_
  rintro e w4 ⟨v4, rfl, hO4, hB7⟩
  obtain ⟨a4, c4, rfl, hR4⟩ := hO4.rows
  have hg4 := hg3.below hB7
  have hk4 := hk3.below hB7
  have hB8 := hB6.on hB7
  have hR3' := hR3.below hB7
  clear d0 d1 d2 d3 d4 hg3 hk3 hO4 hB7 hB6 HM2 hR3
  obtain ⟨d0, d1, d2, d3, d4⟩ := hg4.g5
  go_wp2_with fail
  refine (same_lit hR3' hR4 rfl).mono ?_
  rintro e w5' ⟨rfl, q, rfl⟩
  have te : (E != E) = false := by simp
  have hB9 := below_drewN hB8 q
  have hg5 := hg4.drewN q
  have hk5 := hk4.drewN q
  have hR5 := hR4.drewN q
  clear d0 d1 d2 d3 d4 hg4 hk4 hB8 hR3' hR4
  obtain ⟨w5, hw5⟩ : ∃ w5, w4.drewN q = w5 := ⟨_, rfl⟩
  rw [hw5] at hB9 hg5 hk5 hR5 ⊢
  clear hw5
  obtain ⟨K, hK⟩ : ∃ K, ll.length = K := ⟨_, rfl⟩
  rw [hK] at hR5 ⊢
  have HK := Lib.hid hK
  clear hK
  obtain ⟨d0, d1, d2, d3, d4⟩ := hg5.g5
  have hs5 := hB9.size
  have hgl := hg5.lt
  have hmK := hR5.mx
  have hcK := hR5.cap
  unfold maxLen at hmK
  by_cases hK0 : K = 0
  · subst hK0
    have hRL := rows1 (Box.new w5 #[.slice ap np cp] 22) (h3.below (hB9.alloc hs5 (.cells #[.slice ap np cp] 22)))
    have hgL := hg5.alloc (.cells #[.slice ap np cp] 22)
    have hBL := hB9.alloc hs5 (.cells #[.slice ap np cp] 22)
    have hbL : w5.heap.size < (w5.alloc (.cells #[.slice ap np cp] 22)).heap.size := by simp
    go_wp2_with fail
    obtain ⟨wL, hwL⟩ : ∃ wL, w5.alloc (.cells #[.slice ap np cp] 22) = wL := ⟨_, rfl⟩
    rw [hwL] at hRL hgL hBL hbL ⊢
    clear hwL d0 d1 d2 d3 d4 hB9 hg5 hk5 hR5
    go_loopw [101] (fun c wr => ∃ k : Nat, k ≤ 1 ∧ c = .int .i64 k ∧ Below wL.heap.size wL wr) (fun c _ => 1 - (intOf c).toNat)
    case atStart => exact ⟨0, by omega, rfl, Below.refl _ _⟩
    case round =>
      obtain ⟨k, hk, rfl, hBl⟩ := hrel
      have hBw := hBL.on hBl
      by_cases hlt : k < 1
      · obtain ⟨ai, ni, ci, e0', hI⟩ := hRL.row w5.heap.size 0 rfl k hlt
        rw [Nat.zero_add] at e0'
        have e0 := (hBl.cell (p := ⟨w5.heap.size, k, none⟩) hbL).trans e0'
        have hgr := hgL.below hBl
        obtain ⟨d0, d1, d2, d3, d4⟩ := hgr.g5
        have tk : decide ((k : Int) < 1) = true := by simp; omega
        obtain ⟨l, hl⟩ : ∃ l, ([p])[k]?.getD [] = l := ⟨_, rfl⟩
        rw [hl] at hI
        clear hl
        have hc1 := is_any g ah ac ai nh ch nc cc ni ci l wr (h1.below hBw) (h2.below hBw) (hI.below hBl) (by omega) (by omega)
        have hio : isOut g l = hasL ll l := by unfold isOut; rw [HLL.out]
        rw [hio, HE.out] at hc1
        have HC1 := Lib.hid hc1
        clear hc1 hio
        go_wp2_with fail
        refine HC1.out.mono ?_
        rintro e wz ⟨rfl, hBz⟩
        have hgz := hgr.below hBz
        clear d0 d1 d2 d3 d4
        obtain ⟨d0, d1, d2, d3, d4⟩ := hgz.g5
        have hc2 := refIs_any g ah ac ai nh ch nc cc ni ci l wz ((h1.below hBw).below hBz) ((h2.below hBw).below hBz) ((hI.below hBl).below hBz) (by omega) (by omega)
        rw [← movesOut_eq, HLL.out, HE.out] at hc2
        have HC2 := Lib.hid hc2
        clear hc2
        go_wp2_with fail
        refine HC2.out.mono ?_
        rintro e wy ⟨rfl, hBy⟩
        have tb : (hasL ll l != hasL ll l) = false := by simp
        have te2 : (E != E) = false := by simp
        go_wp2_with fail
        go_roundw
        case rel => exact ⟨k + 1, by omega, by go_num, (hBl.on hBz).on hBy⟩
        case measure => simp [intOf]; omega
      · obtain rfl : k = 1 := by omega
        go_wp2_with fail
        go_ret
        exact ⟨rfl, hBw⟩
  · have hK1 : 0 < K := by omega
    have tz : ((K : Int) == 0) = false := by simp; omega
    have tg : decide (0 < (K : Int)) = true := by simp; omega
    obtain ⟨ix, hix⟩ : ∃ ix : Nat, x0 % (K : Int) = (ix : Int) := ⟨(x0 % (K : Int)).toNat, by have := Int.emod_nonneg x0 (show (K : Int) ≠ 0 by omega); omega⟩
    have hixK : ix < K := by have := Int.emod_lt_of_pos x0 (show (0 : Int) < K by omega); omega
    obtain ⟨b4, o4, rfl, hb4⟩ := hR5.at' hK1
    obtain ⟨am, nm, cm, e6, hIm⟩ := hR5.row b4 o4 rfl ix hixK
    have hnm : nm = nc := by
      have hmem : ll[ix]?.getD [] ∈ ll := by rw [List.getElem?_eq_getElem (by rw [HK.out]; exact hixK)]; exact List.getElem_mem _
      rw [← hIm.len, ← h2.len]
      have h := HLL.out
      unfold movesOut at h
      split at h
      · rename_i he
        rcases checkErr_cases g with ⟨_, hv⟩ | ⟨he', _⟩
        · rw [← h] at hmem
          obtain ⟨_, _, _, hm⟩ := (mem_movesL hv _).1 hmem
          rw [← h]; exact hm.1
        · omega
      · rw [← h] at hmem; simp at hmem
    have hnm' := hnm.symm
    subst hnm'
    have hnp : 0 < nc := by
      have h := HLL.out
      unfold movesOut at h
      split at h
      · rename_i he
        rcases checkErr_cases g with ⟨_, hv⟩ | ⟨he', _⟩
        · rw [← h2.len]; exact hv.pos
        · omega
      · have := HK.out; rw [← h] at this; simp at this; omega
    obtain ⟨bm, om, rfl, hbm⟩ := hIm.at' hnp
    obtain ⟨lm, hlm⟩ : ∃ lm, ll[ix]?.getD [] = lm := ⟨_, rfl⟩
    rw [hlm] at hIm
    clear hlm
    have hlml := hIm.len
    obtain ⟨i3, hi3, hz30, hz31, hz32⟩ := info_parts info_int
    have hal6 : Below w5.heap.size w5 (w5.alloc (.cells #[.slice ap np cp] 22)) := (Below.refl _ _).alloc (Nat.le_refl _) _
    have hal7 : Below w5.heap.size w5 ((w5.alloc (.cells #[.slice ap np cp] 22)).alloc (.cells #[] 3)) := hal6.alloc (by simp) _
    have hmc := hIm.mx
    have hmc2 := hIm.cap
    unfold maxLen at hmc
    have hown0 := World.ownsRow_made (base := w5.heap.size + 1) (e := 3) (size := 1) (w5.alloc (.cells #[.slice ap np cp] 22)) #[] 0 (by simp) (by simp [maxLen]) rfl
    simp only [World.size_alloc] at hown0
    have hnews : Hid (∀ j u, (lm.map (Value.int .i64))[j]? = some u → ((w5.alloc (.cells #[.slice ap np cp] 22)).alloc (.cells #[] 3)).cell? ((⟨bm, om, none⟩ : Addr).add j) = some u) := Lib.hid fun j u hj => by
      have hjl : j < lm.length := by simpa using (List.getElem?_eq_some_iff.1 hj).1
      rw [add_plain, hal7.cell (p := ⟨bm, om + j, none⟩) hbm, hIm.cell bm om rfl j (by omega), ← hj]
      simp [hjl]
    have HML := Lib.hid hlml
    have kb0 : w5.cell? ⟨W.heap.size + 1, 0, none⟩ = some (.int .u8 x0) := by simpa using hk5.cell 0
    have hkl := hk5.lt
    clear hlml d3
    go_wp2_with (at_builtin; refine wpList_append_own2 _ rfl _ _ 22 rfl (w5.heap.size + 1) 3 i3 (.int .i64 0) 1 8 Try.underlying22 hi3 hz30 hz31 hz32 rfl (by decide) _ _ _ hown0 rfl ⟨bm, om, none⟩ nc cm (lm.map (Value.int .i64)) rfl (by simp; exact HML.out) hnews.out (by simp [Value.oneCell']) (by unfold maxLen; omega) (by omega) (by simp) ?_; intro v' w8 hown8 hgrow8 hfr8)
    simp only [Nat.zero_add, List.nil_append] at hown8
    obtain ⟨gt, cap, cur, rfl, hgt, hbt, hnc, hcm, hic⟩ := own_box hown8 hnp
    have hB58 : Below w5.heap.size w5 w8 := hal7.grown hgrow8 (by simp; omega) (fun k e => by simp [Value.ownBlock] at e; omega)
    have hlb8 : Box w8 w5.heap.size #[.slice ap np cp] 22 := Box.grown ((Box.new w5 #[.slice ap np cp] 22).alloc (.cells #[] 3)) hgrow8 (by simp [Value.ownBlock])
    have hg8 := hg5.below hB58
    have hk8 := hk5.below hB58
    have hB89 := hB9.on hB58
    have hI8 := hIm.below hB58
    have hp8 := h3.below hB89
    have k81 : w8.cell? ⟨W.heap.size + 1, 1, none⟩ = some (.int .u8 x1) := by simpa using hk8.cell 1
    have k82 : w8.cell? ⟨W.heap.size + 1, 2, none⟩ = some (.int .u8 x2) := by simpa using hk8.cell 2
    have tz1 : ((nc : Int) == 0) = false := by simp; omega
    obtain ⟨i1, hi1⟩ : ∃ i1 : Nat, x1 % (nc : Int) = (i1 : Int) := ⟨(x1 % (nc : Int)).toNat, by have := Int.emod_nonneg x1 (show (nc : Int) ≠ 0 by omega); omega⟩
    obtain ⟨i2, hi2⟩ : ∃ i2 : Nat, x2 % (nc : Int) = (i2 : Int) := ⟨(x2 % (nc : Int)).toNat, by have := Int.emod_nonneg x2 (show (nc : Int) ≠ 0 by omega); omega⟩
    have b1 : i1 < nc := by have := Int.emod_lt_of_pos x1 (show (0 : Int) < nc by omega); omega
    have b2 : i2 < nc := by have := Int.emod_lt_of_pos x2 (show (0 : Int) < nc by omega); omega
    have hj1 : x1.tmod (nc : Int) = (i1 : Int) := by rw [Int.tmod_eq_emod_of_nonneg hx1.1]; exact hi1
    have hj2 : x2.tmod (nc : Int) = (i2 : Int) := by rw [Int.tmod_eq_emod_of_nonneg hx2.1]; exact hi2
    have hln8 := hown8.lt gt rfl
    clear kb0 d0 d1 d2 d4 hgrow8 hfr8 hown0 hnews e6 hal7 hal6 hix hR5 hI8 hg8 hk8 hB89 hp8
    go_wp2_with (go_quiet (fail))
    obtain ⟨z1, hz1⟩ := hic i1 b1
    obtain ⟨z2, hz2⟩ := hic i2 b2
    have c1 := hbt.cell i1
    have c2 := hbt.cell i2
    rw [hz1] at c1
    rw [hz2] at c2
    have f1 := hbt.frozen i1
    have f2 := hbt.frozen i2
    have q1 : (i1 : Int) < (nc : Int) := by omega
    have q2 : (i2 : Int) < (nc : Int) := by omega
    clear hz1 hz2 k81 k82 hi1 hi2 hj1 hj2
    by_cases e12 : i1 = i2
    · subst e12
      go_region
      obtain ⟨wT, hwT⟩ : ∃ wT, ((w8.drewN (nq + 1)).setCell ⟨gt, i1, none⟩ (.int .i64 z1)).setCell ⟨gt, i1, none⟩ (.int .i64 z1) = wT := ⟨_, rfl⟩
      have hbT : Box wT gt ((cur.setIfInBounds i1 (.int .i64 z1)).setIfInBounds i1 (.int .i64 z1)) 3 := by rw [← hwT]; exact ((hbt.drewN (nq + 1)).set i1 _).set i1 _
      have hicT := (hic.set i1 z1).set i1 z1
      have hlT : Box wT w5.heap.size #[.slice ap np cp] 22 := by rw [← hwT]; exact (((hlb8.drewN (nq + 1)).setOther _ (by simp; omega)).setOther _ (by simp; omega))
      have hB5T : Below w5.heap.size w5 wT := by rw [← hwT]; exact ((below_drewN hB58 (nq + 1)).setCell (p := ⟨gt, i1, none⟩) (by simp; omega) _).setCell (p := ⟨gt, i1, none⟩) (by simp; omega) _
      rw [hwT]
      clear hwT c1 c2 f1 f2 hbt hlb8 hB58 hown8
      obtain ⟨lt, hIt⟩ := ints_cells hbT hicT hnc hcm
      have hpT := h3.below (hB9.on hB5T)
      have hmT := hIm.below hB5T
      have hgT := hg5.below hB5T
      have hBT := hB9.on hB5T
      have hsT := hBT.size
      have hs5T := hB5T.size
      have hgtl := hbT.lt
      have hownT := own_one hlT w5.heap.size (Nat.le_refl _)
      obtain ⟨i22, hi22, hz220, hz221, hz222⟩ := info_parts info_ints
      go_wp2_with (at_builtin; refine wpList_append_own2 _ rfl _ _ 28 rfl w5.heap.size 22 i22 (.slice none 0 0) 1 24 Try.underlying28 hi22 hz220 hz221 hz222 rfl (by decide) _ _ _ (hownT.alloc _) rfl ⟨_, 0, none⟩ 2 2 [.slice (some ⟨bm, om, none⟩) nc cm, .slice (some ⟨gt, 0, none⟩) nc cap] rfl rfl (cells2 _ _ _ _) (by simp [Value.oneCell']) (by unfold maxLen; omega) (by omega) (by simp; omega) ?_; intro v' wL hownL hgrowL hfrL; obtain ⟨gL, capL, rfl, hnL, hcL, hbL, hcellL⟩ := own_rows hownL (by omega))
      have halT : Below wT.heap.size wT (wT.alloc (.cells #[.slice (some ⟨bm, om, none⟩) nc cm, .slice (some ⟨gt, 0, none⟩) nc cap] 22)) := (Below.refl _ _).alloc (Nat.le_refl _) _
      have hpL := (hpT.below halT).grown hgrowL (fun hn e => by obtain ⟨b, o, rfl, hb⟩ := h3.at' hn; simp [Value.ownBlock] at e; omega)
      have hmL := (hmT.below halT).grown hgrowL (fun _ e => by simp [Value.ownBlock] at e; omega)
      have htL := (hIt.below halT).grown hgrowL (fun _ e => by simp [Value.ownBlock] at e; omega)
      have hgL := (hgT.below halT).grown hgrowL (fun e => by simp [Value.ownBlock] at e; omega)
      have hBL : Below W.heap.size W wL := (hBT.on halT).grown hgrowL (by simp; omega) (fun k e => by simp [Value.ownBlock] at e; omega)
      have hRL : Rows wL (some ⟨gL, 0, none⟩) 3 capL [p, lm, lt] := by
        refine ⟨rfl, hnL, hcL, fun _ => ⟨gL, 0, rfl, hbL⟩, fun b o e i hi => ?_⟩
        obtain ⟨rfl, rfl⟩ : gL = b ∧ 0 = o := by simpa using e
        rw [Nat.zero_add]
        obtain rfl | rfl | rfl : i = 0 ∨ i = 1 ∨ i = 2 := by omega
        · exact ⟨_, _, _, hcellL 0 (by omega), hpL⟩
        · exact ⟨_, _, _, hcellL 1 (by omega), hmL⟩
        · exact ⟨_, _, _, hcellL 2 (by omega), htL⟩
      clear hpL hmL htL hpT hmT hgT hIt hbT hicT hlT hB5T hownT hownL hgrowL hfrL hcellL hBT halT hB9 hg5 hk5 hic
      go_loopw [101] (fun c wr => ∃ k : Nat, k ≤ 3 ∧ c = .int .i64 k ∧ Below wL.heap.size wL wr) (fun c _ => 3 - (intOf c).toNat)
      case atStart => exact ⟨0, by omega, rfl, Below.refl _ _⟩
      case round =>
        obtain ⟨k, hk, rfl, hBl⟩ := hrel
        have hBw := hBL.on hBl
        by_cases hlt : k < 3
        · obtain ⟨ai, ni, ci, e0', hI⟩ := hRL.row gL 0 rfl k hlt
          rw [Nat.zero_add] at e0'
          have e0 := (hBl.cell (p := ⟨gL, k, none⟩) hbL).trans e0'
          have hgr := hgL.below hBl
          obtain ⟨d0, d1, d2, d3, d4⟩ := hgr.g5
          have tk : decide ((k : Int) < 3) = true := by simp; omega
          obtain ⟨l, hl⟩ : ∃ l, ([p, lm, lt])[k]?.getD [] = l := ⟨_, rfl⟩
          rw [hl] at hI
          clear hl
          have hc1 := is_any g ah ac ai nh ch nc cc ni ci l wr (h1.below hBw) (h2.below hBw) (hI.below hBl) (by omega) (by omega)
          have hio : isOut g l = hasL ll l := by unfold isOut; rw [HLL.out]
          rw [hio, HE.out] at hc1
          have HC1 := Lib.hid hc1
          clear hc1 hio
          go_wp2_with fail
          refine HC1.out.mono ?_
          rintro e wz ⟨rfl, hBz⟩
          have hgz := hgr.below hBz
          clear d0 d1 d2 d3 d4
          obtain ⟨d0, d1, d2, d3, d4⟩ := hgz.g5
          have hc2 := refIs_any g ah ac ai nh ch nc cc ni ci l wz ((h1.below hBw).below hBz) ((h2.below hBw).below hBz) ((hI.below hBl).below hBz) (by omega) (by omega)
          rw [← movesOut_eq, HLL.out, HE.out] at hc2
          have HC2 := Lib.hid hc2
          clear hc2
          go_wp2_with fail
          refine HC2.out.mono ?_
          rintro e wy ⟨rfl, hBy⟩
          have tb : (hasL ll l != hasL ll l) = false := by simp
          have te2 : (E != E) = false := by simp
          go_wp2_with fail
          go_roundw
          case rel => exact ⟨k + 1, by omega, by go_num, (hBl.on hBz).on hBy⟩
          case measure => simp [intOf]; omega
        · obtain rfl : k = 3 := by omega
          go_wp2_with fail
          go_ret
          exact ⟨rfl, hBw⟩
    · go_region
      obtain ⟨wT, hwT⟩ : ∃ wT, ((w8.drewN (nq + 1)).setCell ⟨gt, i1, none⟩ (.int .i64 z2)).setCell ⟨gt, i2, none⟩ (.int .i64 z1) = wT := ⟨_, rfl⟩
      have hbT : Box wT gt ((cur.setIfInBounds i1 (.int .i64 z2)).setIfInBounds i2 (.int .i64 z1)) 3 := by rw [← hwT]; exact ((hbt.drewN (nq + 1)).set i1 _).set i2 _
      have hicT := (hic.set i1 z2).set i2 z1
      have hlT : Box wT w5.heap.size #[.slice ap np cp] 22 := by rw [← hwT]; exact (((hlb8.drewN (nq + 1)).setOther _ (by simp; omega)).setOther _ (by simp; omega))
      have hB5T : Below w5.heap.size w5 wT := by rw [← hwT]; exact ((below_drewN hB58 (nq + 1)).setCell (p := ⟨gt, i1, none⟩) (by simp; omega) _).setCell (p := ⟨gt, i2, none⟩) (by simp; omega) _
      rw [hwT]
      clear hwT c1 c2 f1 f2 hbt hlb8 hB58 hown8
      obtain ⟨lt, hIt⟩ := ints_cells hbT hicT hnc hcm
      have hpT := h3.below (hB9.on hB5T)
      have hmT := hIm.below hB5T
      have hgT := hg5.below hB5T
      have hBT := hB9.on hB5T
      have hsT := hBT.size
      have hs5T := hB5T.size
      have hgtl := hbT.lt
      have hownT := own_one hlT w5.heap.size (Nat.le_refl _)
      obtain ⟨i22, hi22, hz220, hz221, hz222⟩ := info_parts info_ints
      go_wp2_with (at_builtin; refine wpList_append_own2 _ rfl _ _ 28 rfl w5.heap.size 22 i22 (.slice none 0 0) 1 24 Try.underlying28 hi22 hz220 hz221 hz222 rfl (by decide) _ _ _ (hownT.alloc _) rfl ⟨_, 0, none⟩ 2 2 [.slice (some ⟨bm, om, none⟩) nc cm, .slice (some ⟨gt, 0, none⟩) nc cap] rfl rfl (cells2 _ _ _ _) (by simp [Value.oneCell']) (by unfold maxLen; omega) (by omega) (by simp; omega) ?_; intro v' wL hownL hgrowL hfrL; obtain ⟨gL, capL, rfl, hnL, hcL, hbL, hcellL⟩ := own_rows hownL (by omega))
      have halT : Below wT.heap.size wT (wT.alloc (.cells #[.slice (some ⟨bm, om, none⟩) nc cm, .slice (some ⟨gt, 0, none⟩) nc cap] 22)) := (Below.refl _ _).alloc (Nat.le_refl _) _
      have hpL := (hpT.below halT).grown hgrowL (fun hn e => by obtain ⟨b, o, rfl, hb⟩ := h3.at' hn; simp [Value.ownBlock] at e; omega)
      have hmL := (hmT.below halT).grown hgrowL (fun _ e => by simp [Value.ownBlock] at e; omega)
      have htL := (hIt.below halT).grown hgrowL (fun _ e => by simp [Value.ownBlock] at e; omega)
      have hgL := (hgT.below halT).grown hgrowL (fun e => by simp [Value.ownBlock] at e; omega)
      have hBL : Below W.heap.size W wL := (hBT.on halT).grown hgrowL (by simp; omega) (fun k e => by simp [Value.ownBlock] at e; omega)
      have hRL : Rows wL (some ⟨gL, 0, none⟩) 3 capL [p, lm, lt] := by
        refine ⟨rfl, hnL, hcL, fun _ => ⟨gL, 0, rfl, hbL⟩, fun b o e i hi => ?_⟩
        obtain ⟨rfl, rfl⟩ : gL = b ∧ 0 = o := by simpa using e
        rw [Nat.zero_add]
        obtain rfl | rfl | rfl : i = 0 ∨ i = 1 ∨ i = 2 := by omega
        · exact ⟨_, _, _, hcellL 0 (by omega), hpL⟩
        · exact ⟨_, _, _, hcellL 1 (by omega), hmL⟩
        · exact ⟨_, _, _, hcellL 2 (by omega), htL⟩
      clear hpL hmL htL hpT hmT hgT hIt hbT hicT hlT hB5T hownT hownL hgrowL hfrL hcellL hBT halT hB9 hg5 hk5 hic
      go_loopw [101] (fun c wr => ∃ k : Nat, k ≤ 3 ∧ c = .int .i64 k ∧ Below wL.heap.size wL wr) (fun c _ => 3 - (intOf c).toNat)
      case atStart => exact ⟨0, by omega, rfl, Below.refl _ _⟩
      case round =>
        obtain ⟨k, hk, rfl, hBl⟩ := hrel
        have hBw := hBL.on hBl
        by_cases hlt : k < 3
        · obtain ⟨ai, ni, ci, e0', hI⟩ := hRL.row gL 0 rfl k hlt
          rw [Nat.zero_add] at e0'
          have e0 := (hBl.cell (p := ⟨gL, k, none⟩) hbL).trans e0'
          have hgr := hgL.below hBl
          obtain ⟨d0, d1, d2, d3, d4⟩ := hgr.g5
          have tk : decide ((k : Int) < 3) = true := by simp; omega
          obtain ⟨l, hl⟩ : ∃ l, ([p, lm, lt])[k]?.getD [] = l := ⟨_, rfl⟩
          rw [hl] at hI
          clear hl
          have hc1 := is_any g ah ac ai nh ch nc cc ni ci l wr (h1.below hBw) (h2.below hBw) (hI.below hBl) (by omega) (by omega)
          have hio : isOut g l = hasL ll l := by unfold isOut; rw [HLL.out]
          rw [hio, HE.out] at hc1
          have HC1 := Lib.hid hc1
          clear hc1 hio
          go_wp2_with fail
          refine HC1.out.mono ?_
          rintro e wz ⟨rfl, hBz⟩
          have hgz := hgr.below hBz
          clear d0 d1 d2 d3 d4
          obtain ⟨d0, d1, d2, d3, d4⟩ := hgz.g5
          have hc2 := refIs_any g ah ac ai nh ch nc cc ni ci l wz ((h1.below hBw).below hBz) ((h2.below hBw).below hBz) ((hI.below hBl).below hBz) (by omega) (by omega)
          rw [← movesOut_eq, HLL.out, HE.out] at hc2
          have HC2 := Lib.hid hc2
          clear hc2
          go_wp2_with fail
          refine HC2.out.mono ?_
          rintro e wy ⟨rfl, hBy⟩
          have tb : (hasL ll l != hasL ll l) = false := by simp
          have te2 : (E != E) = false := by simp
          go_wp2_with fail
          go_roundw
          case rel => exact ⟨k + 1, by omega, by go_num, (hBl.on hBz).on hBy⟩
          case measure => simp [intOf]; omega
        · obtain rfl : k = 3 := by omega
          go_wp2_with fail
          go_ret
          exact ⟨rfl, hBw⟩

theorem lawMoves_any (g : Grid) (ah ac ap : Option Addr) (nh ch nc cc np cp : Nat) (p : List Int) (x0 x1 x2 : Int) (W : World) (h1 : Ints W ah nh ch g.holes) (h2 : Ints W ac nc cc g.cells) (h3 : Ints W ap np cp p)
    (hx0 : 0 ≤ x0 ∧ x0 ≤ 255) (hx1 : 0 ≤ x1 ∧ x1 ≤ 255) (hx2 : 0 ≤ x2 ∧ x2 ≤ 255) :
    Calls Try.prog 3 #[.agg #[.int .i64 g.shape, .int .i64 g.w, .int .i64 g.h, .slice ah nh ch, .slice ac nc cc], .slice ap np cp, .agg #[.int .u8 x0, .int .u8 x1, .int .u8 x2]] W fun e w' => e = .returned (.bool true) ∧ Below W.heap.size W w' := by
  cases hf : fewG g
  · exact lawMoves_out g ah ac ap nh ch nc cc np cp p x0 x1 x2 W h1 h2 h3 (.inl hf)
  · by_cases hp : 40 < np
    · exact lawMoves_out g ah ac ap nh ch nc cc np cp p x0 x1 x2 W h1 h2 h3 (.inr hp)
    · exact lawMoves_in g ah ac ap nh ch nc cc np cp p x0 x1 x2 W h1 h2 h3 hf (by omega) hx0 hx1 hx2

set_option maxRecDepth 100000 in
set_option maxHeartbeats 2000000 in
theorem movesSpec_lifted (os : Os) (started : os.Started) (H : Type) (enc : TypeId × Value → H) :
    ReturnsInHanded {} Try.checked os 3 .any (Rows.movesSpecSpec.pre6 enc Try.prog Try.f3 Rows.movesSpecRow.domain false) (Rows.movesSpecSpec.post enc Try.prog Try.f3 false true false false) := by
  refine returnsInHanded_of_change (C := Try.checked) row_own started (by kernel_rfl) Try.func3
    (ChangeSpec.witness6 (enc := enc) (C := Try.checked) false ⟨#[], #[.agg #[.int .i64 0, .int .i64 0, .int .i64 0, .slice none 0 0, .slice none 0 0], .slice none 0 0, .agg #[.int .u8 0, .int .u8 0, .int .u8 0]], []⟩ 8 (by kernel_rfl) (by kernel_rfl) (by kernel_rfl) (by kernel_rfl)) ?_
  intro W base args ds gs before hval0 hW _ _
  have hval : ∀ (j : Nat) t v, Try.f3.params[j]? = some t → args[j]? = some v → Value.okWide Try.prog W .any base t v := hval0
  have hW' := hW
  obtain ⟨p, q, hA0, hV, rfl, _, _⟩ := hW
  have hA : DataW.TrodAll enc Try.prog W 0 (fun _ => true) true Try.f3.params.toList args.toList ds p := hA0
  rw [Try.params3] at hA hval
  obtain ⟨v0, v1, v2, d0, d1, d2, p0, p1, p2, rfl, rfl, rfl, h0, h1, h2⟩ := trodAll_three hA
  obtain ⟨rfl, rfl⟩ := trodVars_none hV
  obtain ⟨g, ah, nh, ch, ac, nc, cc, rfl, hh, hc⟩ := open_G (hval 0 24 v0 rfl rfl) h0
  obtain ⟨ap, np, cp, pl, rfl, hp, _⟩ := open_L (hval 1 22 v1 rfl rfl) h1
  obtain ⟨x, y, z, rfl, hx, hy, hz⟩ := open_A3 (hval 2 25 v2 rfl rfl) h2
  refine (lawMoves_any g ah ac ap nh ch nc cc np cp pl x y z W hh hc hp hx hy hz).mono fun e W' ⟨he, hb⟩ => ?_
  subst he
  exact ⟨_, rfl, law_post hW' rfl rfl (by kernel_rfl) rfl hb⟩
set_option maxHeartbeats 2000000 in
theorem movesSpec_closed : joinedFacts Try.prog 3 Try.f3 Rows.movesSpecSpec Rows.movesSpecRow = true := by
  unfold joinedFacts
  refine bt (bt (bt (bt (bt (bt (bt (bt (bt (bt (bt (bt (bt (bt (bt (bt (bt (bt (bt (bt (bt (bt (bt (bt (bt (bt (bt (bt (bt (bt (bt ?a0 ?a1) ?a2) ?a3) ?a4) ?a5) ?a6) ?a7) ?a8) ?a9) ?a10) ?a11) ?a12) ?a13) ?a14) ?a15) ?a16) ?a17) ?a18) ?a19) ?a20) ?a21) ?a22) ?a23) ?a24) ?a25) ?a26) ?a27) ?a28) ?a29) ?a30) ?a31
  case a25 => exact prog_enter
  case a26 => exact prog_lifts
  case a27 => exact prog_make
  all_goals as_aux_lemma => kernel_rfl
theorem movesSpec_holds : Rows.MovesSpecSaid :=
  OpenClaim.holds_of_wide 3 Try.f3 rfl rfl rfl rfl rfl rfl rfl ⟨rfl, rfl, rfl, rfl, rfl⟩ rfl rfl rfl rfl rfl (by kernel_rfl) Try.func3 movesSpec_closed
    (of_decide_eq_true (by kernel_rfl)) (by unfold Func.isWrapper; rw [if_neg (of_decide_eq_false (by kernel_rfl))]; exact ⟨rfl, rfl⟩)
    (fun os started H enc _ => movesSpec_lifted os started H enc)
end Go.Proofs.Ytjiacdihfbbfjaa
