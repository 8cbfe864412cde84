/- For every valid grid, AroundF are the neighbors, NearF the cells with their neighbors, PairsF the edges, in order, CellsF and AllF the cells (law13.GridsPairs), at every input. -/
import Derived.Test.YtjiacdihfbbfjaaPairsM
import Derived.Test.YtjiacdihfbbfjaaLawIn
import Derived.Test.YtjiacdihfbbfjaaLGs
import Derived.Test.YtjiacdihfbbfjaaRowX
import Derived.Test.YtjiacdihfbbfjaaHeadF
import Derived.WalkKit
import Derived.WalkSpells
import Derived.WalkLawsBesides
import Derived.Deep.LoopGhost
import Derived.Deep.QuietTactic
import Derived.BigQuiet
import Derived.StillTailTactics
import Derived.Lib.Hide
import Derived.Outline
import Derived.Lib.QuietBelow
namespace Go.Proofs.Ytjiacdihfbbfjaa
open Go.ChangeShapes Go.WideShapes Go.ChangeAt Go.RowKit Go.Deep

theorem few13_out {g : Grid} {W : World} {ah ac : Option Addr} {nh ch nc cc : Nat} (h1 : Ints W ah nh ch g.holes) (h2 : Ints W ac nc cc g.cells) (hf : fewG13 g = true) : nh ≤ 300 ∧ nc ≤ 300 := by
  unfold fewG13 at hf
  simp only [Bool.and_eq_true, decide_eq_true_eq] at hf
  rw [← h1.len, ← h2.len]; exact hf
set_option maxRecDepth 40000 in
set_option maxHeartbeats 8000000 in
theorem law13Pairs_any (g : Grid) (ah ac : Option Addr) (nh ch nc cc : Nat) (W : World) (h1 : Ints W ah nh ch g.holes) (h2 : Ints W ac nc cc g.cells) :
    Calls Try.prog 15 #[.agg #[.int .i64 g.shape, .int .i64 g.w, .int .i64 g.h, .slice ah nh ch, .slice ac nc cc]] W fun e w' => e = .returned (.bool true) ∧ Below W.heap.size W w' := by
  cases hf : fewG13 g
  · have HF := Lib.hid hf
    clear hf
    have hal : Below W.heap.size W (W.alloc (.cells #[.int .i64 g.shape, .int .i64 g.w, .int .i64 g.h, .slice ah nh ch, .slice ac nc cc] 24)) := (Below.refl _ _).alloc (Nat.le_refl _) _
    have hbx := Box.new W #[.int .i64 g.shape, .int .i64 g.w, .int .i64 g.h, .slice ah nh ch, .slice ac nc cc] 24
    go_enter Try.func15, Try.ntmps15
    go_wp2_with fail
    refine (sane13_any _).mono ?_
    rintro e w1 ⟨rfl, hB1⟩
    have hx1 := hbx.below hB1
    have hB2 := hal.on hB1
    obtain ⟨d0, d1, d2, d3, d4⟩ := hx1.g5
    have hxl1 := hx1.lt
    clear hbx hal hB1
    go_wp2_with fail
    refine (few13_any g ah ac nh ch nc cc w1 (h1.below hB2) (h2.below hB2)).mono ?_
    rintro e w2 ⟨rfl, hB3⟩
    have hx2 := hx1.below hB3
    have hB4 := hB2.on hB3
    clear d0 d1 d2 d3 d4 hx1 hxl1 hB2 hB3
    obtain ⟨d0, d1, d2, d3, d4⟩ := hx2.g5
    have hxl2 := hx2.lt
    rw [HF.out]
    go_wp2_with fail
    go_ret
    exact ⟨rfl, hB4⟩
  have hfo := few13_out h1 h2 hf
  obtain ⟨hn, hm⟩ := hfo
  have HF := Lib.hid hf
  clear hf
  rcases checkErr_cases g with ⟨he, hv⟩ | ⟨he, _⟩
  rotate_left
  · have HE := Lib.hid he
    clear he
    have hal : Below W.heap.size W (W.alloc (.cells #[.int .i64 g.shape, .int .i64 g.w, .int .i64 g.h, .slice ah nh ch, .slice ac nc cc] 24)) := (Below.refl _ _).alloc (Nat.le_refl _) _
    have hbx := Box.new W #[.int .i64 g.shape, .int .i64 g.w, .int .i64 g.h, .slice ah nh ch, .slice ac nc cc] 24
    go_enter Try.func15, Try.ntmps15
    go_wp2_with fail
    refine (sane13_any _).mono ?_
    rintro e w1 ⟨rfl, hB1⟩
    have hx1 := hbx.below hB1
    have hB2 := hal.on hB1
    obtain ⟨d0, d1, d2, d3, d4⟩ := hx1.g5
    have hxl1 := hx1.lt
    clear hbx hal hB1
    go_wp2_with fail
    refine (few13_any g ah ac nh ch nc cc w1 (h1.below hB2) (h2.below hB2)).mono ?_
    rintro e w2 ⟨rfl, hB3⟩
    have hx2 := hx1.below hB3
    have hB4 := hB2.on hB3
    clear d0 d1 d2 d3 d4 hx1 hxl1 hB2 hB3
    obtain ⟨d0, d1, d2, d3, d4⟩ := hx2.g5
    have hxl2 := hx2.lt
    rw [HF.out]
    go_wp2_with fail
    refine (refCheck_any g ah ac nh ch nc cc w2 (h1.below hB4) (h2.below hB4) (by omega) (by omega)).mono ?_
    rintro e w3 ⟨rfl, hB5⟩
    have hx3 := hx2.below hB5
    have hB6 := hB4.on hB5
    clear d0 d1 d2 d3 d4 hx2 hxl2 hB4 hB5
    obtain ⟨d0, d1, d2, d3, d4⟩ := hx3.g5
    have hxl3 := hx3.lt
    rw [HE.out]
    go_wp2_with fail
    go_ret
    exact ⟨rfl, hB6⟩
  have HE := Lib.hid he
  have HV := Lib.hid hv
  have hnb : nbOut g = nbL g := by unfold nbOut; rw [if_pos he]
  have hnl := h2.len
  have h256 := hv.len
  have C0 := fun w a b => neighbors_any g ah ac nh ch nc cc w a b (by omega) (by omega)
  simp only [hnb, he] at C0
  have hfo : ∀ f, 0 ≤ f ∧ f ≤ 7 → famOut g f = famL g f ∧ famErr g f = 0 := fun f hf => by unfold famOut famErr; rw [if_pos he, if_pos he, if_pos hf]; exact ⟨rfl, rfl⟩
  have C4 := fun w a b => fam_any 4 g ah ac nh ch nc cc w a b (by omega) (by omega)
  have C5 := fun w a b => fam_any 5 g ah ac nh ch nc cc w a b (by omega) (by omega)
  have C6 := fun w a b => fam_any 6 g ah ac nh ch nc cc w a b (by omega) (by omega)
  have C7 := fun w a b => fam_any 0 g ah ac nh ch nc cc w a b (by omega) (by omega)
  have C8 := fun w a b => fam_any 7 g ah ac nh ch nc cc w a b (by omega) (by omega)
  have e4 : famL g 4 = nbL g := by simp [famL]
  have e5 : famL g 5 = nearF g nc := by simp [famL, hnl]
  have e6 : famL g 6 = pairsF g nc := by simp [famL, hnl]
  have e7 : famL g 0 = cellsF nc := by simp [famL, hnl]
  have e8 : famL g 7 = [ints nc] := by simp [famL, hnl]
  simp only [hfo 4 (by omega), e4] at C4
  simp only [hfo 5 (by omega), e5] at C5
  simp only [hfo 6 (by omega), e6] at C6
  simp only [hfo 0 (by omega), e7] at C7
  simp only [hfo 7 (by omega), e8] at C8
  have hpb := pairsF_len g nc
  have hpb2 : nc * g.cells.length ≤ 256 * 256 := Nat.mul_le_mul (by omega) h256
  rw [hnl] at h256
  obtain ⟨m, hm⟩ : ∃ m, (pairsF g nc).length = m := ⟨_, rfl⟩
  have hmb : m ≤ 65536 := by rw [← hm]; omega
  have HM := Lib.hid hm
  have HNL := Lib.hid hnl
  have H0 := Lib.hid C0
  have H1 := Lib.hid C4
  have H2 := Lib.hid C5
  have H3 := Lib.hid C6
  have H4 := Lib.hid C7
  have H5 := Lib.hid C8
  clear C0 C4 C5 C6 C7 C8 e4 e5 e6 e7 e8 hfo hnb he hv hnl hm hpb hpb2
  have hal : Below W.heap.size W (W.alloc (.cells #[.int .i64 g.shape, .int .i64 g.w, .int .i64 g.h, .slice ah nh ch, .slice ac nc cc] 24)) := (Below.refl _ _).alloc (Nat.le_refl _) _
  have hbx := Box.new W #[.int .i64 g.shape, .int .i64 g.w, .int .i64 g.h, .slice ah nh ch, .slice ac nc cc] 24
  go_enter Try.func15, Try.ntmps15
  go_wp2_with fail
  refine (sane13_any _).mono ?_
  rintro e w1 ⟨rfl, hB1⟩
  have hx1 := hbx.below hB1
  have hB2 := hal.on hB1
  obtain ⟨d0, d1, d2, d3, d4⟩ := hx1.g5
  have hxl1 := hx1.lt
  clear hbx hal hB1
  go_wp2_with fail
  refine (few13_any g ah ac nh ch nc cc w1 (h1.below hB2) (h2.below hB2)).mono ?_
  rintro e w2 ⟨rfl, hB3⟩
  have hx2 := hx1.below hB3
  have hB4 := hB2.on hB3
  clear d0 d1 d2 d3 d4 hx1 hxl1 hB2 hB3
  obtain ⟨d0, d1, d2, d3, d4⟩ := hx2.g5
  have hxl2 := hx2.lt
  rw [HF.out]
  go_wp2_with fail
  refine (refCheck_any g ah ac nh ch nc cc w2 (h1.below hB4) (h2.below hB4) (by omega) (by omega)).mono ?_
  rintro e w3 ⟨rfl, hB5⟩
  have hx3 := hx2.below hB5
  have hB6 := hB4.on hB5
  clear d0 d1 d2 d3 d4 hx2 hxl2 hB4 hB5
  obtain ⟨d0, d1, d2, d3, d4⟩ := hx3.g5
  have hxl3 := hx3.lt
  rw [HE.out]
  go_wp2_with fail
  have k1 := h1.below hB6
  have k2 := h2.below hB6
  refine (H0.out _ k1 k2).mono ?_
  rintro e w4 ⟨v4, rfl, O4, hA⟩
  replace hx3 := hx3.below hA
  replace hB6 := hB6.on hA
  replace k1 := k1.below hA
  replace k2 := k2.below hA
  clear d0 d1 d2 d3 d4 hxl3 hA
  obtain ⟨d0, d1, d2, d3, d4⟩ := hx3.g5
  have hxl3 := hx3.lt
  go_wp2_with fail
  refine (H1.out _ k1 k2).mono ?_
  rintro e w5 ⟨v5, rfl, O5, hA⟩
  replace hx3 := hx3.below hA
  replace hB6 := hB6.on hA
  replace k1 := k1.below hA
  replace k2 := k2.below hA
  replace O4 := O4.below hA
  clear d0 d1 d2 d3 d4 hxl3 hA
  obtain ⟨d0, d1, d2, d3, d4⟩ := hx3.g5
  have hxl3 := hx3.lt
  go_wp2_with fail
  refine (H2.out _ k1 k2).mono ?_
  rintro e w6 ⟨v6, rfl, O6, hA⟩
  replace hx3 := hx3.below hA
  replace hB6 := hB6.on hA
  replace k1 := k1.below hA
  replace k2 := k2.below hA
  replace O4 := O4.below hA
  replace O5 := O5.below hA
  clear d0 d1 d2 d3 d4 hxl3 hA
  obtain ⟨d0, d1, d2, d3, d4⟩ := hx3.g5
  have hxl3 := hx3.lt
  go_wp2_with fail
  refine (H3.out _ k1 k2).mono ?_
  rintro e w7 ⟨v7, rfl, O7, hA⟩
  replace hx3 := hx3.below hA
  replace hB6 := hB6.on hA
  replace k1 := k1.below hA
  replace k2 := k2.below hA
  replace O4 := O4.below hA
  replace O5 := O5.below hA
  replace O6 := O6.below hA
  clear d0 d1 d2 d3 d4 hxl3 hA
  obtain ⟨d0, d1, d2, d3, d4⟩ := hx3.g5
  have hxl3 := hx3.lt
  go_wp2_with fail
  refine (H4.out _ k1 k2).mono ?_
  rintro e w8 ⟨v8, rfl, O8, hA⟩
  replace hx3 := hx3.below hA
  replace hB6 := hB6.on hA
  replace k1 := k1.below hA
  replace k2 := k2.below hA
  replace O4 := O4.below hA
  replace O5 := O5.below hA
  replace O6 := O6.below hA
  replace O7 := O7.below hA
  clear d0 d1 d2 d3 d4 hxl3 hA
  obtain ⟨d0, d1, d2, d3, d4⟩ := hx3.g5
  have hxl3 := hx3.lt
  go_wp2_with fail
  refine (H5.out _ k1 k2).mono ?_
  rintro e w9 ⟨v9, rfl, O9, hA⟩
  replace hx3 := hx3.below hA
  replace hB6 := hB6.on hA
  replace k1 := k1.below hA
  replace k2 := k2.below hA
  replace O4 := O4.below hA
  replace O5 := O5.below hA
  replace O6 := O6.below hA
  replace O7 := O7.below hA
  replace O8 := O8.below hA
  clear d0 d1 d2 d3 d4 hxl3 hA
  obtain ⟨d0, d1, d2, d3, d4⟩ := hx3.g5
  have hxl3 := hx3.lt
  obtain ⟨a4, c4, q4, R4⟩ := O4.rows
  rw [nbL_len, HNL.out] at q4 R4
  subst q4
  have hc4 := R4.cap
  have hm4 := R4.mx
  unfold maxLen at hm4
  obtain ⟨a5, c5, q5, R5⟩ := O5.rows
  rw [nbL_len, HNL.out] at q5 R5
  subst q5
  have hc5 := R5.cap
  have hm5 := R5.mx
  unfold maxLen at hm5
  obtain ⟨a6, c6, q6, R6⟩ := O6.rows
  rw [nearF_len] at q6 R6
  subst q6
  have hc6 := R6.cap
  have hm6 := R6.mx
  unfold maxLen at hm6
  obtain ⟨a7, c7, q7, R7⟩ := O7.rows
  rw [HM.out] at q7 R7
  subst q7
  have hc7 := R7.cap
  have hm7 := R7.mx
  unfold maxLen at hm7
  obtain ⟨a8, c8, q8, R8⟩ := O8.rows
  rw [cellsF_len] at q8 R8
  subst q8
  have hc8 := R8.cap
  have hm8 := R8.mx
  unfold maxLen at hm8
  obtain ⟨a9, c9, q9, R9⟩ := O9.rows
  simp only [List.length_singleton] at q9 R9
  subst q9
  have hc9 := R9.cap
  have hm9 := R9.mx
  unfold maxLen at hm9
  clear O4 O5 O6 O7 O8 O9
  obtain ⟨b9, o9, ha9, hb9⟩ := R9.at' (by omega)
  obtain ⟨ax9, nx9, cx9, f9, I9⟩ := R9.row b9 o9 ha9 0 (by omega)
  subst ha9
  have I9' : Ints w9 ax9 nx9 cx9 (ints nc) := I9
  have hn9 : nx9 = nc := by rw [← I9'.len, ints_len]
  have f9' : w9.cell? ⟨b9, o9, none⟩ = some (.slice ax9 nx9 cx9) := f9
  rw [hn9] at I9' f9'
  clear f9 I9 hn9
  have tnn : ((nc : Int) != (nc : Int)) = false := by simp
  have HSL := Lib.hid (sameLists_lit R4 R5 rfl)
  go_wp2_with fail
  refine HSL.out.mono ?_
  rintro e w10 ⟨rfl, q10, rfl⟩
  have hA := Below.drewN0 w9 q10
  replace hx3 := hx3.below hA
  replace hB6 := hB6.on hA
  replace R4 := R4.below hA
  replace R6 := R6.below hA
  replace R7 := R7.below hA
  replace R8 := R8.below hA
  replace R9 := R9.below hA
  have f9 := (hA.cell (p := ⟨b9, o9, none⟩) hb9).trans f9'
  have I9 := I9'.below hA
  have hb9' : b9 < (w9.drewN q10).heap.size := hb9
  obtain ⟨wz, hwz⟩ : ∃ wz, w9.drewN q10 = wz := ⟨_, rfl⟩
  rw [hwz] at hx3 hB6 R4 R6 R7 R8 R9 f9 I9 hb9' ⊢
  clear hwz hA f9' I9' hb9 d0 d1 d2 d3 d4 hxl3 HSL R5 k1 k2
  obtain ⟨d0, d1, d2, d3, d4⟩ := hx3.g5
  have hxl3 := hx3.lt
  go_wp2_with fail
  go_loopw [2, 15, 128] (fun v ed c wr => ∃ k : Nat, k ≤ nc ∧ v = .bool false ∧ ed = .int .i64 ((pairsF g k).length : Nat) ∧ c = .int .i64 k ∧ Below wz.heap.size wz wr) (fun _ _ c _ => nc - (intOf c).toNat)
  case atStart => exact ⟨0, by omega, rfl, rfl, rfl, Below.refl _ _⟩
  case round =>
    clear d0 d1 d2 d3 d4 hxl3
    obtain ⟨k, hk, rfl, rfl, rfl, hBo⟩ := hrel
    obtain ⟨wo, rfl⟩ : ∃ wo, wo = wr := ⟨_, rfl⟩
    have hso := hBo.size
    by_cases hlt : k < nc
    · obtain ⟨b4, o4, ha4, hb4⟩ := R4.at' (by omega)
      obtain ⟨ax, nx, cx, e4, hIx⟩ := R4.row b4 o4 ha4 k hlt
      rw [nbL_get g (by rw [HNL.out]; exact hlt), HNL.out] at hIx
      subst ha4
      obtain ⟨b6, o6, ha6, hb6⟩ := R6.at' (by omega)
      obtain ⟨ay, ny, cy, e6, hIy⟩ := R6.row b6 o6 ha6 k hlt
      rw [nearF_get g hlt] at hIy
      subst ha6
      obtain ⟨b8, o8, ha8, hb8⟩ := R8.at' (by omega)
      obtain ⟨au, nu, cu, e8, hIu⟩ := R8.row b8 o8 ha8 k hlt
      rw [cellsF_get hlt] at hIu
      subst ha8
      obtain ⟨b1, o1, ha1, hb1⟩ := I9.at' (by omega)
      have e1 := I9.cell b1 o1 ha1 k hlt
      rw [ints_get hlt] at e1
      subst ha1
      have hyl := hIy.len
      have hxl := hIx.len
      have hnl2 := near_len g k
      rw [HNL.out, hxl, hyl] at hnl2
      have hnx : nx ≤ 256 := by rw [← hxl]; have := nbRow_le g k nc; omega
      have hxm := hIx.mx
      have hxc := hIx.cap
      have hym := hIy.mx
      have hyc := hIy.cap
      unfold maxLen at hxm hym
      have tl : ((ny : Int) != (nx : Int) + 1) = false := by simp; omega
      have HE4 := Lib.hid e4
      have HE6 := Lib.hid e6
      have HE1 := Lib.hid e1
      have HYL := Lib.hid hyl
      have HXL := Lib.hid hxl
      have HNL2 := Lib.hid hnl2
      have e4o := (hBo.cell (p := ⟨b4, o4 + k, none⟩) hb4).trans e4
      have e6o := (hBo.cell (p := ⟨b6, o6 + k, none⟩) hb6).trans e6
      have e8o := (hBo.cell (p := ⟨b8, o8 + k, none⟩) hb8).trans e8
      have e1o := (hBo.cell (p := ⟨b1, o1 + k, none⟩) hb1).trans e1
      have f9o := (hBo.cell (p := ⟨b9, o9, none⟩) hb9').trans f9
      have hin := lawin_any ay ny cy (nearRow g k) k wo (hIy.below hBo)
      rw [near_in] at hin
      have HIN := Lib.hid hin
      obtain ⟨ED, hED⟩ : ∃ ED, (pairsF g k).length = ED := ⟨_, rfl⟩
      rw [hED]
      have HED := Lib.hid hED
      clear e4 e6 e8 e1 hyl hxl hnl2 hin hED
      go_wp2_with fail
      refine HIN.out.mono ?_
      rintro e wq ⟨rfl, rfl⟩
      go_wp2_with fail
      have hal : Below wq.heap.size wq (wq.alloc (.cells #[.int .i64 k] 3)) := (Below.refl _ _).alloc (Nat.le_refl _) _
      refine (same13_lit ((hIu.below hBo).below hal) (ints_lit [(k : Int)] (Box.new wq #[.int .i64 k] 3) rfl (by simp)) rfl).mono ?_
      rintro e wp ⟨rfl, q2, rfl⟩
      have hA2 := below_drewN hal q2
      have hB2 := hBo.on hA2
      obtain ⟨wp, hwp⟩ : ∃ wp, (wq.alloc (.cells #[.int .i64 k] 3)).drewN q2 = wp := ⟨_, rfl⟩
      rw [hwp] at hA2 hB2 ⊢
      clear hwp hal e4o e6o e8o e1o f9o HIN
      have e4o := (hB2.cell (p := ⟨b4, o4 + k, none⟩) hb4).trans HE4.out
      have e6o := (hB2.cell (p := ⟨b6, o6 + k, none⟩) hb6).trans HE6.out
      have e1o := (hB2.cell (p := ⟨b1, o1 + k, none⟩) hb1).trans HE1.out
      have f9o := (hB2.cell (p := ⟨b9, o9, none⟩) hb9').trans f9
      have hs2 := hB2.size
      go_wp2_with fail
      go_loop [2, 176] (fun v c => ∃ j : Nat, j ≤ ny ∧ v = .bool false ∧ c = .int .i64 j) (fun _ c => ny - (intOf c).toNat)
      case atStart => exact ⟨0, by omega, rfl, rfl⟩
      case round =>
        obtain ⟨j, hj, rfl, rfl⟩ := hrel
        by_cases hlj : j < ny
        · obtain ⟨b7, o7, ha7, hb7⟩ := (hIy.below hB2).at' (by omega)
          have e2 := (hIy.below hB2).cell b7 o7 ha7 j hlj
          have e3 := fun h0 : 0 < j => (hIy.below hB2).cell b7 o7 ha7 (j - 1) (by omega)
          have hjy : j < (nearRow g k).length := by rw [HYL.out]; exact hlj
          have hprev : 0 < j → (nearRow g k)[j - 1]?.getD 0 < (nearRow g k)[j]?.getD 0 := fun h0 => by
            have := List.pairwise_iff_getElem.1 (nearRow_lt g k) (j - 1) j (by omega) hjy (by omega)
            rw [List.getElem?_eq_getElem hjy, List.getElem?_eq_getElem (by omega)]
            simpa using this
          have hmem := getD_mem (nearRow g k) j hjy
          subst ha7
          obtain ⟨b, hb⟩ : ∃ b, (nearRow g k)[j]?.getD 0 = b := ⟨_, rfl⟩
          rw [hb] at e2 hprev hmem
          have HMEM := Lib.hid hmem
          clear hb hmem
          by_cases h0 : j = 0
          · subst h0
            simp only [Nat.add_zero] at e2
            clear hprev e3
            by_cases hbk : b = k
            · have tb : (b != (k : Int)) = false := by rw [hbk]; simp
              clear hbk
              go_wp2_with fail
              go_round
              case rel => exact ⟨0 + 1, by omega, rfl, by go_num⟩
              case measure => simp [intOf]; omega
            · have tb : (b != (k : Int)) = true := by simpa using hbk
              have hli := lawin_any ax nx cx (nbRow g k nc) b wp (hIx.below hB2)
              have hnm := near_mem HMEM.out hbk
              rw [HNL.out] at hnm
              rw [hnm] at hli
              have HLI := Lib.hid hli
              clear hli hnm hbk
              go_wp2_with fail
              refine HLI.out.mono ?_
              rintro e w7 ⟨rfl, rfl⟩
              go_wp2_with fail
              go_round
              case rel => exact ⟨0 + 1, by omega, rfl, by go_num⟩
              case measure => simp [intOf]; omega
          · have h1 : 0 < j := by omega
            have e5 := e3 h1
            have h2 := hprev h1
            obtain ⟨u, hu⟩ : ∃ u, (nearRow g k)[j - 1]?.getD 0 = u := ⟨_, rfl⟩
            rw [hu] at e5 h2
            have t3 : decide (b ≤ u) = false := by simp; omega
            have t4 : decide (0 < (j : Int)) = true := by simp; omega
            have t4' : decide (0 < j) = true := by simp; omega
            clear hprev e3 hu
            by_cases hbk : b = k
            · have tb : (b != (k : Int)) = false := by rw [hbk]; simp
              clear hbk
              go_wp2_with fail
              go_round
              case rel => exact ⟨j + 1, by omega, rfl, by go_num⟩
              case measure => simp [intOf]; omega
            · have tb : (b != (k : Int)) = true := by simpa using hbk
              have hli := lawin_any ax nx cx (nbRow g k nc) b wp (hIx.below hB2)
              have hnm := near_mem HMEM.out hbk
              rw [HNL.out] at hnm
              rw [hnm] at hli
              have HLI := Lib.hid hli
              clear hli hnm hbk
              go_wp2_with fail
              refine HLI.out.mono ?_
              rintro e w7 ⟨rfl, rfl⟩
              go_wp2_with fail
              go_round
              case rel => exact ⟨j + 1, by omega, rfl, by go_num⟩
              case measure => simp [intOf]; omega
        · obtain rfl : ny = j := by omega
          go_wp2_with fail
          go_loopw [2, 15, 209] (fun v ed c wr => ∃ i : Nat, i ≤ nx ∧ v = .bool false ∧ ed = .int .i64 ((ED + (pairRow ((nbRow g k nc).take i) k).length : Nat)) ∧ c = .int .i64 i ∧ Below wz.heap.size wz wr) (fun _ _ c _ => nx - (intOf c).toNat)
          case atStart => exact ⟨0, by omega, rfl, by simp [pairRow], rfl, hB2⟩
          case round =>
            clear e4o e6o e1o f9o
            obtain ⟨i, hi, rfl, rfl, rfl, hBi⟩ := hrel
            obtain ⟨wi, rfl⟩ : ∃ wi, wi = wr := ⟨_, rfl⟩
            have hsi := hBi.size
            by_cases hli : i < nx
            · obtain ⟨b7, o7, ha7, hb7⟩ := (hIx.below hBi).at' (by omega)
              have e2 := (hIx.below hBi).cell b7 o7 ha7 i hli
              have hix : i < (nbRow g k nc).length := by rw [HXL.out]; exact hli
              have hmem := getD_mem (nbRow g k nc) i hix
              have hne := nb_ne hmem
              have hsu := fun b (hb : (nbRow g k nc)[i]?.getD 0 = b) => pairRow_succ (c := k) hix hb
              have hpa := fun b (hb : (nbRow g k nc)[i]?.getD 0 = b) (hkb : (k : Int) < b) => pairs_at (g := g) (k := k) (n := nc) hlt (j := i) (b := b) (by rw [HNL.out]; exact hix) (by rw [HNL.out]; exact hb) hkb
              rw [HNL.out] at hpa
              obtain ⟨b, hb⟩ : ∃ b, (nbRow g k nc)[i]?.getD 0 = b := ⟨_, rfl⟩
              have hsu := hsu b hb
              have hpa := hpa b hb
              rw [hb] at e2 hne
              rw [HED.out, HM.out] at hpa
              subst ha7
              obtain ⟨E, hE⟩ : ∃ E, ED + (pairRow ((nbRow g k nc).take i) k).length = E := ⟨_, rfl⟩
              rw [hE] at hpa ⊢
              have HPA := Lib.hid hpa
              have HSU := Lib.hid hsu
              have HEE := Lib.hid hE
              clear hb hmem hsu hpa hE
              by_cases hbk : b < k
              · have tb : decide (b < (k : Int)) = true := by simpa using hbk
                have HSU2 : Hid (ED + (pairRow ((nbRow g k nc).take (i + 1)) k).length = E) := Lib.hid (by rw [HSU.out, if_neg (by omega), Nat.add_zero]; exact HEE.out)
                clear hbk hne
                go_wp2_with fail
                go_roundw
                case rel => exact ⟨i + 1, by omega, rfl, by rw [HSU2.out], by go_num, hBi⟩
                case measure => simp [intOf]; omega
              · have tb : decide (b < (k : Int)) = false := by simpa using hbk
                have hkb : (k : Int) < b := by omega
                obtain ⟨hEm, hEg⟩ := HPA.out hkb
                have HSU2 : Hid (ED + (pairRow ((nbRow g k nc).take (i + 1)) k).length = E + 1) := Lib.hid (by rw [HSU.out, if_pos hkb, ← Nat.add_assoc, HEE.out])
                obtain ⟨b5, o5, ha5, hb5⟩ := R7.at' (by omega)
                obtain ⟨ap, np, cp, e7, hIp⟩ := R7.row b5 o5 ha5 E hEm
                rw [hEg] at hIp
                subst ha5
                have e7o := (hBi.cell (p := ⟨b5, o5 + E, none⟩) hb5).trans e7
                have tE : decide ((m : Int) ≤ (E : Int)) = false := by simp; omega
                have tE' : decide (m ≤ E) = false := by simp; omega
                clear hbk hne hEg e7
                go_wp2_with fail
                have hal : Below wi.heap.size wi (wi.alloc (.cells #[.int .i64 k, .int .i64 b] 3)) := (Below.refl _ _).alloc (Nat.le_refl _) _
                refine (same13_lit ((hIp.below hBi).below hal) (ints_lit [(k : Int), b] (Box.new wi #[.int .i64 k, .int .i64 b] 3) rfl (by simp)) rfl).mono ?_
                rintro e w7 ⟨rfl, q3, rfl⟩
                go_wp2_with fail
                go_roundw
                case rel => exact ⟨i + 1, by omega, rfl, by rw [HSU2.out]; go_num, by go_num, hBi.on (below_drewN hal q3)⟩
                case measure => simp [intOf]; omega
            · obtain rfl : i = nx := by omega
              have hfin : ED + (pairRow ((nbRow g k nc).take i) k).length = (pairsF g (k + 1)).length := by
                rw [List.take_of_length_le (by rw [HXL.out]; omega), pairsF_succ, List.length_append, HNL.out, HED.out]
              rw [hfin]
              clear hfin
              go_wp2_with fail
              go_roundw
              case rel => exact ⟨k + 1, by omega, rfl, rfl, by go_num, hBi⟩
              case measure => simp [intOf]; omega
    · obtain rfl : k = nc := by omega
      rw [HM.out]
      go_wp2_with fail
      go_ret
      exact ⟨by simp, hB6.on hBo⟩

set_option maxRecDepth 100000 in
set_option maxHeartbeats 2000000 in
theorem pairs13_lifted (os : Os) (started : os.Started) (H : Type) (enc : TypeId × Value → H) :
    ReturnsInHanded {} Try.checked os 15 .any (Rows.gridsPairsSpec.pre6 enc Try.prog Try.f15 Rows.gridsPairsRow.domain false) (Rows.gridsPairsSpec.post enc Try.prog Try.f15 false true false false) := by
  refine returnsInHanded_of_change (C := Try.checked) row_own started (by kernel_rfl) Try.func15
    (ChangeSpec.witness6 (enc := enc) (C := Try.checked) false ⟨#[], #[.agg #[.int .i64 0, .int .i64 0, .int .i64 0, .slice none 0 0, .slice none 0 0]], []⟩ 8 (by kernel_rfl) (by kernel_rfl) (by kernel_rfl) (by kernel_rfl)) ?_
  intro W base args ds gs before hval0 hW _ _
  have hval : ∀ (j : Nat) t v, Try.f15.params[j]? = some t → args[j]? = some v → Value.okWide Try.prog W .any base t v := hval0
  have hW' := hW
  obtain ⟨p, q, hA0, hV, rfl, _, _⟩ := hW
  have hA : DataW.TrodAll enc Try.prog W 0 (fun _ => true) true Try.f15.params.toList args.toList ds p := hA0
  rw [Try.params15] at hA hval
  obtain ⟨v0, d0, rfl, rfl, h0⟩ := trodAll_one hA
  obtain ⟨rfl, rfl⟩ := trodVars_none hV
  obtain ⟨g, ah, nh, ch, ac, nc, cc, rfl, hh, hc⟩ := open_G (hval 0 24 v0 rfl rfl) h0
  refine (law13Pairs_any g ah ac nh ch nc cc W hh hc).mono fun e W' ⟨he, hb⟩ => ?_
  subst he
  exact ⟨_, rfl, law_post hW' rfl rfl (by kernel_rfl) rfl hb⟩
set_option maxHeartbeats 2000000 in
theorem pairs13_closed : joinedFacts Try.prog 15 Try.f15 Rows.gridsPairsSpec Rows.gridsPairsRow = true := by
  unfold joinedFacts
  refine bt (bt (bt (bt (bt (bt (bt (bt (bt (bt (bt (bt (bt (bt (bt (bt (bt (bt (bt (bt (bt (bt (bt (bt (bt (bt (bt (bt (bt (bt (bt ?a0 ?a1) ?a2) ?a3) ?a4) ?a5) ?a6) ?a7) ?a8) ?a9) ?a10) ?a11) ?a12) ?a13) ?a14) ?a15) ?a16) ?a17) ?a18) ?a19) ?a20) ?a21) ?a22) ?a23) ?a24) ?a25) ?a26) ?a27) ?a28) ?a29) ?a30) ?a31
  case a25 => exact prog_enter
  case a26 => exact prog_lifts
  case a27 => exact prog_make
  all_goals as_aux_lemma => kernel_rfl
theorem gridsPairs_holds : Rows.GridsPairsSaid :=
  OpenClaim.holds_of_wide 15 Try.f15 rfl rfl rfl rfl rfl rfl rfl ⟨rfl, rfl, rfl, rfl, rfl⟩ rfl rfl rfl rfl rfl (by kernel_rfl) Try.func15 pairs13_closed
    (of_decide_eq_true (by kernel_rfl)) (by unfold Func.isWrapper; rw [if_neg (of_decide_eq_false (by kernel_rfl))]; exact ⟨rfl, rfl⟩)
    (fun os started H enc _ => pairs13_lifted os started H enc)
#print axioms gridsPairs_holds
end Go.Proofs.Ytjiacdihfbbfjaa

