/- For every valid grid, the neighbors are a graph, whose edges are the pairs of cells that touch each other in a side (law13.GridsNeighbors), at every input. -/
import Derived.Deep.RegionHeld3
import Derived.Test.YtjiacdihfbbfjaaGra
import Derived.Test.YtjiacdihfbbfjaaLawIn
import Derived.Test.YtjiacdihfbbfjaaLGs
import Derived.Test.YtjiacdihfbbfjaaRowX
import Derived.Test.YtjiacdihfbbfjaaHeadF
import Derived.WalkKit
import Derived.WalkSpells
import Derived.WalkLawsBesides
import Derived.Deep.LoopGhost
import Derived.Deep.QuietTactic
import Derived.BigQuiet
import Derived.StillTailTactics
import Derived.Lib.Hide
import Derived.Outline
import Derived.Lib.QuietBelow
namespace Go.Proofs.Ytjiacdihfbbfjaa
open Go.ChangeShapes Go.WideShapes Go.ChangeAt Go.RowKit Go.Deep

theorem few13_out {g : Grid} {W : World} {ah ac : Option Addr} {nh ch nc cc : Nat} (h1 : Ints W ah nh ch g.holes) (h2 : Ints W ac nc cc g.cells) (hf : fewG13 g = true) : nh ≤ 300 ∧ nc ≤ 300 := by
  unfold fewG13 at hf
  simp only [Bool.and_eq_true, decide_eq_true_eq] at hf
  rw [← h1.len, ← h2.len]; exact hf
theorem nb_keep {w0 w w' : World} {B b p : Nat} {v0 v1 v2 v3 v4 vA : Value} (h : w.cell? ⟨B, 0, none⟩ = some v0 ∧ w.cell? ⟨B, 1, none⟩ = some v1 ∧ w.cell? ⟨B, 2, none⟩ = some v2 ∧ w.cell? ⟨B, 3, none⟩ = some v3 ∧ w.cell? ⟨B, 4, none⟩ = some v4 ∧ w.cell? ⟨b, p, none⟩ = some vA ∧ Below w0.heap.size w0 w) (hb : Below w.heap.size w w') :
    w'.cell? ⟨B, 0, none⟩ = some v0 ∧ w'.cell? ⟨B, 1, none⟩ = some v1 ∧ w'.cell? ⟨B, 2, none⟩ = some v2 ∧ w'.cell? ⟨B, 3, none⟩ = some v3 ∧ w'.cell? ⟨B, 4, none⟩ = some v4 ∧ w'.cell? ⟨b, p, none⟩ = some vA ∧ Below w0.heap.size w0 w' := by
  obtain ⟨h0, h1, h2, h3, h4, h5, h7⟩ := h
  obtain ⟨a0, a1, a2, a3, a4, a5⟩ := g5_keep (B := B) ⟨h0, h1, h2, h3, h4, h7⟩ hb
  exact ⟨a0, a1, a2, a3, a4, (hb.cell (p := ⟨b, p, none⟩) (World.block_lt_of_cell? w _ h5)).trans h5, a5⟩
set_option maxRecDepth 20000 in
set_option maxHeartbeats 4000000 in
theorem law13Nb_any (g : Grid) (ah ac : Option Addr) (nh ch nc cc : Nat) (W : World) (h1 : Ints W ah nh ch g.holes) (h2 : Ints W ac nc cc g.cells) :
    Calls Try.prog 18 #[.agg #[.int .i64 g.shape, .int .i64 g.w, .int .i64 g.h, .slice ah nh ch, .slice ac nc cc]] W fun e w' => e = .returned (.bool true) ∧ Below W.heap.size W w' := by
  cases hf : fewG13 g
  · have HF := Lib.hid hf
    clear hf
    have hal : Below W.heap.size W (W.alloc (.cells #[.int .i64 g.shape, .int .i64 g.w, .int .i64 g.h, .slice ah nh ch, .slice ac nc cc] 24)) := (Below.refl _ _).alloc (Nat.le_refl _) _
    have hbx := Box.new W #[.int .i64 g.shape, .int .i64 g.w, .int .i64 g.h, .slice ah nh ch, .slice ac nc cc] 24
    go_enter Try.func18, Try.ntmps18
    go_wp2_with fail
    refine (sane13_any _).mono ?_
    rintro e w1 ⟨rfl, hB1⟩
    have hx1 := hbx.below hB1
    have hB2 := hal.on hB1
    obtain ⟨d0, d1, d2, d3, d4⟩ := hx1.g5
    have hxl1 := hx1.lt
    clear hbx hal hB1
    go_wp2_with fail
    refine (few13_any g ah ac nh ch nc cc w1 (h1.below hB2) (h2.below hB2)).mono ?_
    rintro e w2 ⟨rfl, hB3⟩
    have hx2 := hx1.below hB3
    have hB4 := hB2.on hB3
    clear d0 d1 d2 d3 d4 hx1 hxl1 hB2 hB3
    obtain ⟨d0, d1, d2, d3, d4⟩ := hx2.g5
    have hxl2 := hx2.lt
    rw [HF.out]
    go_wp2_with fail
    go_ret
    exact ⟨rfl, hB4⟩
  have hfo := few13_out h1 h2 hf
  obtain ⟨hn, hm⟩ := hfo
  have HF := Lib.hid hf
  clear hf
  rcases checkErr_cases g with ⟨he, hv⟩ | ⟨he, _⟩
  rotate_left
  · have HE := Lib.hid he
    clear he
    have hal : Below W.heap.size W (W.alloc (.cells #[.int .i64 g.shape, .int .i64 g.w, .int .i64 g.h, .slice ah nh ch, .slice ac nc cc] 24)) := (Below.refl _ _).alloc (Nat.le_refl _) _
    have hbx := Box.new W #[.int .i64 g.shape, .int .i64 g.w, .int .i64 g.h, .slice ah nh ch, .slice ac nc cc] 24
    go_enter Try.func18, Try.ntmps18
    go_wp2_with fail
    refine (sane13_any _).mono ?_
    rintro e w1 ⟨rfl, hB1⟩
    have hx1 := hbx.below hB1
    have hB2 := hal.on hB1
    obtain ⟨d0, d1, d2, d3, d4⟩ := hx1.g5
    have hxl1 := hx1.lt
    clear hbx hal hB1
    go_wp2_with fail
    refine (few13_any g ah ac nh ch nc cc w1 (h1.below hB2) (h2.below hB2)).mono ?_
    rintro e w2 ⟨rfl, hB3⟩
    have hx2 := hx1.below hB3
    have hB4 := hB2.on hB3
    clear d0 d1 d2 d3 d4 hx1 hxl1 hB2 hB3
    obtain ⟨d0, d1, d2, d3, d4⟩ := hx2.g5
    have hxl2 := hx2.lt
    rw [HF.out]
    go_wp2_with fail
    refine (refCheck_any g ah ac nh ch nc cc w2 (h1.below hB4) (h2.below hB4) (by omega) (by omega)).mono ?_
    rintro e w3 ⟨rfl, hB5⟩
    have hx3 := hx2.below hB5
    have hB6 := hB4.on hB5
    clear d0 d1 d2 d3 d4 hx2 hxl2 hB4 hB5
    obtain ⟨d0, d1, d2, d3, d4⟩ := hx3.g5
    have hxl3 := hx3.lt
    rw [HE.out]
    go_wp2_with fail
    go_ret
    exact ⟨rfl, hB6⟩
  have HE := Lib.hid he
  have HV := Lib.hid hv
  have hnb : nbOut g = nbL g := by unfold nbOut; rw [if_pos he]
  have C1 := fun w a b => neighbors_any g ah ac nh ch nc cc w a b (by omega) (by omega)
  simp only [hnb, he] at C1
  have hgr := nb_graph hv
  rw [h2.len] at hgr
  have H1 := Lib.hid C1
  have HGR := Lib.hid hgr
  have HNL := Lib.hid h2.len
  clear C1 hgr hnb he hv
  have hal : Below W.heap.size W (W.alloc (.cells #[.int .i64 g.shape, .int .i64 g.w, .int .i64 g.h, .slice ah nh ch, .slice ac nc cc] 24)) := (Below.refl _ _).alloc (Nat.le_refl _) _
  have hbx := Box.new W #[.int .i64 g.shape, .int .i64 g.w, .int .i64 g.h, .slice ah nh ch, .slice ac nc cc] 24
  go_enter Try.func18, Try.ntmps18
  go_wp2_with fail
  refine (sane13_any _).mono ?_
  rintro e w1 ⟨rfl, hB1⟩
  have hx1 := hbx.below hB1
  have hB2 := hal.on hB1
  obtain ⟨d0, d1, d2, d3, d4⟩ := hx1.g5
  have hxl1 := hx1.lt
  clear hbx hal hB1
  go_wp2_with fail
  refine (few13_any g ah ac nh ch nc cc w1 (h1.below hB2) (h2.below hB2)).mono ?_
  rintro e w2 ⟨rfl, hB3⟩
  have hx2 := hx1.below hB3
  have hB4 := hB2.on hB3
  clear d0 d1 d2 d3 d4 hx1 hxl1 hB2 hB3
  obtain ⟨d0, d1, d2, d3, d4⟩ := hx2.g5
  have hxl2 := hx2.lt
  rw [HF.out]
  go_wp2_with fail
  refine (refCheck_any g ah ac nh ch nc cc w2 (h1.below hB4) (h2.below hB4) (by omega) (by omega)).mono ?_
  rintro e w3 ⟨rfl, hB5⟩
  have hx3 := hx2.below hB5
  have hB6 := hB4.on hB5
  clear d0 d1 d2 d3 d4 hx2 hxl2 hB4 hB5
  obtain ⟨d0, d1, d2, d3, d4⟩ := hx3.g5
  have hxl3 := hx3.lt
  rw [HE.out]
  go_wp2_with fail
  have k1 := h1.below hB6
  have k2 := h2.below hB6
  refine (H1.out _ k1 k2).mono ?_
  rintro e w4 ⟨v4, rfl, O4, hA⟩
  replace hx3 := hx3.below hA
  replace hB6 := hB6.on hA
  replace k2 := k2.below hA
  obtain ⟨a4, c4, e4, R4⟩ := O4.rows
  rw [HGR.out.len] at R4 e4
  subst e4
  have hc4 := R4.cap
  have hm4 := R4.mx
  unfold maxLen at hm4
  clear d0 d1 d2 d3 d4 hxl3 hA O4 k1
  obtain ⟨d0, d1, d2, d3, d4⟩ := hx3.g5
  have hxl3 := hx3.lt
  have hck := graphCheck_any _ _ _ _ w4 R4 HGR.out
  have HCK := Lib.hid hck
  clear hck
  go_wp2_with fail
  refine HCK.out.mono ?_
  rintro e w5 ⟨rfl, rfl⟩
  go_wp2_with fail
  go_loopw [2, 40] (fun v c wr => ∃ a : Nat, a ≤ nc ∧ v = .bool false ∧ c = .int .i64 a ∧ Below w5.heap.size w5 wr) (fun _ c _ => nc - (intOf c).toNat)
  case atStart => exact ⟨0, by omega, rfl, rfl, Below.refl _ _⟩
  case round =>
    obtain ⟨a, hak, rfl, rfl, hBo⟩ := hrel
    obtain ⟨wo, rfl⟩ : ∃ wo, wo = wr := ⟨_, rfl⟩
    have hso := hBo.size
    have hxo := hx3.below hBo
    clear d0 d1 d2 d3 d4 hxl3
    obtain ⟨d0, d1, d2, d3, d4⟩ := hxo.g5
    have hxl3 := hxo.lt
    by_cases hlt : a < nc
    · obtain ⟨b5, o5, ha, hb5⟩ := R4.at' (by omega)
      obtain ⟨ax, nx, cx, e0, hIx⟩ := R4.row b5 o5 ha a hlt
      rw [nbL_get g (by rw [HNL.out]; exact hlt), HNL.out] at hIx
      subst ha
      have e1 := (hBo.cell (p := ⟨b5, o5 + a, none⟩) hb5).trans e0
      have E0 := Lib.hid e0
      clear e0
      go_wp2_with fail
      go_loopw [2, 46] (fun v c wr => ∃ b : Nat, b ≤ nc ∧ v = .bool false ∧ c = .int .i64 b ∧ Below w5.heap.size w5 wr) (fun _ c _ => nc - (intOf c).toNat)
      case atStart => exact ⟨0, by omega, rfl, rfl, hBo⟩
      case round =>
        obtain ⟨b, hbk, rfl, rfl, hBi⟩ := hrel
        obtain ⟨wi, rfl⟩ : ∃ wi, wi = wr := ⟨_, rfl⟩
        have hxi := hx3.below hBi
        clear d0 d1 d2 d3 d4 hxl3 e1
        obtain ⟨d0, d1, d2, d3, d4⟩ := hxi.g5
        have hxl3 := hxi.lt
        have e1 := (hBi.cell (p := ⟨b5, o5 + a, none⟩) hb5).trans E0.out
        by_cases hlt2 : b < nc
        · have hok : ∀ k, k < nc → CellOk g wi ac nc cc k := fun k hk => ⟨k2.below hBi, ⟨HV.out.dims.2.1, HV.out.dims.2.2.1⟩, fun x hx => by have := HV.out.mem hx; have := HV.out.area; omega, hk⟩
          have hka := hok a hlt
          have hkb := hok b hlt2
          have hIi := hIx.below hBi
          have hTT := in_touch HV.out (a := a) (b := b) (by rw [HNL.out]; exact hlt2)
          rw [HNL.out] at hTT
          obtain ⟨T, hT⟩ : ∃ T, touchB g a b = T := ⟨_, rfl⟩
          rw [hT] at hTT
          have HCI : Hid (∀ w, Below wi.heap.size wi w → Calls Try.prog 52 #[.slice ax nx cx, .int .i64 b] w fun e w' => e = .returned (.bool T) ∧ Below w.heap.size w w') := Lib.hid fun w hb => by
            have := lawin_any ax nx cx (nbRow g a nc) b w (hIi.below hb)
            rw [hTT] at this
            exact this.mono fun e w' ⟨h1, h2⟩ => ⟨h1, by rw [h2]; exact Below.refl _ _⟩
          have HCT : Hid (∀ w, Below wi.heap.size wi w → Calls Try.prog 57 #[.agg #[.int .i64 g.shape, .int .i64 g.w, .int .i64 g.h, .slice ah nh ch, .slice ac nc cc], .int .i64 a, .int .i64 b] w fun e w' => e = .returned (.bool T) ∧ Below w.heap.size w w') := Lib.hid fun w hb => by
            have := touch_any g ah ac nh ch nc cc a b w (hka.below hb) (hkb.below hb) HV.out.dims.1
            rw [hT] at this
            exact this
          have tT : (T != T) = false := by simp
          have tT' : (T == T) = true := by simp
          clear hok hka hkb hIi hTT hT
          go_wp2_with fail
          go_region_held3 (fun w' => w'.cell? ⟨W.heap.size, 0, none⟩ = some (.int .i64 g.shape) ∧ w'.cell? ⟨W.heap.size, 1, none⟩ = some (.int .i64 g.w) ∧ w'.cell? ⟨W.heap.size, 2, none⟩ = some (.int .i64 g.h) ∧ w'.cell? ⟨W.heap.size, 3, none⟩ = some (.slice ah nh ch) ∧ w'.cell? ⟨W.heap.size, 4, none⟩ = some (.slice ac nc cc) ∧ w'.cell? ⟨b5, o5 + a, none⟩ = some (.slice ax nx cx) ∧ Below wi.heap.size wi w')
            (first | exact ⟨d0, d1, d2, d3, d4, e1, (Below.refl _ _).drew⟩ | exact nb_keep (by assumption) (by assumption))
            (first | (go_at_call 52; refine (HCI.out _ (by first | exact (Below.refl _ _).drew | (go_split_ands; assumption))).mono ?_; rintro e w' ⟨rfl, hb⟩) | (go_at_call 57; refine (HCT.out _ (by first | exact (Below.refl _ _).drew | (go_split_ands; assumption))).mono ?_; rintro e w' ⟨rfl, hb⟩))
          go_wp2_with fail
          all_goals
            go_split_ands
            go_roundw
            case rel => exact ⟨b + 1, by omega, rfl, by go_num, hBi.on (by assumption)⟩
            case measure => simp [intOf]; omega
        · obtain rfl : b = nc := by omega
          go_wp2_with fail
          go_roundw
          case rel => exact ⟨a + 1, by omega, rfl, by go_num, hBi⟩
          case measure => simp [intOf]; omega
    · obtain rfl : a = nc := by omega
      go_wp2_with fail
      go_ret
      exact ⟨rfl, hB6.on hBo⟩

set_option maxRecDepth 100000 in
set_option maxHeartbeats 2000000 in
theorem nb13_lifted (os : Os) (started : os.Started) (H : Type) (enc : TypeId × Value → H) :
    ReturnsInHanded {} Try.checked os 18 .any (Rows.gridsNeighborsSpec.pre6 enc Try.prog Try.f18 Rows.gridsNeighborsRow.domain false) (Rows.gridsNeighborsSpec.post enc Try.prog Try.f18 false true false false) := by
  refine returnsInHanded_of_change (C := Try.checked) row_own started (by kernel_rfl) Try.func18
    (ChangeSpec.witness6 (enc := enc) (C := Try.checked) false ⟨#[], #[.agg #[.int .i64 0, .int .i64 0, .int .i64 0, .slice none 0 0, .slice none 0 0]], []⟩ 8 (by kernel_rfl) (by kernel_rfl) (by kernel_rfl) (by kernel_rfl)) ?_
  intro W base args ds gs before hval0 hW _ _
  have hval : ∀ (j : Nat) t v, Try.f18.params[j]? = some t → args[j]? = some v → Value.okWide Try.prog W .any base t v := hval0
  have hW' := hW
  obtain ⟨p, q, hA0, hV, rfl, _, _⟩ := hW
  have hA : DataW.TrodAll enc Try.prog W 0 (fun _ => true) true Try.f18.params.toList args.toList ds p := hA0
  rw [Try.params18] at hA hval
  obtain ⟨v0, d0, rfl, rfl, h0⟩ := trodAll_one hA
  obtain ⟨rfl, rfl⟩ := trodVars_none hV
  obtain ⟨g, ah, nh, ch, ac, nc, cc, rfl, hh, hc⟩ := open_G (hval 0 24 v0 rfl rfl) h0
  refine (law13Nb_any g ah ac nh ch nc cc W hh hc).mono fun e W' ⟨he, hb⟩ => ?_
  subst he
  exact ⟨_, rfl, law_post hW' rfl rfl (by kernel_rfl) rfl hb⟩
set_option maxHeartbeats 2000000 in
theorem nb13_closed : joinedFacts Try.prog 18 Try.f18 Rows.gridsNeighborsSpec Rows.gridsNeighborsRow = true := by
  unfold joinedFacts
  refine bt (bt (bt (bt (bt (bt (bt (bt (bt (bt (bt (bt (bt (bt (bt (bt (bt (bt (bt (bt (bt (bt (bt (bt (bt (bt (bt (bt (bt (bt (bt ?a0 ?a1) ?a2) ?a3) ?a4) ?a5) ?a6) ?a7) ?a8) ?a9) ?a10) ?a11) ?a12) ?a13) ?a14) ?a15) ?a16) ?a17) ?a18) ?a19) ?a20) ?a21) ?a22) ?a23) ?a24) ?a25) ?a26) ?a27) ?a28) ?a29) ?a30) ?a31
  case a25 => exact prog_enter
  case a26 => exact prog_lifts
  case a27 => exact prog_make
  all_goals as_aux_lemma => kernel_rfl
theorem gridsNeighbors_holds : Rows.GridsNeighborsSaid :=
  OpenClaim.holds_of_wide 18 Try.f18 rfl rfl rfl rfl rfl rfl rfl ⟨rfl, rfl, rfl, rfl, rfl⟩ rfl rfl rfl rfl rfl (by kernel_rfl) Try.func18 nb13_closed
    (of_decide_eq_true (by kernel_rfl)) (by unfold Func.isWrapper; rw [if_neg (of_decide_eq_false (by kernel_rfl))]; exact ⟨rfl, rfl⟩)
    (fun os started H enc _ => nb13_lifted os started H enc)
#print axioms gridsNeighbors_holds
end Go.Proofs.Ytjiacdihfbbfjaa

