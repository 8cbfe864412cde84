/- For every grid, valid or not, and all lists of positions, grids.Regions answers as the reference does (law13.GridsRegionsSpec), at every input. -/
import Derived.Test.YtjiacdihfbbfjaaLGs
import Derived.Test.YtjiacdihfbbfjaaRowX
import Derived.Test.YtjiacdihfbbfjaaHeadF
import Derived.WalkKit
import Derived.WalkSpells
import Derived.WalkLawsBesides
import Derived.Deep.LoopGhost
import Derived.Deep.QuietTactic
import Derived.BigQuiet
import Derived.StillTailTactics
import Derived.Lib.Hide
import Derived.Outline
import Derived.Lib.QuietBelow
namespace Go.Proofs.Ytjiacdihfbbfjaa
open Go.ChangeShapes Go.WideShapes Go.ChangeAt Go.RowKit Go.Deep

theorem few13_outR {g : Grid} {W : World} {ah ac : Option Addr} {nh ch nc cc : Nat} (h1 : Ints W ah nh ch g.holes) (h2 : Ints W ac nc cc g.cells) (hf : fewG13 g = true) : nh ≤ 300 ∧ nc ≤ 300 := by
  unfold fewG13 at hf
  simp only [Bool.and_eq_true, decide_eq_true_eq] at hf
  rw [← h1.len, ← h2.len]; exact hf
set_option maxRecDepth 20000 in
set_option maxHeartbeats 4000000 in
theorem law13Reg_any (g : Grid) (ah ac la : Option Addr) (nh ch nc cc ln lc : Nat) (ll : List (List Int)) (W : World) (h1 : Ints W ah nh ch g.holes) (h2 : Ints W ac nc cc g.cells) (h3 : Rows W la ln lc ll) :
    Calls Try.prog 12 #[.agg #[.int .i64 g.shape, .int .i64 g.w, .int .i64 g.h, .slice ah nh ch, .slice ac nc cc], .slice la ln lc] W fun e w' => e = .returned (.bool true) ∧ Below W.heap.size W w' := by
  have hm3 := h3.mx
  have hc3 := h3.cap
  have hl3 := Lib.hid h3.len
  unfold maxLen at hm3
  cases hf : fewG13 g
  · have HF := Lib.hid hf
    clear hf
    have hal : Below W.heap.size W (W.alloc (.cells #[.int .i64 g.shape, .int .i64 g.w, .int .i64 g.h, .slice ah nh ch, .slice ac nc cc] 24)) := (Below.refl _ _).alloc (Nat.le_refl _) _
    have hbx := Box.new W #[.int .i64 g.shape, .int .i64 g.w, .int .i64 g.h, .slice ah nh ch, .slice ac nc cc] 24
    go_enter Try.func12, Try.ntmps12
    go_wp2_with fail
    refine (sane13_any _).mono ?_
    rintro e w1 ⟨rfl, hB1⟩
    have hx1 := hbx.below hB1
    have hB2 := hal.on hB1
    obtain ⟨d0, d1, d2, d3, d4⟩ := hx1.g5
    have hxl1 := hx1.lt
    clear hbx hal hB1
    go_wp2_with fail
    refine (few13_any g ah ac nh ch nc cc w1 (h1.below hB2) (h2.below hB2)).mono ?_
    rintro e w2 ⟨rfl, hB3⟩
    have hx2 := hx1.below hB3
    have hB4 := hB2.on hB3
    clear d0 d1 d2 d3 d4 hx1 hxl1 hB2 hB3
    obtain ⟨d0, d1, d2, d3, d4⟩ := hx2.g5
    have hxl2 := hx2.lt
    rw [HF.out]
    go_wp2_with fail
    go_ret
    exact ⟨rfl, hB4⟩
  · have HF := Lib.hid hf
    obtain ⟨hn, hm⟩ := few13_outR h1 h2 hf
    clear hf
    by_cases h100 : ln ≤ 100
    · have t1 : decide (100 < (ln : Int)) = false := by simp; omega
      have t2 : decide (100 < ln) = false := by simp; omega
      have hal : Below W.heap.size W (W.alloc (.cells #[.int .i64 g.shape, .int .i64 g.w, .int .i64 g.h, .slice ah nh ch, .slice ac nc cc] 24)) := (Below.refl _ _).alloc (Nat.le_refl _) _
      have hbx := Box.new W #[.int .i64 g.shape, .int .i64 g.w, .int .i64 g.h, .slice ah nh ch, .slice ac nc cc] 24
      go_enter Try.func12, Try.ntmps12
      go_wp2_with fail
      refine (sane13_any _).mono ?_
      rintro e w1 ⟨rfl, hB1⟩
      have hx1 := hbx.below hB1
      have hB2 := hal.on hB1
      obtain ⟨d0, d1, d2, d3, d4⟩ := hx1.g5
      have hxl1 := hx1.lt
      clear hbx hal hB1
      go_wp2_with fail
      refine (few13_any g ah ac nh ch nc cc w1 (h1.below hB2) (h2.below hB2)).mono ?_
      rintro e w2 ⟨rfl, hB3⟩
      have hx2 := hx1.below hB3
      have hB4 := hB2.on hB3
      clear d0 d1 d2 d3 d4 hx1 hxl1 hB2 hB3
      obtain ⟨d0, d1, d2, d3, d4⟩ := hx2.g5
      have hxl2 := hx2.lt
      rw [HF.out]
      go_wp2_with fail
      have h3 := h3.below hB4
      go_loop [4, 23] (fun v c => ∃ k : Nat, k ≤ ln ∧ v = .bool false ∧ c = .int .i64 k ∧ Hid (∀ i : Nat, i < k → (ll[i]?.getD []).length ≤ 300)) (fun _ c => ln - (intOf c).toNat)
      case atStart => exact ⟨0, by omega, rfl, rfl, Lib.hid (fun i hi => by omega)⟩
      case round =>
        obtain ⟨k, hk, rfl, rfl, HL⟩ := hrel
        by_cases hlt : k < ln
        · obtain ⟨b5, o5, hla, hb5⟩ := h3.at' (by omega)
          obtain ⟨ax, nx, cx, e0, hIx⟩ := h3.row b5 o5 hla k hlt
          subst hla
          have hlx := hIx.len
          have HLX := Lib.hid hlx
          clear hlx
          by_cases h300 : 300 < nx
          · have t3 : decide (300 < (nx : Int)) = true := by simp; omega
            have t4 : decide (300 < nx) = true := by simp; omega
            go_wp2_with fail
            go_ret
            exact ⟨rfl, hB4⟩
          · have t3 : decide (300 < (nx : Int)) = false := by simp; omega
            have t4 : decide (300 < nx) = false := by simp; omega
            go_wp2_with fail
            go_round
            case rel =>
              refine ⟨k + 1, by omega, rfl, by go_num, Lib.hid (fun i hi => ?_)⟩
              by_cases e : i = k
              · subst e; rw [HLX.out]; omega
              · exact HL.out i (by omega)
            case measure => simp [intOf]; omega
        · obtain rfl : ln = k := by omega
          have hb : ∀ i : Nat, (ll[i]?.getD []).length ≤ 1000000 := fun i => by
            by_cases h : i < ln
            · have := HL.out i h; omega
            · rw [List.getElem?_eq_none (by rw [hl3.out]; omega)]; simp
          obtain ⟨lR, hlR⟩ : ∃ l, regOut g ll = l := ⟨_, rfl⟩
          obtain ⟨eR, heR⟩ : ∃ e, regErr g ll = e := ⟨_, rfl⟩
          have C1 := fun w a b c => gRegions_any g ah ac la nh ch nc cc ln lc ll w a b (by omega) (by omega) c hb
          have C2 := fun w a b c => refRegions_any g ah ac la nh ch nc cc ln lc ll w a b (by omega) (by omega) c hb
          simp only [hlR, heR] at C1 C2
          have H1 := Lib.hid C1
          have H2 := Lib.hid C2
          have te : (eR == eR) = true := by simp
          clear C1 C2 hlR heR hb
          go_wp2_with fail
          have h1 := h1.below hB4
          have h2 := h2.below hB4
          refine (H1.out _ h1 h2 h3).mono ?_
          rintro e w3 ⟨v3, rfl, O3, hA⟩
          replace hx2 := hx2.below hA
          replace hB4 := hB4.on hA
          replace h1 := h1.below hA
          replace h2 := h2.below hA
          have h3 := h3.below hA
          clear d0 d1 d2 d3 d4 hxl2 hA
          obtain ⟨d0, d1, d2, d3, d4⟩ := hx2.g5
          have hxl2 := hx2.lt
          go_wp2_with fail
          refine (H2.out _ h1 h2 h3).mono ?_
          rintro e w4 ⟨v4, rfl, O4, hA⟩
          replace hB4 := hB4.on hA
          replace O3 := O3.below hA
          clear d0 d1 d2 d3 d4 hxl2 hA
          obtain ⟨a3, c3, rfl, R3⟩ := O3.rows
          obtain ⟨a4, c4, rfl, R4⟩ := O4.rows
          go_wp2_with fail
          refine (sameLists_lit R3 R4 rfl).mono ?_
          rintro e w7 ⟨rfl, q, rfl⟩
          go_wp2_with fail
          go_ret
          exact ⟨rfl, below_drewN hB4 _⟩
    · have t1 : decide (100 < (ln : Int)) = true := by simp; omega
      have t2 : decide (100 < ln) = true := by simp; omega
      have hal : Below W.heap.size W (W.alloc (.cells #[.int .i64 g.shape, .int .i64 g.w, .int .i64 g.h, .slice ah nh ch, .slice ac nc cc] 24)) := (Below.refl _ _).alloc (Nat.le_refl _) _
      have hbx := Box.new W #[.int .i64 g.shape, .int .i64 g.w, .int .i64 g.h, .slice ah nh ch, .slice ac nc cc] 24
      go_enter Try.func12, Try.ntmps12
      go_wp2_with fail
      refine (sane13_any _).mono ?_
      rintro e w1 ⟨rfl, hB1⟩
      have hx1 := hbx.below hB1
      have hB2 := hal.on hB1
      obtain ⟨d0, d1, d2, d3, d4⟩ := hx1.g5
      have hxl1 := hx1.lt
      clear hbx hal hB1
      go_wp2_with fail
      refine (few13_any g ah ac nh ch nc cc w1 (h1.below hB2) (h2.below hB2)).mono ?_
      rintro e w2 ⟨rfl, hB3⟩
      have hx2 := hx1.below hB3
      have hB4 := hB2.on hB3
      clear d0 d1 d2 d3 d4 hx1 hxl1 hB2 hB3
      obtain ⟨d0, d1, d2, d3, d4⟩ := hx2.g5
      have hxl2 := hx2.lt
      rw [HF.out]
      go_wp2_with fail
      go_ret
      exact ⟨rfl, hB4⟩

set_option maxRecDepth 100000 in
set_option maxHeartbeats 2000000 in
theorem reg13_lifted (os : Os) (started : os.Started) (H : Type) (enc : TypeId × Value → H) :
    ReturnsInHanded {} Try.checked os 12 .any (Rows.gridsRegionsSpecSpec.pre6 enc Try.prog Try.f12 Rows.gridsRegionsSpecRow.domain false) (Rows.gridsRegionsSpecSpec.post enc Try.prog Try.f12 false true false false) := by
  refine returnsInHanded_of_change (C := Try.checked) row_own started (by kernel_rfl) Try.func12
    (ChangeSpec.witness6 (enc := enc) (C := Try.checked) false ⟨#[], #[.agg #[.int .i64 0, .int .i64 0, .int .i64 0, .slice none 0 0, .slice none 0 0], .slice none 0 0], []⟩ 8 (by kernel_rfl) (by kernel_rfl) (by kernel_rfl) (by kernel_rfl)) ?_
  intro W base args ds gs before hval0 hW _ _
  have hval : ∀ (j : Nat) t v, Try.f12.params[j]? = some t → args[j]? = some v → Value.okWide Try.prog W .any base t v := hval0
  have hW' := hW
  obtain ⟨p, q, hA0, hV, rfl, _, _⟩ := hW
  have hA : DataW.TrodAll enc Try.prog W 0 (fun _ => true) true Try.f12.params.toList args.toList ds p := hA0
  rw [Try.params12] at hA hval
  obtain ⟨v0, v1, d0, d1, p0, p1, rfl, rfl, rfl, h0, h1⟩ := trodAll_two hA
  obtain ⟨rfl, rfl⟩ := trodVars_none hV
  obtain ⟨g, ah, nh, ch, ac, nc, cc, rfl, hh, hc⟩ := open_G (hval 0 24 v0 rfl rfl) h0
  obtain ⟨la, ln, lc, ll, rfl, hl, _⟩ := open_LL (hval 1 28 v1 rfl rfl) h1
  refine (law13Reg_any g ah ac la nh ch nc cc ln lc ll W hh hc hl).mono fun e W' ⟨he, hb⟩ => ?_
  subst he
  exact ⟨_, rfl, law_post hW' rfl rfl (by kernel_rfl) rfl hb⟩
set_option maxHeartbeats 2000000 in
theorem reg13_closed : joinedFacts Try.prog 12 Try.f12 Rows.gridsRegionsSpecSpec Rows.gridsRegionsSpecRow = true := by
  unfold joinedFacts
  refine bt (bt (bt (bt (bt (bt (bt (bt (bt (bt (bt (bt (bt (bt (bt (bt (bt (bt (bt (bt (bt (bt (bt (bt (bt (bt (bt (bt (bt (bt (bt ?a0 ?a1) ?a2) ?a3) ?a4) ?a5) ?a6) ?a7) ?a8) ?a9) ?a10) ?a11) ?a12) ?a13) ?a14) ?a15) ?a16) ?a17) ?a18) ?a19) ?a20) ?a21) ?a22) ?a23) ?a24) ?a25) ?a26) ?a27) ?a28) ?a29) ?a30) ?a31
  case a25 => exact prog_enter
  case a26 => exact prog_lifts
  case a27 => exact prog_make
  all_goals as_aux_lemma => kernel_rfl
theorem gridsRegionsSpec_holds : Rows.GridsRegionsSpecSaid :=
  OpenClaim.holds_of_wide 12 Try.f12 rfl rfl rfl rfl rfl rfl rfl ⟨rfl, rfl, rfl, rfl, rfl⟩ rfl rfl rfl rfl rfl (by kernel_rfl) Try.func12 reg13_closed
    (of_decide_eq_true (by kernel_rfl)) (by unfold Func.isWrapper; rw [if_neg (of_decide_eq_false (by kernel_rfl))]; exact ⟨rfl, rfl⟩)
    (fun os started H enc _ => reg13_lifted os started H enc)
#print axioms gridsRegionsSpec_holds
end Go.Proofs.Ytjiacdihfbbfjaa

