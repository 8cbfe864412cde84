/- For every grid, valid or not, and every number of a family, grids.Neighbors and grids.Family answer as the reference does (law13.GridsFamilySpec), at every input. -/
import Derived.Test.YtjiacdihfbbfjaaLGs
import Derived.Test.YtjiacdihfbbfjaaRowX
import Derived.Test.YtjiacdihfbbfjaaHeadF
import Derived.WalkKit
import Derived.WalkSpells
import Derived.WalkLawsBesides
import Derived.Deep.LoopGhost
import Derived.Deep.QuietTactic
import Derived.BigQuiet
import Derived.StillTailTactics
import Derived.Lib.Hide
import Derived.Outline
import Derived.Lib.QuietBelow
namespace Go.Proofs.Ytjiacdihfbbfjaa
open Go.ChangeShapes Go.WideShapes Go.ChangeAt Go.RowKit Go.Deep

theorem few13_out {g : Grid} {W : World} {ah ac : Option Addr} {nh ch nc cc : Nat} (h1 : Ints W ah nh ch g.holes) (h2 : Ints W ac nc cc g.cells) (hf : fewG13 g = true) : nh ≤ 300 ∧ nc ≤ 300 := by
  unfold fewG13 at hf
  simp only [Bool.and_eq_true, decide_eq_true_eq] at hf
  rw [← h1.len, ← h2.len]; exact hf
set_option maxRecDepth 20000 in
set_option maxHeartbeats 4000000 in
theorem law13Fam_any (g : Grid) (f : Int) (ah ac : Option Addr) (nh ch nc cc : Nat) (W : World) (h1 : Ints W ah nh ch g.holes) (h2 : Ints W ac nc cc g.cells) :
    Calls Try.prog 11 #[.agg #[.int .i64 g.shape, .int .i64 g.w, .int .i64 g.h, .slice ah nh ch, .slice ac nc cc], .int .i64 f] W fun e w' => e = .returned (.bool true) ∧ Below W.heap.size W w' := by
  cases hf : fewG13 g
  · have HF := Lib.hid hf
    clear hf
    have hal : Below W.heap.size W (W.alloc (.cells #[.int .i64 g.shape, .int .i64 g.w, .int .i64 g.h, .slice ah nh ch, .slice ac nc cc] 24)) := (Below.refl _ _).alloc (Nat.le_refl _) _
    have hbx := Box.new W #[.int .i64 g.shape, .int .i64 g.w, .int .i64 g.h, .slice ah nh ch, .slice ac nc cc] 24
    go_enter Try.func11, Try.ntmps11
    go_wp2_with fail
    refine (sane13_any _).mono ?_
    rintro e w1 ⟨rfl, hB1⟩
    have hx1 := hbx.below hB1
    have hB2 := hal.on hB1
    obtain ⟨d0, d1, d2, d3, d4⟩ := hx1.g5
    have hxl1 := hx1.lt
    clear hbx hal hB1
    go_wp2_with fail
    refine (few13_any g ah ac nh ch nc cc w1 (h1.below hB2) (h2.below hB2)).mono ?_
    rintro e w2 ⟨rfl, hB3⟩
    have hx2 := hx1.below hB3
    have hB4 := hB2.on hB3
    clear d0 d1 d2 d3 d4 hx1 hxl1 hB2 hB3
    obtain ⟨d0, d1, d2, d3, d4⟩ := hx2.g5
    have hxl2 := hx2.lt
    rw [HF.out]
    go_wp2_with fail
    go_ret
    exact ⟨rfl, hB4⟩
  · have HF := Lib.hid hf
    obtain ⟨hn, hm⟩ := few13_out h1 h2 hf
    clear hf
    obtain ⟨lN, hlN⟩ : ∃ l, nbOut g = l := ⟨_, rfl⟩
    obtain ⟨eN, heN⟩ : ∃ e, checkErr g = e := ⟨_, rfl⟩
    obtain ⟨lF, hlF⟩ : ∃ l, famOut g f = l := ⟨_, rfl⟩
    obtain ⟨eF, heF⟩ : ∃ e, famErr g f = e := ⟨_, rfl⟩
    have C1 := fun w a b => neighbors_any g ah ac nh ch nc cc w a b (by omega) (by omega)
    have C2 := fun w a b => refNeighbors_any g ah ac nh ch nc cc w a b (by omega) (by omega)
    have C3 := fun w a b => fam_any f g ah ac nh ch nc cc w a b (by omega) (by omega)
    have C4 := fun w a b => rfam_any f g ah ac nh ch nc cc w a b (by omega) (by omega)
    simp only [hlN, heN] at C1 C2
    simp only [hlF, heF] at C3 C4
    have H1 := Lib.hid C1
    have H2 := Lib.hid C2
    have H3 := Lib.hid C3
    have H4 := Lib.hid C4
    have tn : (eN == eN) = true := by simp
    have tf : (eF == eF) = true := by simp
    clear C1 C2 C3 C4 hlN heN hlF heF
    have hal : Below W.heap.size W (W.alloc (.cells #[.int .i64 g.shape, .int .i64 g.w, .int .i64 g.h, .slice ah nh ch, .slice ac nc cc] 24)) := (Below.refl _ _).alloc (Nat.le_refl _) _
    have hbx := Box.new W #[.int .i64 g.shape, .int .i64 g.w, .int .i64 g.h, .slice ah nh ch, .slice ac nc cc] 24
    go_enter Try.func11, Try.ntmps11
    go_wp2_with fail
    refine (sane13_any _).mono ?_
    rintro e w1 ⟨rfl, hB1⟩
    have hx1 := hbx.below hB1
    have hB2 := hal.on hB1
    obtain ⟨d0, d1, d2, d3, d4⟩ := hx1.g5
    have hxl1 := hx1.lt
    clear hbx hal hB1
    go_wp2_with fail
    refine (few13_any g ah ac nh ch nc cc w1 (h1.below hB2) (h2.below hB2)).mono ?_
    rintro e w2 ⟨rfl, hB3⟩
    have hx2 := hx1.below hB3
    have hB4 := hB2.on hB3
    clear d0 d1 d2 d3 d4 hx1 hxl1 hB2 hB3
    obtain ⟨d0, d1, d2, d3, d4⟩ := hx2.g5
    have hxl2 := hx2.lt
    rw [HF.out]
    go_wp2_with fail
    have h1 := h1.below hB4
    have h2 := h2.below hB4
    refine (H1.out _ h1 h2).mono ?_
    rintro e w3 ⟨v3, rfl, O3, hA⟩
    replace hx2 := hx2.below hA
    replace hB4 := hB4.on hA
    replace h1 := h1.below hA
    replace h2 := h2.below hA
    clear d0 d1 d2 d3 d4 hxl2 hA
    obtain ⟨d0, d1, d2, d3, d4⟩ := hx2.g5
    have hxl2 := hx2.lt
    go_wp2_with fail
    refine (H2.out _ h1 h2).mono ?_
    rintro e w4 ⟨v4, rfl, O4, hA⟩
    replace hx2 := hx2.below hA
    replace hB4 := hB4.on hA
    replace h1 := h1.below hA
    replace h2 := h2.below hA
    replace O3 := O3.below hA
    clear d0 d1 d2 d3 d4 hxl2 hA
    obtain ⟨d0, d1, d2, d3, d4⟩ := hx2.g5
    have hxl2 := hx2.lt
    go_wp2_with fail
    refine (H3.out _ h1 h2).mono ?_
    rintro e w5 ⟨v5, rfl, O5, hA⟩
    replace hx2 := hx2.below hA
    replace hB4 := hB4.on hA
    replace h1 := h1.below hA
    replace h2 := h2.below hA
    replace O3 := O3.below hA
    replace O4 := O4.below hA
    clear d0 d1 d2 d3 d4 hxl2 hA
    obtain ⟨d0, d1, d2, d3, d4⟩ := hx2.g5
    have hxl2 := hx2.lt
    go_wp2_with fail
    refine (H4.out _ h1 h2).mono ?_
    rintro e w6 ⟨v6, rfl, O6, hA⟩
    replace hB4 := hB4.on hA
    replace O3 := O3.below hA
    replace O4 := O4.below hA
    replace O5 := O5.below hA
    clear d0 d1 d2 d3 d4 hxl2 hA
    obtain ⟨a3, c3, rfl, R3⟩ := O3.rows
    obtain ⟨a4, c4, rfl, R4⟩ := O4.rows
    obtain ⟨a5, c5, rfl, R5⟩ := O5.rows
    obtain ⟨a6, c6, rfl, R6⟩ := O6.rows
    go_wp2_with fail
    refine (sameLists_lit R3 R4 rfl).mono ?_
    rintro e w7 ⟨rfl, q, rfl⟩
    go_wp2_with fail
    refine (sameLists_lit (R5.drewN q) (R6.drewN q) rfl).mono ?_
    rintro e w8 ⟨rfl, q2, rfl⟩
    go_wp2_with fail
    go_ret
    exact ⟨rfl, below_drewN hB4 _⟩

set_option maxRecDepth 100000 in
set_option maxHeartbeats 2000000 in
theorem fam13_lifted (os : Os) (started : os.Started) (H : Type) (enc : TypeId × Value → H) :
    ReturnsInHanded {} Try.checked os 11 .any (Rows.gridsFamilySpecSpec.pre6 enc Try.prog Try.f11 Rows.gridsFamilySpecRow.domain false) (Rows.gridsFamilySpecSpec.post enc Try.prog Try.f11 false true false false) := by
  refine returnsInHanded_of_change (C := Try.checked) row_own started (by kernel_rfl) Try.func11
    (ChangeSpec.witness6 (enc := enc) (C := Try.checked) false ⟨#[], #[.agg #[.int .i64 0, .int .i64 0, .int .i64 0, .slice none 0 0, .slice none 0 0], .int .i64 0], []⟩ 8 (by kernel_rfl) (by kernel_rfl) (by kernel_rfl) (by kernel_rfl)) ?_
  intro W base args ds gs before hval0 hW _ _
  have hval : ∀ (j : Nat) t v, Try.f11.params[j]? = some t → args[j]? = some v → Value.okWide Try.prog W .any base t v := hval0
  have hW' := hW
  obtain ⟨p, q, hA0, hV, rfl, _, _⟩ := hW
  have hA : DataW.TrodAll enc Try.prog W 0 (fun _ => true) true Try.f11.params.toList args.toList ds p := hA0
  rw [Try.params11] at hA hval
  obtain ⟨v0, v1, d0, d1, p0, p1, rfl, rfl, rfl, h0, h1⟩ := trodAll_two hA
  obtain ⟨rfl, rfl⟩ := trodVars_none hV
  obtain ⟨g, ah, nh, ch, ac, nc, cc, rfl, hh, hc⟩ := open_G (hval 0 24 v0 rfl rfl) h0
  obtain ⟨f, rfl, rfl, rfl, _⟩ := open_int Try.underlying3 (hval 1 3 v1 rfl rfl) h1
  refine (law13Fam_any g f ah ac nh ch nc cc W hh hc).mono fun e W' ⟨he, hb⟩ => ?_
  subst he
  exact ⟨_, rfl, law_post hW' rfl rfl (by kernel_rfl) rfl hb⟩
set_option maxHeartbeats 2000000 in
theorem fam13_closed : joinedFacts Try.prog 11 Try.f11 Rows.gridsFamilySpecSpec Rows.gridsFamilySpecRow = true := by
  unfold joinedFacts
  refine bt (bt (bt (bt (bt (bt (bt (bt (bt (bt (bt (bt (bt (bt (bt (bt (bt (bt (bt (bt (bt (bt (bt (bt (bt (bt (bt (bt (bt (bt (bt ?a0 ?a1) ?a2) ?a3) ?a4) ?a5) ?a6) ?a7) ?a8) ?a9) ?a10) ?a11) ?a12) ?a13) ?a14) ?a15) ?a16) ?a17) ?a18) ?a19) ?a20) ?a21) ?a22) ?a23) ?a24) ?a25) ?a26) ?a27) ?a28) ?a29) ?a30) ?a31
  case a25 => exact prog_enter
  case a26 => exact prog_lifts
  case a27 => exact prog_make
  all_goals as_aux_lemma => kernel_rfl
theorem gridsFamilySpec_holds : Rows.GridsFamilySpecSaid :=
  OpenClaim.holds_of_wide 11 Try.f11 rfl rfl rfl rfl rfl rfl rfl ⟨rfl, rfl, rfl, rfl, rfl⟩ rfl rfl rfl rfl rfl (by kernel_rfl) Try.func11 fam13_closed
    (of_decide_eq_true (by kernel_rfl)) (by unfold Func.isWrapper; rw [if_neg (of_decide_eq_false (by kernel_rfl))]; exact ⟨rfl, rfl⟩)
    (fun os started H enc _ => fam13_lifted os started H enc)
#print axioms gridsFamilySpec_holds
end Go.Proofs.Ytjiacdihfbbfjaa

