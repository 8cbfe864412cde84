/- For every grid that Make returns: Check accepts it, and each position is either a hole or the position of exactly the cell that Cell returns (law13.GridsCells), at every input. -/
import Derived.Test.YtjiacdihfbbfjaaCellM
import Derived.Test.YtjiacdihfbbfjaaLawIn
import Derived.Test.YtjiacdihfbbfjaaLGs
import Derived.Test.YtjiacdihfbbfjaaRowX
import Derived.Test.YtjiacdihfbbfjaaHeadF
import Derived.WalkKit
import Derived.WalkSpells
import Derived.WalkLawsBesides
import Derived.Deep.LoopGhost
import Derived.Deep.QuietTactic
import Derived.BigQuiet
import Derived.StillTailTactics
import Derived.Lib.Hide
import Derived.Outline
import Derived.Lib.QuietBelow
namespace Go.Proofs.Ytjiacdihfbbfjaa
open Go.ChangeShapes Go.WideShapes Go.ChangeAt Go.RowKit Go.Deep

theorem int_eq {a b : Int} (h : a = b) : Value.int .i64 a = Value.int .i64 b := by rw [h]
theorem check_made {s w h : Int} {l : List Int} {g : Grid} (hg : makeL s w h l = some g) : checkErr g = 0 := by
  obtain ⟨hv, h1, h2, h3, h4⟩ := valid_make hg
  rcases checkErr_cases g with ⟨h, _⟩ | ⟨_, h⟩
  · exact h
  · exact absurd hv h
set_option maxRecDepth 20000 in
set_option maxHeartbeats 4000000 in
theorem law13Cells_any (s w h : Int) (a0 : Option Addr) (n0 c0 : Nat) (holes : List Int) (W : World) (h0 : Ints W a0 n0 c0 holes) :
    Calls Try.prog 13 #[.int .i64 s, .int .i64 w, .int .i64 h, .slice a0 n0 c0] W fun e w' => e = .returned (.bool true) ∧ Below W.heap.size W w' := by
  have hm0 := h0.mx
  have hc0 := h0.cap
  unfold maxLen at hm0
  by_cases h300 : 300 < n0
  · have t1 : decide (300 < (n0 : Int)) = true := by simp; omega
    have t2 : decide (300 < n0) = true := by simp; omega
    go_enter Try.func13, Try.ntmps13
    go_wp2_with fail
    refine (sane13_any _).mono ?_
    rintro e w1 ⟨rfl, hB1⟩
    go_wp2_with fail
    go_ret
    exact ⟨rfl, hB1⟩
  · have t1 : decide (300 < (n0 : Int)) = false := by simp; omega
    have t2 : decide (300 < n0) = false := by simp; omega
    cases hmk : makeL s w h holes with
    | none =>
      have HM := Lib.hid hmk
      clear hmk
      go_enter Try.func13, Try.ntmps13
      go_wp2_with fail
      refine (sane13_any _).mono ?_
      rintro e w1 ⟨rfl, hB1⟩
      go_wp2_with fail
      refine (make_none (h0.below hB1) (by omega) HM.out).mono ?_
      rintro e w2 ⟨v2, rfl, ⟨a3, n3, c3, a4, n4, c4, rfl, I3, I4, _, _⟩, hA⟩
      have hB2 := hB1.on hA
      have hbx := Box.new w2 #[.int .i64 zeroGrid.shape, .int .i64 zeroGrid.w, .int .i64 zeroGrid.h, .slice a3 n3 c3, .slice a4 n4 c4] 24
      have hal : Below w2.heap.size w2 (w2.alloc (.cells #[.int .i64 zeroGrid.shape, .int .i64 zeroGrid.w, .int .i64 zeroGrid.h, .slice a3 n3 c3, .slice a4 n4 c4] 24)) := (Below.refl _ _).alloc (Nat.le_refl _) _
      clear hA hB1
      go_wp2_with fail
      refine (sameGrid_any zeroGrid a3 a4 n3 c3 n4 c4 none none 0 0 0 0 _ (I3.below hal) (I4.below hal) (Ints.nil _) (Ints.nil _)).mono ?_
      rintro e w3 ⟨rfl, hA⟩
      have hx3 := hbx.below hA
      have hB3 := (hB2.on hal).on hA
      obtain ⟨d0, d1, d2, d3, d4⟩ := hx3.g5
      have hxl2 := hx3.lt
      have hc := gridsCheck_any zeroGrid a3 a4 n3 c3 n4 c4 w3 ((I3.below hal).below hA) ((I4.below hal).below hA) (by rw [← I3.len]; decide) (by rw [← I4.len]; decide)
      rw [(by kernel_rfl : checkErr zeroGrid = 130)] at hc
      have HC := Lib.hid hc
      clear hc hA hal hbx
      go_wp2_with fail
      refine HC.out.mono ?_
      rintro e w4 ⟨rfl, hA⟩
      go_wp2_with fail
      go_ret
      exact ⟨rfl, hB3.on hA⟩
    | some g =>
      obtain ⟨hv, rfl, rfl, rfl, e4⟩ := valid_make hmk
      have hd := hv.dims
      have har := hv.area
      have hdw : (1 ≤ g.w ∧ g.w ≤ 16) ∧ 1 ≤ g.h ∧ g.h ≤ 16 := ⟨⟨hd.2.1, hd.2.2.1⟩, hd.2.2.2.1, hd.2.2.2.2⟩
      obtain ⟨⟨b1, b2⟩, b3, b4⟩ := hdw
      have hAA : ∃ A : Nat, g.w * g.h = A := ⟨(g.w * g.h).toNat, by omega⟩
      obtain ⟨A, hA⟩ := hAA
      rw [hA] at har
      have hA256 : 1 ≤ A ∧ A ≤ 256 := by omega
      obtain ⟨hA1, hA2⟩ := hA256
      have hcells := made_cells hmk hA
      have hlen := made_len hmk hA
      have hck := check_made hmk
      have hpos := hv.pos
      have HM := Lib.hid hmk
      have HV := Lib.hid hv
      have HCE := Lib.hid hcells
      have HE4 := Lib.hid e4
      have HCK := Lib.hid hck
      have HLE := Lib.hid hlen
      have h256 := hv.len
      have hnl : n0 + g.cells.length = A := by rw [← h0.len]; omega
      have HNL := Lib.hid hnl
      have u1 : decide (g.w < 1) = false := by simp; omega
      have u2 : decide (16 < g.w) = false := by simp; omega
      have u3 : decide (g.h < 1) = false := by simp; omega
      have u4 : decide (16 < g.h) = false := by simp; omega
      clear hmk hv hd har hcells e4 hck hlen hnl
      go_enter Try.func13, Try.ntmps13
      go_wp2_with fail
      refine (sane13_any _).mono ?_
      rintro e w1 ⟨rfl, hB1⟩
      go_wp2_with fail
      refine (make_some (h0.below hB1) (by omega) HM.out).mono ?_
      rintro e w2 ⟨v2, rfl, ⟨ah, nh, ch, ac, nc, cc, rfl, I3, I4, _, _⟩, hA3⟩
      have hB2 := hB1.on hA3
      have hJ := (h0.below hB1).below hA3
      have hbx := Box.new w2 #[.int .i64 g.shape, .int .i64 g.w, .int .i64 g.h, .slice ah nh ch, .slice ac nc cc] 24
      have hal : Below w2.heap.size w2 (w2.alloc (.cells #[.int .i64 g.shape, .int .i64 g.w, .int .i64 g.h, .slice ah nh ch, .slice ac nc cc] 24)) := (Below.refl _ _).alloc (Nat.le_refl _) _
      have hc := gridsCheck_any g ah ac nh ch nc cc _ (I3.below hal) (I4.below hal) (by rw [← I3.len, HE4.out, h0.len]; omega) (by rw [← I4.len]; omega)
      rw [HCK.out] at hc
      have HC := Lib.hid hc
      have hl4 := I4.len
      have hs1 : (nc : Int) + (n0 : Int) = (A : Int) := by rw [← hl4]; have := HNL.out; omega
      have hnc : 0 < nc ∧ nc ≤ 256 := by rw [← hl4]; exact ⟨hpos, h256⟩
      obtain ⟨hnc1, hnc2⟩ := hnc
      have tnc : ((nc : Int) == 0) = false := by rw [beq_eq_false_iff_ne]; omega
      have hcap4 := I4.cap
      have hmx4 := I4.mx
      unfold maxLen at hmx4
      have HL4 := Lib.hid hl4
      clear hc hl4 hB1 hA3 hpos h256
      go_wp2_with fail
      refine HC.out.mono ?_
      rintro e w3 ⟨rfl, hA3⟩
      have hx3 := hbx.below hA3
      have hB3 := (hB2.on hal).on hA3
      have hJ3 := (hJ.below hal).below hA3
      have hI3 := (I3.below hal).below hA3
      have hI4 := (I4.below hal).below hA3
      obtain ⟨d0, d1, d2, d3, d4⟩ := hx3.g5
      have hxl2 := hx3.lt
      clear HC hbx hal hA3 hJ I3 I4 hB2
      obtain ⟨B, hB⟩ : ∃ B, w2.heap.size = B := ⟨_, rfl⟩
      rw [hB] at hx3 d0 d1 d2 d3 d4 hxl2 ⊢
      have HBB := Lib.hid hB
      clear hB
      go_wp2_with fail
      go_loopw [8, 11, 12] (fun v n c wr => ∃ p : Nat, p ≤ A + 2 ∧ v = .bool false ∧ n = .int .i64 (nextAt A holes p : Nat) ∧ c = .int .i64 ((p : Int) - 1) ∧ Below w3.heap.size w3 wr) (fun _ _ c _ => (A + 1 - intOf c).toNat)
      case atStart => exact ⟨0, by omega, rfl, by rw [nextAt_zero]; rfl, by go_num, Below.refl _ _⟩
      case round =>
        obtain ⟨p, hp, rfl, rfl, rfl, hBr⟩ := hrel
        have hxr := hx3.below hBr
        have hJr := hJ3.below hBr
        have hIr3 := hI3.below hBr
        have hIr4 := hI4.below hBr
        have hce : ∀ x, cellOut g x = cellL (cellsUpto A holes) x := fun x => by unfold cellOut; rw [if_pos HCK.out, HCE.out]
        have hc := gcell_any g ah ac nh ch nc cc ((p : Int) - 1) wr hIr3 hIr4 (by rw [← hIr3.len, HE4.out, h0.len]; omega) (by omega)
        rw [hce] at hc
        clear d0 d1 d2 d3 d4 hxl2 hce
        obtain ⟨d0, d1, d2, d3, d4⟩ := hxr.g5
        have hxl2 := hxr.lt
        by_cases hlt : p < A + 2
        · have tp : decide ((p : Int) - 1 ≤ (A : Int)) = true := by simp; omega
          by_cases hp0 : p = 0
          · subst hp0
            have hco : cellL (cellsUpto A holes) (((0 : Nat) : Int) - 1) = (0, false) := by unfold cellL; rw [cell_out (.inl (by omega))]; rfl
            rw [hco] at hc
            have HC := Lib.hid hc
            have HN0 := Lib.hid (nextAt_zero A holes)
            have HN1 := Lib.hid (nextAt_one A holes)
            obtain ⟨z, hz⟩ : ∃ z : Int, ((0 : Nat) : Int) - 1 = z := ⟨_, rfl⟩
            obtain ⟨N, hN⟩ : ∃ N, nextAt A holes 0 = N := ⟨_, rfl⟩
            rw [hz] at HC tp ⊢
            rw [hN] at HN0 ⊢
            have tz : decide (z < 0) = true := by simp; omega
            have HZ := Lib.hid hz
            have hzb1 : -1 ≤ z := by omega
            have hzb2 : z < 0 := by omega
            clear hc hco hz hN
            go_wp2_with fail
            refine HC.out.mono ?_
            rintro e w4 ⟨rfl, hA4⟩
            have hx4 := hxr.below hA4
            clear d0 d1 d2 d3 d4 hxl2
            obtain ⟨d0, d1, d2, d3, d4⟩ := hx4.g5
            have hxl2 := hx4.lt
            go_wp2_with fail
            go_roundw
            case rel => exact ⟨1, by omega, rfl, by rw [HN0.out, HN1.out], int_eq (by have := HZ.out; omega), hBr.on hA4⟩
            case measure => have := HZ.out; simp only [intOf]; omega
          · by_cases hpA : p = A + 1
            · subst hpA
              have hco : cellL (cellsUpto A holes) (((A + 1 : Nat) : Int) - 1) = (0, false) := by unfold cellL; rw [cell_out (.inr (by omega))]; rfl
              rw [hco] at hc
              have HC := Lib.hid hc
              have HN0 := Lib.hid (nextAt_end A holes)
              obtain ⟨z, hz⟩ : ∃ z : Int, ((A + 1 : Nat) : Int) - 1 = z := ⟨_, rfl⟩
              obtain ⟨N, hN⟩ : ∃ N, nextAt A holes (A + 1) = N := ⟨_, rfl⟩
              rw [hz] at HC tp ⊢
              rw [hN] at HN0 ⊢
              have tz : decide (z < 0) = false := by simp; omega
              have tz2 : (z == (A : Int)) = true := by rw [beq_iff_eq]; omega
              have HZ := Lib.hid hz
              have hzb1 : 0 ≤ z := by omega
              have hzb2 : z ≤ 256 := by omega
              clear hc hco hz hN
              go_wp2_with fail
              refine HC.out.mono ?_
              rintro e w4 ⟨rfl, hA4⟩
              have hx4 := hxr.below hA4
              clear d0 d1 d2 d3 d4 hxl2
              obtain ⟨d0, d1, d2, d3, d4⟩ := hx4.g5
              have hxl2 := hx4.lt
              go_wp2_with fail
              go_roundw
              case rel => exact ⟨A + 2, by omega, rfl, by rw [HN0.out], int_eq (by have := HZ.out; omega), hBr.on hA4⟩
              case measure => have := HZ.out; simp only [intOf]; omega
            · obtain ⟨q, rfl⟩ : ∃ q, p = q + 1 := ⟨p - 1, by omega⟩
              have hq : q < A := by omega
              obtain ⟨z, hz⟩ : ∃ z : Int, ((q + 1 : Nat) : Int) - 1 = z := ⟨_, rfl⟩
              have hzq : (q : Int) = z := by omega
              have tz : decide (z < 0) = false := by simp; omega
              have tz2 : (z == (A : Int)) = false := by rw [beq_eq_false_iff_ne]; omega
              have HZ := Lib.hid hzq
              have hzb : 0 ≤ z ∧ z < A := by omega
              obtain ⟨hzb1, hzb2⟩ := hzb
              rw [hz] at hc tp ⊢
              cases hin : inL holes z
              · have h1 := cell_cell (A := A) (q := q) (l := holes) hq (by rw [hzq]; exact hin)
                rw [hzq] at h1
                have hco : cellL (cellsUpto A holes) z = (((nextAt A holes (q + 1) : Nat) : Int), true) := by unfold cellL; rw [h1.1, if_pos rfl, h1.2.1]
                have HN0 := Lib.hid (nextAt_cell (A := A) (q := q) (l := holes) hq (by rw [hzq]; exact hin))
                obtain ⟨N, hN⟩ : ∃ N, nextAt A holes (q + 1) = N := ⟨_, rfl⟩
                rw [hN] at HN0 hco h1 ⊢
                rw [hco] at hc
                have HC := Lib.hid hc
                have hNl : N < nc := by rw [← hIr4.len, HCE.out]; exact h1.2.2.1
                have tn1 : decide ((nc : Int) ≤ (N : Int)) = false := by simp; omega
                have tn2 : decide (nc ≤ N) = false := by simp; omega
                have HI := Lib.hid hin
                have hget : g.cells[N]?.getD 0 = z := by rw [HCE.out]; exact h1.2.2.2
                have HGET := Lib.hid hget
                clear hc hco hz hN h1 hin hzq hget
                go_wp2_with fail
                refine HC.out.mono ?_
                rintro e w4 ⟨rfl, hA4⟩
                have hx4 := hxr.below hA4
                have hI4 := hIr4.below hA4
                obtain ⟨b6, o6, hax, hb6⟩ := hI4.at' (by omega)
                have e0 := hI4.cell b6 o6 hax N hNl
                rw [HGET.out] at e0
                subst hax
                clear d0 d1 d2 d3 d4 hxl2
                obtain ⟨d0, d1, d2, d3, d4⟩ := hx4.g5
                have hxl2 := hx4.lt
                have hli := lawin_any a0 n0 c0 holes z w4 (hJr.below hA4)
                rw [HI.out] at hli
                have HLI := Lib.hid hli
                clear hli
                go_wp2_with fail
                refine HLI.out.mono ?_
                rintro e w5 ⟨rfl, rfl⟩
                go_wp2_with fail
                go_roundw
                case rel => exact ⟨q + 2, by omega, rfl, by rw [HN0.out]; go_num, int_eq (by have := HZ.out; omega), hBr.on hA4⟩
                case measure => simp only [intOf]; omega
              · have hco : cellL (cellsUpto A holes) z = (0, false) := by
                  unfold cellL
                  have := cell_hole (A := A) (q := q) (l := holes) (by rw [hzq]; exact hin)
                  rw [hzq] at this
                  rw [this]; rfl
                rw [hco] at hc
                have HC := Lib.hid hc
                have HN0 := Lib.hid (nextAt_hole (A := A) (q := q) (l := holes) hq (by rw [hzq]; exact hin))
                obtain ⟨N, hN⟩ : ∃ N, nextAt A holes (q + 1) = N := ⟨_, rfl⟩
                rw [hN] at HN0 ⊢
                have HI := Lib.hid hin
                clear hc hco hz hN hin hzq
                go_wp2_with fail
                refine HC.out.mono ?_
                rintro e w4 ⟨rfl, hA4⟩
                have hx4 := hxr.below hA4
                clear d0 d1 d2 d3 d4 hxl2
                obtain ⟨d0, d1, d2, d3, d4⟩ := hx4.g5
                have hxl2 := hx4.lt
                have hli := lawin_any a0 n0 c0 holes z w4 (hJr.below hA4)
                rw [HI.out] at hli
                have HLI := Lib.hid hli
                clear hli
                go_wp2_with fail
                refine HLI.out.mono ?_
                rintro e w5 ⟨rfl, rfl⟩
                go_wp2_with fail
                go_roundw
                case rel => exact ⟨q + 2, by omega, rfl, by rw [HN0.out], int_eq (by have := HZ.out; omega), hBr.on hA4⟩
                case measure => simp only [intOf]; omega
        · obtain rfl : p = A + 2 := by omega
          have tp : decide (((A + 2 : Nat) : Int) - 1 ≤ (A : Int)) = false := by simp; omega
          have hlast : nextAt A holes (A + 2) = nc := by rw [nextAt_last, ← HCE.out]; exact HL4.out
          rw [hlast]
          obtain ⟨z, hz⟩ : ∃ z : Int, ((A + 2 : Nat) : Int) - 1 = z := ⟨_, rfl⟩
          rw [hz] at tp ⊢
          clear hc hlast hz
          go_wp2_with fail
          go_ret
          exact ⟨by simp, hB3.on hBr⟩

set_option maxRecDepth 100000 in
set_option maxHeartbeats 2000000 in
theorem cells13_lifted (os : Os) (started : os.Started) (H : Type) (enc : TypeId × Value → H) :
    ReturnsInHanded {} Try.checked os 13 .any (Rows.gridsCellsSpec.pre6 enc Try.prog Try.f13 Rows.gridsCellsRow.domain false) (Rows.gridsCellsSpec.post enc Try.prog Try.f13 false true false false) := by
  refine returnsInHanded_of_change (C := Try.checked) row_own started (by kernel_rfl) Try.func13
    (ChangeSpec.witness6 (enc := enc) (C := Try.checked) false ⟨#[], #[.int .i64 0, .int .i64 0, .int .i64 0, .slice none 0 0], []⟩ 8 (by kernel_rfl) (by kernel_rfl) (by kernel_rfl) (by kernel_rfl)) ?_
  intro W base args ds gs before hval0 hW _ _
  have hval : ∀ (j : Nat) t v, Try.f13.params[j]? = some t → args[j]? = some v → Value.okWide Try.prog W .any base t v := hval0
  have hW' := hW
  obtain ⟨p, q, hA0, hV, rfl, _, _⟩ := hW
  have hA : DataW.TrodAll enc Try.prog W 0 (fun _ => true) true Try.f13.params.toList args.toList ds p := hA0
  rw [Try.params13] at hA hval
  obtain ⟨v0, v1, v2, v3, d0, d1, d2, d3, p0, p1, p2, p3, rfl, rfl, rfl, h0, h1, h2, h3⟩ := trodAll_four hA
  obtain ⟨rfl, rfl⟩ := trodVars_none hV
  obtain ⟨s, rfl, rfl, rfl, _⟩ := open_int Try.underlying3 (hval 0 3 v0 rfl rfl) h0
  obtain ⟨w, rfl, rfl, rfl, _⟩ := open_int Try.underlying3 (hval 1 3 v1 rfl rfl) h1
  obtain ⟨h, rfl, rfl, rfl, _⟩ := open_int Try.underlying3 (hval 2 3 v2 rfl rfl) h2
  obtain ⟨la, ln, lc, l, rfl, hl, _⟩ := open_L (hval 3 22 v3 rfl rfl) h3
  refine (law13Cells_any s w h la ln lc l W hl).mono fun e W' ⟨he, hb⟩ => ?_
  subst he
  exact ⟨_, rfl, law_post hW' rfl rfl (by kernel_rfl) rfl hb⟩
set_option maxHeartbeats 2000000 in
theorem cells13_closed : joinedFacts Try.prog 13 Try.f13 Rows.gridsCellsSpec Rows.gridsCellsRow = true := by
  unfold joinedFacts
  refine bt (bt (bt (bt (bt (bt (bt (bt (bt (bt (bt (bt (bt (bt (bt (bt (bt (bt (bt (bt (bt (bt (bt (bt (bt (bt (bt (bt (bt (bt (bt ?a0 ?a1) ?a2) ?a3) ?a4) ?a5) ?a6) ?a7) ?a8) ?a9) ?a10) ?a11) ?a12) ?a13) ?a14) ?a15) ?a16) ?a17) ?a18) ?a19) ?a20) ?a21) ?a22) ?a23) ?a24) ?a25) ?a26) ?a27) ?a28) ?a29) ?a30) ?a31
  case a25 => exact prog_enter
  case a26 => exact prog_lifts
  case a27 => exact prog_make
  all_goals as_aux_lemma => kernel_rfl
theorem gridsCells_holds : Rows.GridsCellsSaid :=
  OpenClaim.holds_of_wide 13 Try.f13 rfl rfl rfl rfl rfl rfl rfl ⟨rfl, rfl, rfl, rfl, rfl⟩ rfl rfl rfl rfl rfl (by kernel_rfl) Try.func13 cells13_closed
    (of_decide_eq_true (by kernel_rfl)) (by unfold Func.isWrapper; rw [if_neg (of_decide_eq_false (by kernel_rfl))]; exact ⟨rfl, rfl⟩)
    (fun os started H enc _ => cells13_lifted os started H enc)
#print axioms gridsCells_holds
end Go.Proofs.Ytjiacdihfbbfjaa

