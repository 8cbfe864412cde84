/- For every grid, each move keeps the distance of each two cells (law14.MovesDistances), at every input. -/
import Derived.Carry
import Derived.Test.YtjiacdihfbbfjaaSane
import Derived.Test.YtjiacdihfbbfjaaDist
import Derived.Test.YtjiacdihfbbfjaaRow
import Derived.Test.YtjiacdihfbbfjaaHeadF
import Derived.WalkKit
import Derived.WalkSpells
import Derived.WalkLawsBesides
import Derived.Deep.LoopGhost
import Derived.Deep.QuietTactic
import Derived.BigQuiet
import Derived.StillTailTactics
import Derived.Lib.Hide
import Derived.Outline
import Derived.Lib.QuietBelow
namespace Go.Proofs.Ytjiacdihfbbfjaa
open Go.ChangeShapes Go.WideShapes Go.ChangeAt Go.RowKit Go.Deep

/-- What the region reads stays as it is. -/
theorem dist_keep {w0 w w' : World} {gB b op i k : Nat} {v0 v1 v2 v3 v4 vA vB : Value}
    (h : w.cell? ⟨gB, 0, none⟩ = some v0 ∧ w.cell? ⟨gB, 1, none⟩ = some v1 ∧ w.cell? ⟨gB, 2, none⟩ = some v2 ∧ w.cell? ⟨gB, 3, none⟩ = some v3 ∧ w.cell? ⟨gB, 4, none⟩ = some v4 ∧ w.cell? ⟨b, op + i, none⟩ = some vA ∧ w.cell? ⟨b, op + k, none⟩ = some vB ∧ Below w0.heap.size w0 w)
    (hb : Below w.heap.size w w') : w'.cell? ⟨gB, 0, none⟩ = some v0 ∧ w'.cell? ⟨gB, 1, none⟩ = some v1 ∧ w'.cell? ⟨gB, 2, none⟩ = some v2 ∧ w'.cell? ⟨gB, 3, none⟩ = some v3 ∧ w'.cell? ⟨gB, 4, none⟩ = some v4 ∧ w'.cell? ⟨b, op + i, none⟩ = some vA ∧ w'.cell? ⟨b, op + k, none⟩ = some vB ∧ Below w0.heap.size w0 w' := by
  obtain ⟨h0, h1, h2, h3, h4, h5, h6, h7⟩ := h
  have l1 := World.block_lt_of_cell? w _ h0
  have l2 := World.block_lt_of_cell? w _ h5
  exact ⟨(hb.cell (p := ⟨gB, 0, none⟩) l1).trans h0, (hb.cell (p := ⟨gB, 1, none⟩) l1).trans h1, (hb.cell (p := ⟨gB, 2, none⟩) l1).trans h2, (hb.cell (p := ⟨gB, 3, none⟩) l1).trans h3, (hb.cell (p := ⟨gB, 4, none⟩) l1).trans h4,
    (hb.cell (p := ⟨b, op + i, none⟩) l2).trans h5, (hb.cell (p := ⟨b, op + k, none⟩) l2).trans h6, h7.on hb⟩

set_option maxRecDepth 100000 in
set_option maxHeartbeats 4000000 in
theorem lawDist_any (s w h : Int) (a0 : Option Addr) (n0 c0 : Nat) (holes : List Int) (W : World) (h0 : Ints W a0 n0 c0 holes) :
    Calls Try.prog 6 #[.int .i64 s, .int .i64 w, .int .i64 h, .slice a0 n0 c0] W fun e w' => e = .returned (.bool true) ∧ Below W.heap.size W w' := by
  obtain ⟨g, hg⟩ : ∃ g, gridL s w h holes = g := ⟨_, rfl⟩
  have hcs := gridL_cases s w h holes
  rw [hg] at hcs
  have HG := Lib.hid hg
  have HCS := Lib.hid hcs
  clear hg hcs
  go_enter Try.func6, Try.ntmps6
  go_wp2_with fail
  refine (sane_any W).mono ?_
  rintro e w1 ⟨rfl, hB1⟩
  go_wp2_with fail
  refine (grid_any s w h a0 n0 c0 holes _ (h0.below hB1)).mono ?_
  rintro e w2 ⟨v2, rfl, ⟨ah, nh, ch, ac, nc, cc, rfl, hI1, hI2, _, _⟩, hB2⟩
  have hfewG := gridL_few s w h holes
  rw [HG.out] at hI1 hI2 hfewG ⊢
  have hal : Below w2.heap.size w2 (w2.alloc (.cells #[.int .i64 g.shape, .int .i64 g.w, .int .i64 g.h, .slice ah nh ch, .slice ac nc cc] 24)) := (Below.refl _ _).alloc (Nat.le_refl _) _
  have hbx := Box.new w2 #[.int .i64 g.shape, .int .i64 g.w, .int .i64 g.h, .slice ah nh ch, .slice ac nc cc] 24
  have hB3 := (hB1.on hB2).on hal
  have hJ1 := hI1.below hal
  have hJ2 := hI2.below hal
  have hln := hI2.len
  have hlh := hI1.len
  have hcc := hI2.cap
  have hmc := hI2.mx
  unfold maxLen at hmc
  clear hB1 hB2 hI1 hI2 hal
  go_wp2_with fail
  obtain ⟨w3, hw3⟩ : ∃ w3, w2.alloc (.cells #[.int .i64 g.shape, .int .i64 g.w, .int .i64 g.h, .slice ah nh ch, .slice ac nc cc] 24) = w3 := ⟨_, rfl⟩
  rw [hw3] at hbx hB3 hJ1 hJ2 ⊢
  clear hw3
  obtain ⟨gB, hgB⟩ : ∃ gB, w2.heap.size = gB := ⟨_, rfl⟩
  rw [hgB] at hbx ⊢
  clear hgB
  cases hf : fewG g
  · have HF := Lib.hid hf
    clear hf
    refine (fewG_any g ah ac nh ch nc cc w3 hJ1 hJ2).mono ?_
    rintro e w4 ⟨rfl, hB4⟩
    rw [HF.out]
    go_wp2_with fail
    go_ret
    exact ⟨rfl, hB3.on hB4⟩
  · have HF := Lib.hid hf
    clear hf
    refine (fewG_any g ah ac nh ch nc cc w3 hJ1 hJ2).mono ?_
    rintro e w4 ⟨rfl, hB4⟩
    rw [HF.out]
    have hx4 := hbx.below hB4
    have hB5 := hB3.on hB4
    have hJ4 := hJ2.below hB4
    have hv4 : GridV w4 (.agg #[.int .i64 g.shape, .int .i64 g.w, .int .i64 g.h, .slice ah nh ch, .slice ac nc cc]) g := ⟨_, _, _, _, _, _, rfl, hJ1.below hB4, hJ2.below hB4⟩
    clear hbx hB3 hB4 hJ1 hJ2
    obtain ⟨d0, d1, d2, d3, d4⟩ := hx4.g5
    go_wp2_with fail
    refine (moves_lit hv4 ⟨hfewG.1, by omega⟩ rfl rfl).mono ?_
    rintro e w5 ⟨v5, rfl, hO, hB6⟩
    obtain ⟨a5, c5, rfl, hR⟩ := hO.rows
    obtain ⟨ll, hll⟩ : ∃ ll, movesOut g = ll := ⟨_, rfl⟩
    obtain ⟨K, hK⟩ : ∃ K, ll.length = K := ⟨_, rfl⟩
    rw [hll, hK] at hR ⊢
    have hx5 := hx4.below hB6
    have hv5 := hv4.below hB6
    have hB7 := hB5.on hB6
    have hJ5 := hJ4.below hB6
    clear hJ4
    clear d0 d1 d2 d3 d4 hx4 hv4 hB5 hB6 hO
    obtain ⟨E, hE⟩ : ∃ E, checkErr g = E := ⟨_, rfl⟩
    rw [hE]
    have hmc' := hR.mx
    have hcc' := hR.cap
    unfold maxLen at hmc'
    have HV : Hid (0 < K → Valid g ∧ movesL g = ll) := Lib.hid fun h => by
      rcases HCS.out with ⟨g', e1, _, hv, _, e2⟩ | ⟨e1, _, e2⟩
      · subst e1; exact ⟨hv, by rw [← hll, e2]⟩
      · rw [e1, e2] at hll; rw [← hll] at hK; simp at hK; omega
    have hKN : (0 < K ↔ 0 < nc) := by
      rcases HCS.out with ⟨g', e1, _, hv, _, e2⟩ | ⟨e1, _, e2⟩
      · subst e1
        have h1 := (mv_first hv).1
        have h2 := hv.pos
        rw [← e2, hll] at h1
        omega
      · rw [e1, e2] at hll; rw [← hll] at hK; rw [e1] at hln; simp [zeroGrid] at hK hln; omega
    have HLL := Lib.hid hll
    have HK := Lib.hid hK
    obtain ⟨bK, tK⟩ : ∃ bK, decide (0 < K) = bK := ⟨_, rfl⟩
    have tN : decide (0 < nc) = bK := by rw [← tK]; simp [hKN]
    have tK' : decide (0 < (K : Int)) = bK := by rw [← tK]; simp
    have tN' : decide (0 < (nc : Int)) = bK := by rw [← tN]; simp
    have TK := Lib.hid tK
    have TN := Lib.hid tN
    have TK' := Lib.hid tK'
    have TN' := Lib.hid tN'
    clear hll hK hKN tK tN tK' tN' hE
    go_wp2_with fail
    go_loopw [33] (fun c wr => ∃ m : Nat, m ≤ K ∧ c = .int .i64 m ∧ Below w5.heap.size w5 wr) (fun c _ => K - (intOf c).toNat)
    case atStart => exact ⟨0, by omega, rfl, Below.refl _ _⟩
    case round =>
      obtain ⟨m, hm, rfl, hBo⟩ := hrel
      obtain ⟨wo, rfl⟩ : ∃ wo, wo = wr := ⟨_, rfl⟩
      by_cases hlt : m < K
      · obtain ⟨b5, o5, rfl, hb5⟩ := hR.at' (by omega)
        obtain ⟨ai, ni, ci, e0, hI⟩ := hR.row _ _ rfl m hlt
        have e1 := (hBo.cell (p := ⟨b5, o5 + m, none⟩) hb5).trans e0
        obtain ⟨hv, hE⟩ := HV.out (by omega)
        obtain ⟨q, hq⟩ : ∃ q, ll[m]?.getD [] = q := ⟨_, rfl⟩
        have hqm : q ∈ movesL g := by rw [hE, ← hq, List.getElem?_eq_getElem (by rw [HK.out]; exact hlt)]; exact List.getElem_mem _
        rw [hq] at hI
        have HMV := Lib.hid (mv_dist hv hqm)
        have hni : nc = ni := by rw [← hI.len, HMV.out.1, hln]
        subst hni
        have HVD := Lib.hid hv
        clear hE hq hqm hv e0
        have hgo := hx5.below hBo
        obtain ⟨d0, d1, d2, d3, d4⟩ := hgo.g5
        have hIo := hI.below hBo
        have hci := hI.cap
        have hmi := hI.mx
        unfold maxLen at hmi
        go_wp2_with fail
        go_loopw [45] (fun c wr => ∃ i : Nat, i ≤ nc ∧ c = .int .i64 i ∧ Below wo.heap.size wo wr) (fun c _ => nc - (intOf c).toNat)
        case atStart => exact ⟨0, by omega, rfl, Below.refl _ _⟩
        case round =>
          clear d0 d1 d2 d3 d4
          obtain ⟨i, hi, rfl, hBi⟩ := hrel
          obtain ⟨wi, rfl⟩ : ∃ wi, wi = wr := ⟨_, rfl⟩
          by_cases hlt2 : i < nc
          · go_wp2_with fail
            go_loopw [49] (fun c wr => ∃ k : Nat, k ≤ i ∧ c = .int .i64 k ∧ Below wi.heap.size wi wr) (fun c _ => i - (intOf c).toNat)
            case atStart => exact ⟨0, by omega, rfl, Below.refl _ _⟩
            case round =>
              obtain ⟨k, hk, rfl, hBk⟩ := hrel
              obtain ⟨wk, rfl⟩ : ∃ wk, wk = wr := ⟨_, rfl⟩
              by_cases hlt3 : k < i
              · obtain ⟨A, hA, eA, hdA⟩ := HMV.out.2 i (by omega)
                obtain ⟨B, hB, eB, _⟩ := HMV.out.2 k (by omega)
                have HDS := Lib.hid (hdA k (by omega) B eB)
                have hBok := (hBi.on hBk)
                have hIk := hIo.below hBok
                obtain ⟨b9, o9, rfl, hb9⟩ := hIk.at' (by omega)
                have cA := hIk.cell _ _ rfl i (by omega)
                have cB := hIk.cell _ _ rfl k (by omega)
                rw [eA] at cA
                rw [eB] at cB
                have hgk := hgo.below hBok
                obtain ⟨d0, d1, d2, d3, d4⟩ := hgk.g5
                have tA : decide (nc ≤ A) = false := by simp; omega
                have tA' : decide ((nc : Int) ≤ (A : Int)) = false := by simp; omega
                have tB : decide (nc ≤ B) = false := by simp; omega
                have tB' : decide ((nc : Int) ≤ (B : Int)) = false := by simp; omega
                have q0 : (0 : Int) ≤ (i : Int) := by omega
                have q1 : (i : Int) < (nc : Int) := by omega
                have q2 : (0 : Int) ≤ (k : Int) := by omega
                have q3 : (k : Int) < (nc : Int) := by omega
                have q4 : (0 : Int) ≤ (A : Int) := by omega
                have q5 : (0 : Int) ≤ (B : Int) := by omega
                have hJc : Ints wk ac nc cc g.cells := (hJ5.below hBo).below hBok
                have hvd := HVD.out.dims
                have HC : Hid (∀ x ∈ g.cells, 0 ≤ x ∧ x < 256) := Lib.hid fun x hx => by have := HVD.out.mem hx; have := HVD.out.area; omega
                obtain ⟨D, hD⟩ : ∃ D, distL g i k = D := ⟨_, rfl⟩
                have hD2 : distL g A B = D := by rw [HDS.out]; exact hD
                have HC1 : Hid (∀ (w : World) (x y : Nat), ((x = i ∧ y = k) ∨ (x = A ∧ y = B)) → Below wk.heap.size wk w → Calls Try.prog 35 #[.agg #[.int .i64 g.shape, .int .i64 g.w, .int .i64 g.h, .slice ah nh ch, .slice ac nc cc], .int .i64 x, .int .i64 y] w fun e w' => e = .returned (.int .i64 D) ∧ Below w.heap.size w w') := Lib.hid fun w x y hxy hb => by
                  rcases hxy with ⟨rfl, rfl⟩ | ⟨rfl, rfl⟩
                  · rw [← hD]; exact distance_any g ah ac nh ch nc cc _ _ _ (hJc.below hb) hvd.1 ⟨hvd.2.1, hvd.2.2.1⟩ HC.out (by omega) (by omega)
                  · rw [← hD2]; exact distance_any g ah ac nh ch nc cc _ _ _ (hJc.below hb) hvd.1 ⟨hvd.2.1, hvd.2.2.1⟩ HC.out (by omega) (by omega)
                clear eA eB hdA hD hD2 HDS hvd HC
                go_wp2_with fail
                go_region_held3 (fun w' => w'.cell? ⟨gB, 0, none⟩ = some (.int .i64 g.shape) ∧ w'.cell? ⟨gB, 1, none⟩ = some (.int .i64 g.w) ∧ w'.cell? ⟨gB, 2, none⟩ = some (.int .i64 g.h) ∧ w'.cell? ⟨gB, 3, none⟩ = some (.slice ah nh ch) ∧ w'.cell? ⟨gB, 4, none⟩ = some (.slice ac nc cc) ∧ w'.cell? ⟨b9, o9 + i, none⟩ = some (.int .i64 A) ∧ w'.cell? ⟨b9, o9 + k, none⟩ = some (.int .i64 B) ∧ Below wk.heap.size wk w')
                  (first | exact ⟨d0, d1, d2, d3, d4, cA, cB, (Below.refl _ _).drew⟩ | exact dist_keep (by assumption) (by assumption))
                  (first | (go_at_call 35; refine (HC1.out _ _ _ (by first | exact .inl ⟨rfl, rfl⟩ | exact .inr ⟨rfl, rfl⟩) (by first | exact (Below.refl _ _).drew | (go_split_ands; assumption))).mono ?_; rintro e w' ⟨rfl, hb⟩))
                clear HC1
                go_wp2_with fail
                go_roundw
                case rel => go_split_ands; exact ⟨k + 1, by omega, by go_num, hBk.on (by assumption)⟩
                case measure => simp [intOf]; omega
              · obtain rfl : k = i := by omega
                go_wp2_with fail
                go_roundw
                case rel => exact ⟨k + 1, by omega, by go_num, hBi.on hBk⟩
                case measure => simp [intOf]; omega
          · obtain rfl : i = nc := by omega
            go_wp2_with fail
            go_roundw
            case rel => exact ⟨m + 1, by omega, by go_num, hBo.on hBi⟩
            case measure => simp [intOf]; omega
      · obtain rfl : m = K := by omega
        have hgo := hx5.below hBo
        obtain ⟨d0, d1, d2, d3, d4⟩ := hgo.g5
        have tK := TK.out
        have tN := TN.out
        have tK' := TK'.out
        have tN' := TN'.out
        go_wp2_with fail
        go_ret
        exact ⟨by simp, hB7.on hBo⟩

set_option maxRecDepth 100000 in
set_option maxHeartbeats 2000000 in
theorem distances_lifted (os : Os) (started : os.Started) (H : Type) (enc : TypeId × Value → H) :
    ReturnsInHanded {} Try.checked os 6 .any (Rows.movesDistancesSpec.pre6 enc Try.prog Try.f6 Rows.movesDistancesRow.domain false) (Rows.movesDistancesSpec.post enc Try.prog Try.f6 false true false false) := by
  refine returnsInHanded_of_change (C := Try.checked) row_own started (by kernel_rfl) Try.func6
    (ChangeSpec.witness6 (enc := enc) (C := Try.checked) false ⟨#[], #[.int .i64 0, .int .i64 0, .int .i64 0, .slice none 0 0], []⟩ 8 (by kernel_rfl) (by kernel_rfl) (by kernel_rfl) (by kernel_rfl)) ?_
  intro W base args ds gs before hval0 hW _ _
  have hval : ∀ (j : Nat) t v, Try.f6.params[j]? = some t → args[j]? = some v → Value.okWide Try.prog W .any base t v := hval0
  have hW' := hW
  obtain ⟨p, q, hA0, hV, rfl, _, _⟩ := hW
  have hA : DataW.TrodAll enc Try.prog W 0 (fun _ => true) true Try.f6.params.toList args.toList ds p := hA0
  rw [Try.params6] at hA hval
  obtain ⟨v0, v1, v2, v3, d0, d1, d2, d3, p0, p1, p2, p3, rfl, rfl, rfl, h0, h1, h2, h3⟩ := trodAll_four hA
  obtain ⟨rfl, rfl⟩ := trodVars_none hV
  obtain ⟨s, rfl, rfl, rfl, _⟩ := open_int Try.underlying3 (hval 0 3 v0 rfl rfl) h0
  obtain ⟨w, rfl, rfl, rfl, _⟩ := open_int Try.underlying3 (hval 1 3 v1 rfl rfl) h1
  obtain ⟨h, rfl, rfl, rfl, _⟩ := open_int Try.underlying3 (hval 2 3 v2 rfl rfl) h2
  obtain ⟨ap, np, cp, pl, rfl, hp, _⟩ := open_L (hval 3 22 v3 rfl rfl) h3
  refine (lawDist_any s w h ap np cp pl W hp).mono fun e W' ⟨he, hb⟩ => ?_
  subst he
  exact ⟨_, rfl, law_post hW' rfl rfl (by kernel_rfl) rfl hb⟩
set_option maxHeartbeats 2000000 in
theorem movesDistances_closed : joinedFacts Try.prog 6 Try.f6 Rows.movesDistancesSpec Rows.movesDistancesRow = true := by
  unfold joinedFacts
  refine bt (bt (bt (bt (bt (bt (bt (bt (bt (bt (bt (bt (bt (bt (bt (bt (bt (bt (bt (bt (bt (bt (bt (bt (bt (bt (bt (bt (bt (bt (bt ?a0 ?a1) ?a2) ?a3) ?a4) ?a5) ?a6) ?a7) ?a8) ?a9) ?a10) ?a11) ?a12) ?a13) ?a14) ?a15) ?a16) ?a17) ?a18) ?a19) ?a20) ?a21) ?a22) ?a23) ?a24) ?a25) ?a26) ?a27) ?a28) ?a29) ?a30) ?a31
  case a25 => exact prog_enter
  case a26 => exact prog_lifts
  case a27 => exact prog_make
  all_goals as_aux_lemma => kernel_rfl
theorem movesDistances_holds : Rows.MovesDistancesSaid :=
  OpenClaim.holds_of_wide 6 Try.f6 rfl rfl rfl rfl rfl rfl rfl ⟨rfl, rfl, rfl, rfl, rfl⟩ rfl rfl rfl rfl rfl (by kernel_rfl) Try.func6 movesDistances_closed
    (of_decide_eq_true (by kernel_rfl)) (by unfold Func.isWrapper; rw [if_neg (of_decide_eq_false (by kernel_rfl))]; exact ⟨rfl, rfl⟩)
    (fun os started H enc _ => distances_lifted os started H enc)
#print axioms movesDistances_holds
end Go.Proofs.Ytjiacdihfbbfjaa
