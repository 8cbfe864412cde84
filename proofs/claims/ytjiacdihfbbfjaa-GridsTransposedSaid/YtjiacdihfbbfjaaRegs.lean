/- Contract of grids.Regions. -/
import Derived.Test.YtjiacdihfbbfjaaFams
import Derived.Test.YtjiacdihfbbfjaaLins
import Derived.Test.YtjiacdihfbbfjaaRNbX
import Derived.Test.YtjiacdihfbbfjaaMovEq
import Derived.WalkKit
import Derived.WalkSpells
import Derived.WalkLawsBesides
import Derived.Deep.LoopGhost
import Derived.Deep.QuietTactic
import Derived.BigQuiet
import Derived.StillTailTactics
import Derived.Lib.Hide
import Derived.Outline
import Derived.Lib.QuietBelow
import Derived.Deep.RegionHeld3
import Derived.Test.YtjiacdihfbbfjaaRefX
namespace Go.Proofs.Ytjiacdihfbbfjaa
open Go.RowKit

theorem idx_bd {cs : List Int} {n : Nat} (hn : cs.length = n) (hs : cs.Pairwise (· < ·)) {x : Int} (h : inL cs x = true) : 0 ≤ idxL cs x ∧ idxL cs x < n := by
  have h0 : 0 ≤ idxL cs x := by rw [← bsearch_idx hs h]; omega
  obtain ⟨q, h1, h2, _⟩ := idxL_some h0
  omega
set_option maxRecDepth 40000 in
set_option maxHeartbeats 4000000 in
theorem gRegions_any (g : Grid) (ah ac la : Option Addr) (nh ch nc cc ln lc : Nat) (ll : List (List Int)) (W : World) (h1 : Ints W ah nh ch g.holes) (h2 : Ints W ac nc cc g.cells) (hn : nh ≤ 10000000) (hm : nc ≤ 10000000000) (h3 : Rows W la ln lc ll) (hb : ∀ i : Nat, (ll[i]?.getD []).length ≤ 1000000) :
    Calls Try.prog 50 #[.agg #[.int .i64 g.shape, .int .i64 g.w, .int .i64 g.h, .slice ah nh ch, .slice ac nc cc], .slice la ln lc] W (RetRowsE W 22 (regOut g ll) (regErr g ll)) := by
  have hal : Below W.heap.size W (W.alloc (.cells #[.int .i64 g.shape, .int .i64 g.w, .int .i64 g.h, .slice ah nh ch, .slice ac nc cc] 24)) := (Below.refl _ _).alloc (Nat.le_refl _) _
  have hbx := Box.new W #[.int .i64 g.shape, .int .i64 g.w, .int .i64 g.h, .slice ah nh ch, .slice ac nc cc] 24
  have hck := gridsCheck_any g ah ac nh ch nc cc _ (h1.below hal) (h2.below hal) hn hm
  have hmk := fun w => run_makeMap (P := Try.prog) 94 w
  have hl3 := h3.len
  have hmx := h3.mx
  have hcp := h3.cap
  unfold maxLen at hmx
  rcases checkErr_cases g with ⟨he, hv⟩ | ⟨he, _⟩
  · rw [he] at hck
    have HCK := Lib.hid hck
    have HV := Lib.hid hv
    have HE := Lib.hid he
    clear hck hv he
    by_cases h64 : ln ≤ 64
    · have t64 : decide (64 < ln) = false := by simp; omega
      have t64' : decide ((64 : Int) < (ln : Int)) = false := by simp; omega
      go_enter Try.func50, Try.ntmps50
      go_wp2_with fail
      refine HCK.out.mono ?_
      rintro e w1 ⟨rfl, hB1⟩
      have hx1 := hbx.below hB1
      have hB2 := hal.on hB1
      have hxl := hx1.lt
      obtain ⟨d0, d1, d2, d3, d4⟩ := hx1.g5
      have h3' := h3.below hB2
      have h2' := h2.below hB2
      have hnl := HV.out.len
      rw [h2.len] at hnl
      have HBL := Lib.hid hb
      have HL3 := Lib.hid hl3
      clear hb hl3 hbx hal hB1 d0 d1 d2 d3 d4
      obtain ⟨i3, hi3, hz30, hz31, hz32⟩ := info_parts info_int
      obtain ⟨i22, hi22, hz220, hz221, hz222⟩ := info_parts info_ints
      go_wp2_with fail
      go_loopw [4, 5, 24] (fun v ve c wr => ∃ k : Nat, k ≤ ln ∧ ve = .int .i64 0 ∧ c = .int .i64 k ∧ OwnRows wr w1.heap.size 22 v ((ll.take k).map (idxs g.cells)) ∧ Hid (∀ i, i < k → regOk g.cells (ll[i]?.getD []) = true) ∧ Below w1.heap.size w1 wr) (fun _ _ c _ => ln - (intOf c).toNat)
      case atStart => exact ⟨0, by omega, rfl, rfl, OwnRows.nil _ _ _, Lib.hid (fun i hi => by omega), Below.refl _ _⟩
      case round =>
        obtain ⟨k, hk, rfl, rfl, hO, HR, hBo⟩ := hrel
        obtain ⟨wo, rfl⟩ : ∃ wo, wo = wr := ⟨_, rfl⟩
        have hso := hBo.size
        by_cases hlt : k < ln
        · obtain ⟨ao, co, rfl, _⟩ := hO.rows
          have hlen : ((ll.take k).map (idxs g.cells)).length = k := by rw [List.length_map, List.length_take, HL3.out]; omega
          rw [hlen] at hO ⊢
          obtain ⟨b5, o5, hla, hb5⟩ := h3'.at' (by omega)
          obtain ⟨ax, nx, cx, e0, hIx⟩ := h3'.row b5 o5 hla k hlt
          subst hla
          have e1 := (hBo.cell (p := ⟨b5, o5 + k, none⟩) hb5).trans e0
          have hxb := HBL.out k
          obtain ⟨x, hx⟩ : ∃ x, ll[k]?.getD [] = x := ⟨_, rfl⟩
          rw [hx] at hIx hxb
          have HX := Lib.hid hx
          have HLE := Lib.hid hlen
          have hcx := hIx.cap
          have hmx2 := hIx.mx
          unfold maxLen at hmx2
          have hxl2 := hIx.len
          clear hx e0 hlen
          go_wp2_with fail
          obtain ⟨wm, hwm⟩ : ∃ wm, wo.alloc (.map #[] 0) = wm := ⟨_, rfl⟩
          have hM0 : VMap wm wo.heap.size [] (fun _ => .bool true) := by rw [← hwm]; exact VMap.made wo _
          have hBm : Below wo.heap.size wo wm := by rw [← hwm]; exact (Below.refl _ _).alloc (Nat.le_refl _) _
          rw [hwm]
          clear hwm
          have hMl := hM0.lt
          go_loopw [4, 5, 8, 31] (fun v4 v5 v8 c wr => ∃ j : Nat, j ≤ nx ∧ v4 = .slice ao k co ∧ v5 = .int .i64 0 ∧ c = .int .i64 j ∧ OwnInts wr wm.heap.size 3 v8 (idxs g.cells (x.take j)) ∧ Hid (∀ y ∈ x.take j, inL g.cells y = true) ∧ Hid ((idxs g.cells (x.take j)).Nodup) ∧ VMap wr wo.heap.size (idxs g.cells (x.take j)) (fun _ => .bool true) ∧ Below wo.heap.size wo wr ∧ wm.heap.size ≤ wr.heap.size) (fun _ _ _ c _ => nx - (intOf c).toNat)
          case atStart => exact ⟨0, by omega, rfl, rfl, rfl, OwnInts.nil _ _ _, Lib.hid (by simp), Lib.hid (by simp [idxs]), hM0, hBm, Nat.le_refl _⟩
          case round =>
            clear hM0 e1
            obtain ⟨j, hj, rfl, rfl, rfl, hC, HA, HN, hM, hBi, hsi⟩ := hrel
            by_cases hlt2 : j < nx
            · have hIi := (hIx.below hBo).below hBi
              obtain ⟨b6, o6, hax, hb6⟩ := hIi.at' (by omega)
              have e0 := hIi.cell b6 o6 hax j hlt2
              subst hax
              obtain ⟨pos, hpos⟩ : ∃ pos, x[j]?.getD 0 = pos := ⟨_, rfl⟩
              rw [hpos] at e0
              have HPO := Lib.hid hpos
              obtain ⟨d0, d1, d2, d3, d4⟩ := ((hx1.below hBo).below hBi).g5
              have hgl := ((hx1.below hBo).below hBi).lt
              have hcg := (h2'.below hBo).below hBi
              have hc := bsearch_any ac nc cc g.cells pos wr hcg hm (incr_le HV.out.incr)
              have hjx : j < x.length := by omega
              cases hin : inL g.cells pos
              · have HBAD := Lib.hid (regAll_bad (i := k) (g := g) (ll := ll) (by rw [HL3.out]; exact hlt) (by rw [HX.out]; exact reg_out hjx (by rw [HPO.out]; exact hin)))
                rw [hin] at hc
                have HC := Lib.hid hc
                clear hc hin hpos
                go_wp2_with (refine HC.out.mono ?_; rintro e w2 ⟨rfl, q, rfl⟩)
                refine bodyPost_ret (v := .tuple #[.slice none 0 0, .int .i64 130]) (by simp [results, Try.results50, go_sem]) rfl ?_
                unfold regOut regErr
                rw [HBAD.out]
                exact ⟨_, rfl, OwnRows.nil _ _ _, below_drewN ((hB2.on hBo).on hBi) _⟩
              · have hib := idx_bd h2.len HV.out.incr hin
                rw [hin, bsearch_idx HV.out.incr hin] at hc
                have HC := Lib.hid hc
                obtain ⟨ci, hci⟩ : ∃ ci, idxL g.cells pos = ci := ⟨_, rfl⟩
                rw [hci] at hc hib
                have HC := Lib.hid hc
                have hwf : (Lit.int .i64 ci).wf = true := WalkArith.wf_i64 (by omega)
                have htk := idxs_take g.cells x hjx
                rw [hpos, hci] at htk
                have HTK := Lib.hid htk
                have hlj : (idxs g.cells (x.take j)).length = j := by unfold idxs; rw [List.length_map, List.length_take]; omega
                have hlk := fun q => VMap.look (z := .bool false) Try.underlying94 (by kernel_rfl) (hM.below (Below.drewN0 wr q)) ci hwf
                by_cases hdup : ci ∈ idxs g.cells (x.take j)
                · have HBAD := Lib.hid (regAll_bad (i := k) (g := g) (ll := ll) (by rw [HL3.out]; exact hlt) (by rw [HX.out]; exact reg_dup hjx (by rw [HPO.out, hci]; exact hdup)))
                  simp only [if_pos hdup, ki] at hlk
                  clear hc hin hpos hci htk hdup hlj
                  go_wp2_with (refine HC.out.mono ?_; rintro e w2 ⟨rfl, q, rfl⟩; have hl9 := hlk q)
                  refine bodyPost_ret (v := .tuple #[.slice none 0 0, .int .i64 130]) (by simp [results, Try.results50, go_sem]) rfl ?_
                  unfold regOut regErr
                  rw [HBAD.out]
                  exact ⟨_, rfl, OwnRows.nil _ _ _, below_drewN ((hB2.on hBo).on hBi) _⟩
                · have HA2 : Hid (∀ y ∈ x.take (j + 1), inL g.cells y = true) := Lib.hid (by
                    rw [take_getD x j hjx, HPO.out]
                    intro y hy
                    rcases List.mem_append.1 hy with hy | hy
                    · exact HA.out y hy
                    · rw [List.mem_singleton.1 hy]; exact hin)
                  have HN2 : Hid ((idxs g.cells (x.take (j + 1))).Nodup) := Lib.hid (by
                    rw [HTK.out, List.nodup_append]
                    exact ⟨HN.out, by simp, fun a ha b hb e => by rw [List.mem_singleton.1 hb] at e; exact hdup (e ▸ ha)⟩)
                  simp only [if_neg hdup, ki] at hlk
                  have HDU := Lib.hid hdup
                  have hCr : wr.ownsRow wm.heap.size 3 1 _ (idxs g.cells (x.take j)).length ((idxs g.cells (x.take j)).map (Value.int .i64)) := hC
                  rw [hlj] at hCr
                  have HLJ := Lib.hid hlj
                  have hwmo := hBm.size
                  have hcl := hC.lt
                  have hml := hM.lt
                  have hwml : wo.heap.size < wm.heap.size := hMl
                  clear hc hin hpos hci htk hdup hlj
                  go_wp2_with (first
                    | (refine HC.out.mono ?_; rintro e w2 ⟨rfl, q, rfl⟩; have hl9 := hlk q; obtain ⟨w3, hrun, hM3, hg3, hs3⟩ := VMap.put Try.underlying94 (hM.below (Below.drewN0 wr q)) ci (.bool true) hwf; simp only [ki] at hrun; have HS4 : Hid (w3.heap.size = wr.heap.size) := Lib.hid hs3; clear hs3; have hC3 : w3.ownsRow wm.heap.size 3 1 _ j ((idxs g.cells (x.take j)).map (Value.int .i64)) := World.ownsRow.kept (ownsRow_drewN hCr q) hg3 (.inr fun e => by have := (hcl _ e).1; omega))
                    | (at_builtin; refine wpList_append_own2 _ rfl _ _ 22 rfl wm.heap.size 3 i3 (.int .i64 0) 1 8 Try.underlying22 hi3 hz30 hz31 hz32 rfl (by decide) _ _ _ (hC3.alloc _) rfl ⟨_, 0, none⟩ 1 1 [.int .i64 ci] rfl rfl (cell_one_new _ _ _) (by simp [Value.oneCell']) (by unfold maxLen; omega) (by omega) (by have := HS4.out; simp; omega) ?_; intro v' w4 hown' hgrow hfr))
                  clear hrun
                  go_roundw
                  case rel =>
                    have hs4 := HS4.out
                    have hne : some wo.heap.size ≠ _ := fun e => by have := (hcl _ e.symm).1; omega
                    have hM4 : VMap w3 wo.heap.size (idxs g.cells (x.take (j + 1))) (fun _ => .bool true) := by
                      rw [if_neg HDU.out] at hM3
                      rw [HTK.out]
                      exact hM3.ext (fun y _ => by simp)
                    refine ⟨j + 1, by omega, rfl, rfl, by go_num, ?_, HA2, HN2, (hM4.below ((Below.refl _ _).alloc (Nat.le_refl _) _)).grown hgrow hne, (((below_drewN hBi q).grown hg3 (by simp; omega) (fun k e => by have := Option.some.inj e; omega)).alloc (by omega) _).grown hgrow (by simp; omega) (fun k e => by have := (hcl k e).1; omega), by have := hgrow.size; simp at this; omega⟩
                    rw [HTK.out]
                    exact OwnInts.snoc (by rw [HLJ.out]; exact hown')
                  case measure => simp [intOf]; omega
            · obtain rfl : j = nx := by omega
              rw [List.take_of_length_le (by omega)] at hC HA HN hM
              have hlx : (idxs g.cells x).length = j := by unfold idxs; rw [List.length_map]; exact hxl2
              have hO2 := hO.below hBi
              obtain ⟨us, hus, hE⟩ := hO
              have hus2 := ownsRow_below' hus hBi
              rw [HLE.out] at hus hus2
              have hfr1 : 0 < (idxs g.cells x).length → _ ≠ _ := fun h => fresh_ne hC hus (by omega) h
              obtain ⟨av, cv, rfl, hIv⟩ := hC.ints
              rw [hlx] at hIv hfr1 ⊢
              have HFR := Lib.hid hfr1
              by_cases hz : j = 0
              · have hxn : x = [] := List.eq_nil_of_length_eq_zero (by omega)
                have HBAD := Lib.hid (regAll_bad (i := k) (g := g) (ll := ll) (by rw [HL3.out]; exact hlt) (by rw [HX.out, hxn]; exact reg_nil _))
                have tz : ((j : Int) == 0) = true := by rw [hz]; rfl
                clear hlx hfr1 hz hxn
                go_wp2_with fail
                refine bodyPost_ret (v := .tuple #[.slice none 0 0, .int .i64 130]) (by simp [results, Try.results50, go_sem]) rfl ?_
                unfold regOut regErr
                rw [HBAD.out]
                exact ⟨_, rfl, OwnRows.nil _ _ _, (hB2.on hBo).on hBi⟩
              · have tz : ((j : Int) == 0) = false := by rw [beq_eq_false_iff_ne]; omega
                have HOK := Lib.hid (reg_yes HA.out HN.out (fun e => hz (by rw [← hxl2, e]; rfl)))
                clear hlx hfr1 hz
                go_wp2_with (at_builtin; refine wpList_append_own2 _ rfl _ _ 28 rfl w1.heap.size 22 i22 (.slice none 0 0) 1 24 Try.underlying28 hi22 hz220 hz221 hz222 rfl (by decide) _ _ _ (hus2.alloc _) rfl ⟨_, 0, none⟩ 1 1 [(.slice av j cv)] rfl rfl (cell_one_new _ _ _) (by simp [Value.oneCell']) (by unfold maxLen; omega) (by omega) (by first | omega | (simp; omega)) ?_; intro v' w1 hown' hgrow hfr)
                go_roundw
                case rel =>
                  refine ⟨k + 1, by omega, rfl, by go_num, ?_, Lib.hid (fun i hi => ?_), ((hBo.on hBi).alloc (by omega) _).grown hgrow (by simp; omega) (fun q e => (hus2.lt q e).1)⟩
                  · rw [take_rows (by rw [HL3.out]; exact hlt), HX.out, List.map_append, List.map_cons, List.map_nil]
                    exact OwnRows.push (hE.mono fun _ _ hu => (hu.below hBi).below ((Below.refl _ _).alloc (Nat.le_refl _) _)) (by rw [HLE.out]; exact hown') hgrow hfr (hIv.below ((Below.refl _ _).alloc (Nat.le_refl _) _)) HFR.out
                  · by_cases e : i = k
                    · subst e; rw [HX.out]; exact HOK.out
                    · exact HR.out i (by omega)
                case measure => simp [intOf]; omega
        · obtain rfl : k = ln := by omega
          go_wp2_with fail
          have hall : regAll g ll = true := by
            unfold regAll
            rw [decide_eq_true HE.out, decide_eq_true (show ll.length ≤ 64 by rw [HL3.out]; exact h64)]
            simp only [Bool.and_self, Bool.true_and]
            rw [List.all_eq_true]
            intro l hl
            obtain ⟨i, hi, e⟩ := List.mem_iff_getElem.1 hl
            have := HR.out i (by rw [← HL3.out]; exact hi)
            rw [List.getElem?_eq_getElem hi] at this
            rw [← e]; exact this
          have hr : regOut g ll = ll.map (idxs g.cells) ∧ regErr g ll = 0 := by unfold regOut regErr; rw [hall]; exact ⟨rfl, rfl⟩
          rw [hr.1, hr.2]
          rw [List.take_of_length_le (by rw [HL3.out]; omega)] at hO
          refine bodyPost_ret (v := .tuple #[_, .int .i64 0]) (by simp [results, Try.results50, go_sem]; rfl) rfl ?_
          exact ⟨_, rfl, hO.mono hB2.size, hB2.on hBo⟩
    · have t64 : decide (64 < ln) = true := by simp; omega
      have t64' : decide ((64 : Int) < (ln : Int)) = true := by simp; omega
      go_enter Try.func50, Try.ntmps50
      go_wp2_with fail
      refine HCK.out.mono ?_
      rintro e w1 ⟨rfl, hB1⟩
      go_wp2_with fail
      have hbad : regAll g ll = false := by unfold regAll; rw [decide_eq_false (show ¬ ll.length ≤ 64 by omega)]; simp
      refine bodyPost_ret (v := .tuple #[.slice none 0 0, .int .i64 130]) (by simp [results, Try.results50, go_sem]) rfl ?_
      unfold regOut regErr
      rw [hbad]
      exact ⟨_, rfl, OwnRows.nil _ _ _, hal.on hB1⟩
  · rw [he] at hck
    have HCK := Lib.hid hck
    have HE := Lib.hid he
    clear hck he
    go_enter Try.func50, Try.ntmps50
    go_wp2_with fail
    refine HCK.out.mono ?_
    rintro e w1 ⟨rfl, hB1⟩
    go_wp2_with fail
    have hbad : regAll g ll = false := by unfold regAll; rw [decide_eq_false (show ¬ checkErr g = 0 by rw [HE.out]; decide)]; simp
    refine bodyPost_ret (v := .tuple #[.slice none 0 0, .int .i64 130]) (by simp [results, Try.results50, go_sem]) rfl ?_
    unfold regOut regErr
    rw [hbad]
    exact ⟨_, rfl, OwnRows.nil _ _ _, hal.on hB1⟩
end Go.Proofs.Ytjiacdihfbbfjaa

/- Contract of ref13.Regions. -/
namespace Go.Proofs.Ytjiacdihfbbfjaa
open Go.RowKit

theorem reg_keep {w0 w w' : World} {gB b5 b6 p q : Nat} {v0 v1 v2 v3 v4 vA vB : Value}
    (h : w.cell? ⟨gB, 0, none⟩ = some v0 ∧ w.cell? ⟨gB, 1, none⟩ = some v1 ∧ w.cell? ⟨gB, 2, none⟩ = some v2 ∧ w.cell? ⟨gB, 3, none⟩ = some v3 ∧ w.cell? ⟨gB, 4, none⟩ = some v4 ∧ w.cell? ⟨b5, p, none⟩ = some vA ∧ w.cell? ⟨b6, q, none⟩ = some vB ∧ Below w0.heap.size w0 w)
    (hb : Below w.heap.size w w') : w'.cell? ⟨gB, 0, none⟩ = some v0 ∧ w'.cell? ⟨gB, 1, none⟩ = some v1 ∧ w'.cell? ⟨gB, 2, none⟩ = some v2 ∧ w'.cell? ⟨gB, 3, none⟩ = some v3 ∧ w'.cell? ⟨gB, 4, none⟩ = some v4 ∧ w'.cell? ⟨b5, p, none⟩ = some vA ∧ w'.cell? ⟨b6, q, none⟩ = some vB ∧ Below w0.heap.size w0 w' := by
  obtain ⟨h0, h1, h2, h3, h4, h5, h6, h7⟩ := h
  have l1 := World.block_lt_of_cell? w _ h0
  have l2 := World.block_lt_of_cell? w _ h5
  have l3 := World.block_lt_of_cell? w _ h6
  exact ⟨(hb.cell (p := ⟨gB, 0, none⟩) l1).trans h0, (hb.cell (p := ⟨gB, 1, none⟩) l1).trans h1, (hb.cell (p := ⟨gB, 2, none⟩) l1).trans h2, (hb.cell (p := ⟨gB, 3, none⟩) l1).trans h3, (hb.cell (p := ⟨gB, 4, none⟩) l1).trans h4, (hb.cell (p := ⟨b5, p, none⟩) l2).trans h5, (hb.cell (p := ⟨b6, q, none⟩) l3).trans h6, h7.on hb⟩
set_option maxRecDepth 40000 in
set_option maxHeartbeats 4000000 in
theorem refRegions_any (g : Grid) (ah ac la : Option Addr) (nh ch nc cc ln lc : Nat) (ll : List (List Int)) (W : World) (h1 : Ints W ah nh ch g.holes) (h2 : Ints W ac nc cc g.cells) (hn : nh ≤ 10000000) (hm : nc ≤ 10000000000) (h3 : Rows W la ln lc ll) (hb : ∀ i : Nat, (ll[i]?.getD []).length ≤ 1000000) :
    Calls Try.prog 51 #[.agg #[.int .i64 g.shape, .int .i64 g.w, .int .i64 g.h, .slice ah nh ch, .slice ac nc cc], .slice la ln lc] W (RetRowsE W 22 (regOut g ll) (regErr g ll)) := by
  have hal : Below W.heap.size W (W.alloc (.cells #[.int .i64 g.shape, .int .i64 g.w, .int .i64 g.h, .slice ah nh ch, .slice ac nc cc] 24)) := (Below.refl _ _).alloc (Nat.le_refl _) _
  have hbx := Box.new W #[.int .i64 g.shape, .int .i64 g.w, .int .i64 g.h, .slice ah nh ch, .slice ac nc cc] 24
  have hck := refCheck_any g ah ac nh ch nc cc _ (h1.below hal) (h2.below hal) hn hm
  have hmk := fun w => run_makeMap (P := Try.prog) 94 w
  have hl3 := h3.len
  have hmx := h3.mx
  have hcp := h3.cap
  unfold maxLen at hmx
  rcases checkErr_cases g with ⟨he, hv⟩ | ⟨he, _⟩
  · rw [he] at hck
    have HCK := Lib.hid hck
    have HV := Lib.hid hv
    have HE := Lib.hid he
    clear hck hv he
    by_cases h64 : ln ≤ 64
    · have t64 : decide (64 < ln) = false := by simp; omega
      have t64' : decide ((64 : Int) < (ln : Int)) = false := by simp; omega
      go_enter Try.func51, Try.ntmps51
      go_wp2_with fail
      refine HCK.out.mono ?_
      rintro e w1 ⟨rfl, hB1⟩
      have hx1 := hbx.below hB1
      have hB2 := hal.on hB1
      have hxl := hx1.lt
      obtain ⟨d0, d1, d2, d3, d4⟩ := hx1.g5
      have h3' := h3.below hB2
      have h2' := h2.below hB2
      have hnl := HV.out.len
      rw [h2.len] at hnl
      have HBL := Lib.hid hb
      have HL3 := Lib.hid hl3
      clear hb hl3 hbx hal hB1 d0 d1 d2 d3 d4
      obtain ⟨i3, hi3, hz30, hz31, hz32⟩ := info_parts info_int
      obtain ⟨i22, hi22, hz220, hz221, hz222⟩ := info_parts info_ints
      have hx1l := hxl
      go_wp2_with fail
      go_loopw [4, 5, 6, 7] (fun v4 v5 v c wr => ∃ k : Nat, k ≤ ln ∧ v4 = .slice none 0 0 ∧ v5 = .int .i64 0 ∧ c = .int .i64 k ∧ OwnRows wr w1.heap.size 22 v ((ll.take k).map (idxs g.cells)) ∧ Hid (∀ i, i < k → regOk g.cells (ll[i]?.getD []) = true) ∧ Below w1.heap.size w1 wr) (fun _ _ _ c _ => ln - (intOf c).toNat)
      case atStart => exact ⟨0, by omega, rfl, rfl, rfl, OwnRows.nil _ _ _, Lib.hid (fun i hi => by omega), Below.refl _ _⟩
      case round =>
        obtain ⟨k, hk, rfl, rfl, rfl, hO, HR, hBo⟩ := hrel
        obtain ⟨wo, rfl⟩ : ∃ wo, wo = wr := ⟨_, rfl⟩
        have hso := hBo.size
        by_cases hlt : k < ln
        · obtain ⟨ao, co, rfl, _⟩ := hO.rows
          have hlen : ((ll.take k).map (idxs g.cells)).length = k := by rw [List.length_map, List.length_take, HL3.out]; omega
          rw [hlen] at hO ⊢
          obtain ⟨b5, o5, hla, hb5⟩ := h3'.at' (by omega)
          obtain ⟨ax, nx, cx, e0, hIx⟩ := h3'.row b5 o5 hla k hlt
          subst hla
          have hb5o : b5 < wo.heap.size := by omega
          have e1 := (hBo.cell (p := ⟨b5, o5 + k, none⟩) hb5).trans e0
          have hxb := HBL.out k
          obtain ⟨x, hx⟩ : ∃ x, ll[k]?.getD [] = x := ⟨_, rfl⟩
          rw [hx] at hIx hxb
          have HX := Lib.hid hx
          have HLE := Lib.hid hlen
          have hcx := hIx.cap
          have hmx2 := hIx.mx
          unfold maxLen at hmx2
          have hxl2 := hIx.len
          clear hx e0 hlen
          go_wp2_with fail
          go_loopw [4, 5, 8, 9] (fun v4 v5 v8 c wr => ∃ j : Nat, j ≤ nx ∧ v4 = .slice none 0 0 ∧ v5 = .int .i64 0 ∧ c = .int .i64 j ∧ OwnInts wr wo.heap.size 3 v8 (idxs g.cells (x.take j)) ∧ Hid (∀ y ∈ x.take j, inL g.cells y = true) ∧ Hid ((idxs g.cells (x.take j)).Nodup) ∧ Below wo.heap.size wo wr) (fun _ _ _ c _ => nx - (intOf c).toNat)
          case atStart => exact ⟨0, by omega, rfl, rfl, rfl, OwnInts.nil _ _ _, Lib.hid (by simp), Lib.hid (by simp [idxs]), Below.refl _ _⟩
          case round =>
            obtain ⟨j, hj, rfl, rfl, rfl, hC, HA, HN, hBi⟩ := hrel
            obtain ⟨wi, rfl⟩ : ∃ wi, wi = wr := ⟨_, rfl⟩
            have hsi := hBi.size
            have e1' := (hBi.cell (p := ⟨b5, o5 + k, none⟩) hb5o).trans e1
            by_cases hlt2 : j < nx
            · have hIi := (hIx.below hBo).below hBi
              obtain ⟨b6, o6, hax, hb6⟩ := hIi.at' (by omega)
              have e0 := hIi.cell b6 o6 hax j hlt2
              subst hax
              obtain ⟨pos, hpos⟩ : ∃ pos, x[j]?.getD 0 = pos := ⟨_, rfl⟩
              rw [hpos] at e0
              have HPO := Lib.hid hpos
              obtain ⟨d0, d1, d2, d3, d4⟩ := ((hx1.below hBo).below hBi).g5
              have hgl := ((hx1.below hBo).below hBi).lt
              have hcg := (h2'.below hBo).below hBi
              have hjx : j < x.length := by omega
              have HGS : Hid (W.heap.size = W.heap.size) := Lib.hid rfl
              obtain ⟨gB, hgB⟩ : ∃ gB, W.heap.size = gB := ⟨_, rfl⟩
              rw [hgB] at d0 d1 d2 d3 d4 hgl ⊢
              have HGB := Lib.hid hgB
              obtain ⟨ci, hci⟩ : ∃ ci, idxL g.cells pos = ci := ⟨_, rfl⟩
              have HCI := Lib.hid hci
              clear hgB hpos e1
              cases hin : inL g.cells pos
              · have HBAD := Lib.hid (regAll_bad (i := k) (g := g) (ll := ll) (by rw [HL3.out]; exact hlt) (by rw [HX.out]; exact reg_out hjx (by rw [HPO.out]; exact hin)))
                have HCA : Hid (∀ w : World, Below wi.heap.size wi w → Calls Try.prog 73 #[.agg #[.int .i64 g.shape, .int .i64 g.w, .int .i64 g.h, .slice ah nh ch, .slice ac nc cc], .int .i64 pos] w fun e w' => e = .returned (.tuple #[.int .i64 0, .bool false]) ∧ Below w.heap.size w w') := Lib.hid fun w hb => by
                  have h := at13_any g ah ac nh ch nc cc pos w (hcg.below hb)
                  unfold cellL at h
                  rw [hin] at h
                  exact h
                clear hin hci
                go_wp2_with fail
                go_region_held3 (fun w' => w'.cell? ⟨gB, 0, none⟩ = some (.int .i64 g.shape) ∧ w'.cell? ⟨gB, 1, none⟩ = some (.int .i64 g.w) ∧ w'.cell? ⟨gB, 2, none⟩ = some (.int .i64 g.h) ∧ w'.cell? ⟨gB, 3, none⟩ = some (.slice ah nh ch) ∧ w'.cell? ⟨gB, 4, none⟩ = some (.slice ac nc cc) ∧ w'.cell? ⟨b5, o5 + k, none⟩ = some (.slice (some ⟨b6, o6, none⟩) nx cx) ∧ w'.cell? ⟨b6, o6 + j, none⟩ = some (.int .i64 pos) ∧ Below wi.heap.size wi w')
                  (first | exact ⟨d0, d1, d2, d3, d4, e1', e0, (Below.refl _ _).drew⟩ | exact reg_keep (by assumption) (by assumption))
                  (first | (go_at_call 73; refine (HCA.out _ (by first | exact (Below.refl _ _).drew | (go_split_ands; assumption))).mono ?_; rintro e w' ⟨rfl, hb⟩))
                go_wp2_with fail
                go_split_ands
                refine bodyPost_ret (v := .tuple #[.slice none 0 0, .int .i64 130]) (by simp [results, Try.results51, go_sem]) rfl ?_
                unfold regOut regErr
                rw [HBAD.out]
                exact ⟨_, rfl, OwnRows.nil _ _ _, ((hB2.on hBo).on hBi).on (by assumption)⟩
              · have hib := idx_bd h2.len HV.out.incr hin
                rw [hci] at hib
                have HCA : Hid (∀ w : World, Below wi.heap.size wi w → Calls Try.prog 73 #[.agg #[.int .i64 g.shape, .int .i64 g.w, .int .i64 g.h, .slice ah nh ch, .slice ac nc cc], .int .i64 pos] w fun e w' => e = .returned (.tuple #[.int .i64 ci, .bool true]) ∧ Below w.heap.size w w') := Lib.hid fun w hb => by
                  have h := at13_any g ah ac nh ch nc cc pos w (hcg.below hb)
                  unfold cellL at h
                  rw [hin, if_pos rfl] at h
                  rw [← HCI.out]
                  exact h
                have htk := idxs_take g.cells x hjx
                rw [HPO.out, hci] at htk
                have HTK := Lib.hid htk
                have hlj : (idxs g.cells (x.take j)).length = j := by unfold idxs; rw [List.length_map, List.length_take]; omega
                have HIN := Lib.hid hin
                obtain ⟨al, cl, rfl, hIl⟩ := hC.ints
                rw [hlj] at hIl ⊢
                have hIn : ∀ w, Below wi.heap.size wi w → Calls Try.prog 72 #[.slice al j cl, .int .i64 ci] w fun e w' => e = .returned (.bool (inL (idxs g.cells (x.take j)) ci)) ∧ Below wi.heap.size wi w' := fun w hb => (in13_any al j cl (idxs g.cells (x.take j)) ci w (hIl.below hb)).mono fun e w' ⟨he, q, hq⟩ => ⟨he, by rw [hq]; exact below_drewN hb q⟩
                by_cases hdup : ci ∈ idxs g.cells (x.take j)
                · have HBAD := Lib.hid (regAll_bad (i := k) (g := g) (ll := ll) (by rw [HL3.out]; exact hlt) (by rw [HX.out]; exact reg_dup hjx (by rw [HPO.out, hci]; exact hdup)))
                  have hinl : inL (idxs g.cells (x.take j)) ci = true := List.contains_iff_mem.2 hdup
                  simp only [hinl] at hIn
                  have HIQ := Lib.hid hIn
                  clear hin hci htk hdup hlj hIn hinl
                  go_wp2_with fail
                  go_region_held3 (fun w' => w'.cell? ⟨gB, 0, none⟩ = some (.int .i64 g.shape) ∧ w'.cell? ⟨gB, 1, none⟩ = some (.int .i64 g.w) ∧ w'.cell? ⟨gB, 2, none⟩ = some (.int .i64 g.h) ∧ w'.cell? ⟨gB, 3, none⟩ = some (.slice ah nh ch) ∧ w'.cell? ⟨gB, 4, none⟩ = some (.slice ac nc cc) ∧ w'.cell? ⟨b5, o5 + k, none⟩ = some (.slice (some ⟨b6, o6, none⟩) nx cx) ∧ w'.cell? ⟨b6, o6 + j, none⟩ = some (.int .i64 pos) ∧ Below wi.heap.size wi w')
                    (first | exact ⟨d0, d1, d2, d3, d4, e1', e0, (Below.refl _ _).drew⟩ | exact reg_keep (by assumption) (by assumption))
                    (first | (go_at_call 73; refine (HCA.out _ (by first | exact (Below.refl _ _).drew | (go_split_ands; assumption))).mono ?_; rintro e w' ⟨rfl, hb⟩))
                  go_split_ands
                  go_wp2_with fail
                  refine (HIQ.out _ (by assumption)).mono ?_
                  rintro e w2 ⟨rfl, hB7⟩
                  go_wp2_with fail
                  refine bodyPost_ret (v := .tuple #[.slice none 0 0, .int .i64 130]) (by simp [results, Try.results51, go_sem]) rfl ?_
                  unfold regOut regErr
                  rw [HBAD.out]
                  exact ⟨_, rfl, OwnRows.nil _ _ _, ((hB2.on hBo).on hBi).on hB7⟩
                · have HA2 : Hid (∀ y ∈ x.take (j + 1), inL g.cells y = true) := Lib.hid (by
                    rw [take_getD x j hjx, HPO.out]
                    intro y hy
                    rcases List.mem_append.1 hy with hy | hy
                    · exact HA.out y hy
                    · rw [List.mem_singleton.1 hy]; exact hin)
                  have HN2 : Hid ((idxs g.cells (x.take (j + 1))).Nodup) := Lib.hid (by
                    rw [HTK.out, List.nodup_append]
                    exact ⟨HN.out, by simp, fun a ha b hb e => by rw [List.mem_singleton.1 hb] at e; exact hdup (e ▸ ha)⟩)
                  have hinl : inL (idxs g.cells (x.take j)) ci = false := by
                    unfold inL; rw [Bool.eq_false_iff]; intro hh; exact hdup (List.contains_iff_mem.1 hh)
                  simp only [hinl] at hIn
                  have HIQ := Lib.hid hIn
                  have hCr : wi.ownsRow wo.heap.size 3 1 _ (idxs g.cells (x.take j)).length ((idxs g.cells (x.take j)).map (Value.int .i64)) := hC
                  rw [hlj] at hCr
                  have HLJ := Lib.hid hlj
                  have hcl := hC.lt
                  rw [hlj] at hcl
                  clear hin hci htk hdup hlj hIn hinl
                  go_wp2_with fail
                  go_region_held3 (fun w' => w'.cell? ⟨gB, 0, none⟩ = some (.int .i64 g.shape) ∧ w'.cell? ⟨gB, 1, none⟩ = some (.int .i64 g.w) ∧ w'.cell? ⟨gB, 2, none⟩ = some (.int .i64 g.h) ∧ w'.cell? ⟨gB, 3, none⟩ = some (.slice ah nh ch) ∧ w'.cell? ⟨gB, 4, none⟩ = some (.slice ac nc cc) ∧ w'.cell? ⟨b5, o5 + k, none⟩ = some (.slice (some ⟨b6, o6, none⟩) nx cx) ∧ w'.cell? ⟨b6, o6 + j, none⟩ = some (.int .i64 pos) ∧ Below wi.heap.size wi w')
                    (first | exact ⟨d0, d1, d2, d3, d4, e1', e0, (Below.refl _ _).drew⟩ | exact reg_keep (by assumption) (by assumption))
                    (first | (go_at_call 73; refine (HCA.out _ (by first | exact (Below.refl _ _).drew | (go_split_ands; assumption))).mono ?_; rintro e w' ⟨rfl, hb⟩))
                  go_split_ands
                  go_wp2_with fail
                  refine (HIQ.out _ (by assumption)).mono ?_
                  rintro e w2 ⟨rfl, hB7⟩
                  have hC7 := ownsRow_below' hCr hB7
                  have hs7 := hB7.size
                  go_wp2_with (at_builtin; refine wpList_append_own2 _ rfl _ _ 22 rfl wo.heap.size 3 i3 (.int .i64 0) 1 8 Try.underlying22 hi3 hz30 hz31 hz32 rfl (by decide) _ _ _ (hC7.alloc _) rfl ⟨_, 0, none⟩ 1 1 [.int .i64 ci] rfl rfl (cell_one_new _ _ _) (by simp [Value.oneCell']) (by unfold maxLen; omega) (by omega) (by first | omega | (simp; omega)) ?_; intro v' w1 hown' hgrow hfr)
                  go_roundw
                  case rel =>
                    refine ⟨j + 1, by omega, rfl, rfl, by go_num, ?_, HA2, HN2, ((hBi.on hB7).alloc (by omega) _).grown hgrow (by simp; omega) (fun q e => (hcl q e).1)⟩
                    rw [HTK.out]
                    exact OwnInts.snoc (by rw [HLJ.out]; exact hown')
                  case measure => simp [intOf]; omega
            · obtain rfl : j = nx := by omega
              rw [List.take_of_length_le (by omega)] at hC HA HN
              have hlx : (idxs g.cells x).length = j := by unfold idxs; rw [List.length_map]; exact hxl2
              obtain ⟨us, hus, hE⟩ := hO
              have hus2 := ownsRow_below' hus hBi
              rw [HLE.out] at hus hus2
              have hfr1 : 0 < (idxs g.cells x).length → _ ≠ _ := fun h => fresh_ne hC hus (by omega) h
              obtain ⟨av, cv, rfl, hIv⟩ := hC.ints
              rw [hlx] at hIv hfr1 ⊢
              have HFR := Lib.hid hfr1
              by_cases hz : j = 0
              · have hxn : x = [] := List.eq_nil_of_length_eq_zero (by omega)
                have HBAD := Lib.hid (regAll_bad (i := k) (g := g) (ll := ll) (by rw [HL3.out]; exact hlt) (by rw [HX.out, hxn]; exact reg_nil _))
                have tz : ((j : Int) == 0) = true := by rw [hz]; rfl
                clear hlx hfr1 hz hxn
                go_wp2_with fail
                refine bodyPost_ret (v := .tuple #[.slice none 0 0, .int .i64 130]) (by simp [results, Try.results51, go_sem]) rfl ?_
                unfold regOut regErr
                rw [HBAD.out]
                exact ⟨_, rfl, OwnRows.nil _ _ _, (hB2.on hBo).on hBi⟩
              · have tz : ((j : Int) == 0) = false := by rw [beq_eq_false_iff_ne]; omega
                have HOK := Lib.hid (reg_yes HA.out HN.out (fun e => hz (by rw [← hxl2, e]; rfl)))
                clear hlx hfr1 hz
                go_wp2_with (at_builtin; refine wpList_append_own2 _ rfl _ _ 28 rfl w1.heap.size 22 i22 (.slice none 0 0) 1 24 Try.underlying28 hi22 hz220 hz221 hz222 rfl (by decide) _ _ _ (hus2.alloc _) rfl ⟨_, 0, none⟩ 1 1 [(.slice av j cv)] rfl rfl (cell_one_new _ _ _) (by simp [Value.oneCell']) (by unfold maxLen; omega) (by omega) (by first | omega | (simp; omega)) ?_; intro v' w1 hown' hgrow hfr)
                go_roundw
                case rel =>
                  refine ⟨k + 1, by omega, rfl, rfl, by go_num, ?_, Lib.hid (fun i hi => ?_), ((hBo.on hBi).alloc (by omega) _).grown hgrow (by simp; omega) (fun q e => (hus2.lt q e).1)⟩
                  · rw [take_rows (by rw [HL3.out]; exact hlt), HX.out, List.map_append, List.map_cons, List.map_nil]
                    exact OwnRows.push (hE.mono fun _ _ hu => (hu.below hBi).below ((Below.refl _ _).alloc (Nat.le_refl _) _)) (by rw [HLE.out]; exact hown') hgrow hfr (hIv.below ((Below.refl _ _).alloc (Nat.le_refl _) _)) HFR.out
                  · by_cases e : i = k
                    · subst e; rw [HX.out]; exact HOK.out
                    · exact HR.out i (by omega)
                case measure => simp [intOf]; omega
        · obtain rfl : k = ln := by omega
          go_wp2_with fail
          have hall : regAll g ll = true := by
            unfold regAll
            rw [decide_eq_true HE.out, decide_eq_true (show ll.length ≤ 64 by rw [HL3.out]; exact h64)]
            simp only [Bool.and_self, Bool.true_and]
            rw [List.all_eq_true]
            intro l hl
            obtain ⟨i, hi, e⟩ := List.mem_iff_getElem.1 hl
            have := HR.out i (by rw [← HL3.out]; exact hi)
            rw [List.getElem?_eq_getElem hi] at this
            rw [← e]; exact this
          have hr : regOut g ll = ll.map (idxs g.cells) ∧ regErr g ll = 0 := by unfold regOut regErr; rw [hall]; exact ⟨rfl, rfl⟩
          rw [hr.1, hr.2]
          rw [List.take_of_length_le (by rw [HL3.out]; omega)] at hO
          refine bodyPost_ret (v := .tuple #[_, .int .i64 0]) (by simp [results, Try.results51, go_sem]; rfl) rfl ?_
          exact ⟨_, rfl, hO.mono hB2.size, hB2.on hBo⟩
    · have t64 : decide (64 < ln) = true := by simp; omega
      have t64' : decide ((64 : Int) < (ln : Int)) = true := by simp; omega
      go_enter Try.func51, Try.ntmps51
      go_wp2_with fail
      refine HCK.out.mono ?_
      rintro e w1 ⟨rfl, hB1⟩
      go_wp2_with fail
      have hbad : regAll g ll = false := by unfold regAll; rw [decide_eq_false (show ¬ ll.length ≤ 64 by omega)]; simp
      refine bodyPost_ret (v := .tuple #[.slice none 0 0, .int .i64 130]) (by simp [results, Try.results51, go_sem]) rfl ?_
      unfold regOut regErr
      rw [hbad]
      exact ⟨_, rfl, OwnRows.nil _ _ _, hal.on hB1⟩
  · rw [he] at hck
    have HCK := Lib.hid hck
    have HE := Lib.hid he
    clear hck he
    go_enter Try.func51, Try.ntmps51
    go_wp2_with fail
    refine HCK.out.mono ?_
    rintro e w1 ⟨rfl, hB1⟩
    go_wp2_with fail
    have hbad : regAll g ll = false := by unfold regAll; rw [decide_eq_false (show ¬ checkErr g = 0 by rw [HE.out]; decide)]; simp
    refine bodyPost_ret (v := .tuple #[.slice none 0 0, .int .i64 130]) (by simp [results, Try.results51, go_sem]) rfl ?_
    unfold regOut regErr
    rw [hbad]
    exact ⟨_, rfl, OwnRows.nil _ _ _, hal.on hB1⟩
end Go.Proofs.Ytjiacdihfbbfjaa

