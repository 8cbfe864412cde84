/- For every valid grid and family of at most 64 lists, none of which is empty, Regions of the positions of its cells are its lists (law13.GridsRoundTrip), at every input. -/
import Derived.Test.YtjiacdihfbbfjaaFamOk
import Derived.Test.YtjiacdihfbbfjaaLGs
import Derived.Test.YtjiacdihfbbfjaaRowX
import Derived.Test.YtjiacdihfbbfjaaHeadF
import Derived.WalkKit
import Derived.WalkSpells
import Derived.WalkLawsBesides
import Derived.Deep.LoopGhost
import Derived.Deep.QuietTactic
import Derived.BigQuiet
import Derived.StillTailTactics
import Derived.Lib.Hide
import Derived.Outline
import Derived.Lib.QuietBelow
namespace Go.Proofs.Ytjiacdihfbbfjaa
open Go.ChangeShapes Go.WideShapes Go.ChangeAt Go.RowKit Go.Deep

theorem few13_out {g : Grid} {W : World} {ah ac : Option Addr} {nh ch nc cc : Nat} (h1 : Ints W ah nh ch g.holes) (h2 : Ints W ac nc cc g.cells) (hf : fewG13 g = true) : nh ≤ 300 ∧ nc ≤ 300 := by
  unfold fewG13 at hf
  simp only [Bool.and_eq_true, decide_eq_true_eq] at hf
  rw [← h1.len, ← h2.len]; exact hf
set_option maxRecDepth 20000 in
set_option maxHeartbeats 4000000 in
theorem law13Trip_any (g : Grid) (f : Int) (ah ac : Option Addr) (nh ch nc cc : Nat) (W : World) (h1 : Ints W ah nh ch g.holes) (h2 : Ints W ac nc cc g.cells) :
    Calls Try.prog 17 #[.agg #[.int .i64 g.shape, .int .i64 g.w, .int .i64 g.h, .slice ah nh ch, .slice ac nc cc], .int .i64 f] W fun e w' => e = .returned (.bool true) ∧ Below W.heap.size W w' := by
  cases hf : fewG13 g
  · have HF := Lib.hid hf
    clear hf
    have hal : Below W.heap.size W (W.alloc (.cells #[.int .i64 g.shape, .int .i64 g.w, .int .i64 g.h, .slice ah nh ch, .slice ac nc cc] 24)) := (Below.refl _ _).alloc (Nat.le_refl _) _
    have hbx := Box.new W #[.int .i64 g.shape, .int .i64 g.w, .int .i64 g.h, .slice ah nh ch, .slice ac nc cc] 24
    go_enter Try.func17, Try.ntmps17
    go_wp2_with fail
    refine (sane13_any _).mono ?_
    rintro e w1 ⟨rfl, hB1⟩
    have hx1 := hbx.below hB1
    have hB2 := hal.on hB1
    obtain ⟨d0, d1, d2, d3, d4⟩ := hx1.g5
    have hxl1 := hx1.lt
    clear hbx hal hB1
    go_wp2_with fail
    refine (few13_any g ah ac nh ch nc cc w1 (h1.below hB2) (h2.below hB2)).mono ?_
    rintro e w2 ⟨rfl, hB3⟩
    have hx2 := hx1.below hB3
    have hB4 := hB2.on hB3
    clear d0 d1 d2 d3 d4 hx1 hxl1 hB2 hB3
    obtain ⟨d0, d1, d2, d3, d4⟩ := hx2.g5
    have hxl2 := hx2.lt
    rw [HF.out]
    go_wp2_with fail
    go_ret
    exact ⟨rfl, hB4⟩
  have hfo := few13_out h1 h2 hf
  obtain ⟨hn, hm⟩ := hfo
  have HF := Lib.hid hf
  clear hf
  rcases checkErr_cases g with ⟨he, hv⟩ | ⟨he, _⟩
  rotate_left
  · have HE := Lib.hid he
    clear he
    have hal : Below W.heap.size W (W.alloc (.cells #[.int .i64 g.shape, .int .i64 g.w, .int .i64 g.h, .slice ah nh ch, .slice ac nc cc] 24)) := (Below.refl _ _).alloc (Nat.le_refl _) _
    have hbx := Box.new W #[.int .i64 g.shape, .int .i64 g.w, .int .i64 g.h, .slice ah nh ch, .slice ac nc cc] 24
    go_enter Try.func17, Try.ntmps17
    go_wp2_with fail
    refine (sane13_any _).mono ?_
    rintro e w1 ⟨rfl, hB1⟩
    have hx1 := hbx.below hB1
    have hB2 := hal.on hB1
    obtain ⟨d0, d1, d2, d3, d4⟩ := hx1.g5
    have hxl1 := hx1.lt
    clear hbx hal hB1
    go_wp2_with fail
    refine (few13_any g ah ac nh ch nc cc w1 (h1.below hB2) (h2.below hB2)).mono ?_
    rintro e w2 ⟨rfl, hB3⟩
    have hx2 := hx1.below hB3
    have hB4 := hB2.on hB3
    clear d0 d1 d2 d3 d4 hx1 hxl1 hB2 hB3
    obtain ⟨d0, d1, d2, d3, d4⟩ := hx2.g5
    have hxl2 := hx2.lt
    rw [HF.out]
    go_wp2_with fail
    refine (refCheck_any g ah ac nh ch nc cc w2 (h1.below hB4) (h2.below hB4) (by omega) (by omega)).mono ?_
    rintro e w3 ⟨rfl, hB5⟩
    have hx3 := hx2.below hB5
    have hB6 := hB4.on hB5
    clear d0 d1 d2 d3 d4 hx2 hxl2 hB4 hB5
    obtain ⟨d0, d1, d2, d3, d4⟩ := hx3.g5
    have hxl3 := hx3.lt
    rw [HE.out]
    go_wp2_with fail
    go_ret
    exact ⟨rfl, hB6⟩
  have HE := Lib.hid he
  have HV := Lib.hid hv
  by_cases hf0 : f < 0
  · have t0 : decide (f < 0) = true := by simpa using hf0
    clear he hv
    have hal : Below W.heap.size W (W.alloc (.cells #[.int .i64 g.shape, .int .i64 g.w, .int .i64 g.h, .slice ah nh ch, .slice ac nc cc] 24)) := (Below.refl _ _).alloc (Nat.le_refl _) _
    have hbx := Box.new W #[.int .i64 g.shape, .int .i64 g.w, .int .i64 g.h, .slice ah nh ch, .slice ac nc cc] 24
    go_enter Try.func17, Try.ntmps17
    go_wp2_with fail
    refine (sane13_any _).mono ?_
    rintro e w1 ⟨rfl, hB1⟩
    have hx1 := hbx.below hB1
    have hB2 := hal.on hB1
    obtain ⟨d0, d1, d2, d3, d4⟩ := hx1.g5
    have hxl1 := hx1.lt
    clear hbx hal hB1
    go_wp2_with fail
    refine (few13_any g ah ac nh ch nc cc w1 (h1.below hB2) (h2.below hB2)).mono ?_
    rintro e w2 ⟨rfl, hB3⟩
    have hx2 := hx1.below hB3
    have hB4 := hB2.on hB3
    clear d0 d1 d2 d3 d4 hx1 hxl1 hB2 hB3
    obtain ⟨d0, d1, d2, d3, d4⟩ := hx2.g5
    have hxl2 := hx2.lt
    rw [HF.out]
    go_wp2_with fail
    refine (refCheck_any g ah ac nh ch nc cc w2 (h1.below hB4) (h2.below hB4) (by omega) (by omega)).mono ?_
    rintro e w3 ⟨rfl, hB5⟩
    have hx3 := hx2.below hB5
    have hB6 := hB4.on hB5
    clear d0 d1 d2 d3 d4 hx2 hxl2 hB4 hB5
    obtain ⟨d0, d1, d2, d3, d4⟩ := hx3.g5
    have hxl3 := hx3.lt
    rw [HE.out]
    go_wp2_with fail
    go_ret
    exact ⟨rfl, hB6⟩
  by_cases hf7 : 7 < f
  · have t0 : decide (f < 0) = false := by simpa using hf0
    have t7 : decide (7 < f) = true := by simpa using hf7
    clear he hv
    have hal : Below W.heap.size W (W.alloc (.cells #[.int .i64 g.shape, .int .i64 g.w, .int .i64 g.h, .slice ah nh ch, .slice ac nc cc] 24)) := (Below.refl _ _).alloc (Nat.le_refl _) _
    have hbx := Box.new W #[.int .i64 g.shape, .int .i64 g.w, .int .i64 g.h, .slice ah nh ch, .slice ac nc cc] 24
    go_enter Try.func17, Try.ntmps17
    go_wp2_with fail
    refine (sane13_any _).mono ?_
    rintro e w1 ⟨rfl, hB1⟩
    have hx1 := hbx.below hB1
    have hB2 := hal.on hB1
    obtain ⟨d0, d1, d2, d3, d4⟩ := hx1.g5
    have hxl1 := hx1.lt
    clear hbx hal hB1
    go_wp2_with fail
    refine (few13_any g ah ac nh ch nc cc w1 (h1.below hB2) (h2.below hB2)).mono ?_
    rintro e w2 ⟨rfl, hB3⟩
    have hx2 := hx1.below hB3
    have hB4 := hB2.on hB3
    clear d0 d1 d2 d3 d4 hx1 hxl1 hB2 hB3
    obtain ⟨d0, d1, d2, d3, d4⟩ := hx2.g5
    have hxl2 := hx2.lt
    rw [HF.out]
    go_wp2_with fail
    refine (refCheck_any g ah ac nh ch nc cc w2 (h1.below hB4) (h2.below hB4) (by omega) (by omega)).mono ?_
    rintro e w3 ⟨rfl, hB5⟩
    have hx3 := hx2.below hB5
    have hB6 := hB4.on hB5
    clear d0 d1 d2 d3 d4 hx2 hxl2 hB4 hB5
    obtain ⟨d0, d1, d2, d3, d4⟩ := hx3.g5
    have hxl3 := hx3.lt
    rw [HE.out]
    go_wp2_with fail
    go_ret
    exact ⟨rfl, hB6⟩
  have t0 : decide (f < 0) = false := by simpa using hf0
  have t7 : decide (7 < f) = false := by simpa using hf7
  have hout : famOut g f = famL g f := by unfold famOut; rw [if_pos he]
  have herr : famErr g f = 0 := by unfold famErr; rw [if_pos he, if_pos (by omega)]
  obtain ⟨ll, hll⟩ : ∃ ll, famL g f = ll := ⟨_, rfl⟩
  rw [hll] at hout
  have hok : ∀ l ∈ ll, okL nc l := fun l hl => by rw [← h2.len]; exact fam_ok (by rw [hll]; exact hl)
  have hfew : ll.length ≤ 70000 := by rw [← hll]; exact fam_few hv.len f
  have C1 := fun w a b => fam_any f g ah ac nh ch nc cc w a b (by omega) (by omega)
  simp only [hout, herr] at C1
  have C2 := fun w la lc a b c => gRegions_any g ah ac la nh ch nc cc ll.length lc (ll.map (posnsOf g)) w a b (by omega) (by omega) c (fun i => by
    by_cases hi : i < ll.length
    · rw [List.getElem?_map, List.getElem?_eq_getElem hi]
      simp only [Option.map_some, Option.getD_some]
      rw [posnsOf_len]
      have := (hok _ (List.getElem_mem hi)).len
      omega
    · rw [List.getElem?_eq_none (by rw [List.length_map]; omega)]; simp)
  have htrip := trip hv he (ll := ll) (fun l hl => by rw [h2.len]; exact hok l hl)
  obtain ⟨m, hm⟩ : ∃ m, ll.length = m := ⟨_, rfl⟩
  rw [hm] at hfew C2 htrip
  have H1 := Lib.hid C1
  have H2 := Lib.hid C2
  have HOK := Lib.hid hok
  have HT := Lib.hid htrip
  have HM := Lib.hid hm
  have HNC := Lib.hid h2.len
  clear C1 C2 hok htrip hm hll hout herr he hv hf0 hf7
  obtain ⟨i3, hi3, hz30, hz31, hz32⟩ := info_parts info_int
  obtain ⟨i22, hi22, hz220, hz221, hz222⟩ := info_parts info_ints
  have hal : Below W.heap.size W (W.alloc (.cells #[.int .i64 g.shape, .int .i64 g.w, .int .i64 g.h, .slice ah nh ch, .slice ac nc cc] 24)) := (Below.refl _ _).alloc (Nat.le_refl _) _
  have hbx := Box.new W #[.int .i64 g.shape, .int .i64 g.w, .int .i64 g.h, .slice ah nh ch, .slice ac nc cc] 24
  go_enter Try.func17, Try.ntmps17
  go_wp2_with fail
  refine (sane13_any _).mono ?_
  rintro e w1 ⟨rfl, hB1⟩
  have hx1 := hbx.below hB1
  have hB2 := hal.on hB1
  obtain ⟨d0, d1, d2, d3, d4⟩ := hx1.g5
  have hxl1 := hx1.lt
  clear hbx hal hB1
  go_wp2_with fail
  refine (few13_any g ah ac nh ch nc cc w1 (h1.below hB2) (h2.below hB2)).mono ?_
  rintro e w2 ⟨rfl, hB3⟩
  have hx2 := hx1.below hB3
  have hB4 := hB2.on hB3
  clear d0 d1 d2 d3 d4 hx1 hxl1 hB2 hB3
  obtain ⟨d0, d1, d2, d3, d4⟩ := hx2.g5
  have hxl2 := hx2.lt
  rw [HF.out]
  go_wp2_with fail
  refine (refCheck_any g ah ac nh ch nc cc w2 (h1.below hB4) (h2.below hB4) (by omega) (by omega)).mono ?_
  rintro e w3 ⟨rfl, hB5⟩
  have hx3 := hx2.below hB5
  have hB6 := hB4.on hB5
  clear d0 d1 d2 d3 d4 hx2 hxl2 hB4 hB5
  obtain ⟨d0, d1, d2, d3, d4⟩ := hx3.g5
  have hxl3 := hx3.lt
  rw [HE.out]
  go_wp2_with fail
  have k1 := h1.below hB6
  have k2 := h2.below hB6
  refine (H1.out _ k1 k2).mono ?_
  rintro e w4 ⟨v4, rfl, O4, hA⟩
  replace hx3 := hx3.below hA
  replace hB6 := hB6.on hA
  replace k1 := k1.below hA
  replace k2 := k2.below hA
  obtain ⟨a4, c4, rfl, R4⟩ := O4.rows
  rw [HM.out] at R4 ⊢
  have hc4 := R4.cap
  have hm4 := R4.mx
  unfold maxLen at hm4
  clear d0 d1 d2 d3 d4 hxl3 hA O4
  obtain ⟨d0, d1, d2, d3, d4⟩ := hx3.g5
  have hxl3 := hx3.lt
  have HE0 := Lib.hid (emptyUpto_zero m ll)
  have tE : decide (64 < (m : Int)) = emptyUpto m ll 0 := by rw [HE0.out]; simp; omega
  have tE' : decide (64 < m) = emptyUpto m ll 0 := HE0.out.symm
  go_wp2_with fail
  clear tE tE'
  have hw4 : w4.heap.size = w4.heap.size := rfl
  clear hw4
  go_loopw [4, 7, 8, 47] (fun v4 v7 v8 c wr => ∃ k : Nat, k ≤ m ∧ v4 = .bool false ∧ v8 = .bool (emptyUpto m ll k) ∧ c = .int .i64 k ∧ OwnRows wr w4.heap.size 22 v7 ((ll.take k).map (posnsOf g)) ∧ Below w4.heap.size w4 wr) (fun _ _ _ c _ => m - (intOf c).toNat)
  case atStart => exact ⟨0, by omega, rfl, rfl, rfl, OwnRows.nil _ _ _, Below.refl _ _⟩
  case round =>
    obtain ⟨k, hk, rfl, rfl, rfl, hO, hBo⟩ := hrel
    obtain ⟨wo, rfl⟩ : ∃ wo, wo = wr := ⟨_, rfl⟩
    have hso := hBo.size
    have hxo := hx3.below hBo
    by_cases hlt : k < m
    · obtain ⟨a7, c7, rfl, _⟩ := hO.rows
      have hlen : ((ll.take k).map (posnsOf g)).length = k := by rw [List.length_map, List.length_take, HM.out]; omega
      rw [hlen] at hO ⊢
      obtain ⟨b5, o5, ha, hb5⟩ := R4.at' (by omega)
      obtain ⟨ax, nx, cx, e0, hIx⟩ := R4.row b5 o5 ha k hlt
      subst ha
      have e1 := (hBo.cell (p := ⟨b5, o5 + k, none⟩) hb5).trans e0
      have hEs := emptyUpto_succ m ll (k := k) (by rw [HM.out]; exact hlt)
      obtain ⟨x, hx⟩ : ∃ x, ll[k]?.getD [] = x := ⟨_, rfl⟩
      have hxm : x ∈ ll := by rw [← hx, List.getElem?_eq_getElem (by rw [HM.out]; exact hlt)]; exact List.getElem_mem _
      have hxo2 := HOK.out x hxm
      rw [hx] at hIx hEs
      have hnx : nx ≤ 300 := by rw [← hIx.len]; have := hxo2.len; omega
      have hcx := hIx.cap
      have hmx2 := hIx.mx
      unfold maxLen at hmx2
      have HXL := Lib.hid hIx.len
      have HX := Lib.hid hx
      have HES := Lib.hid hEs
      have HXO := Lib.hid hxo2
      have HLE := Lib.hid hlen
      have hIo := hIx.below hBo
      have hko := k2.below hBo
      clear d0 d1 d2 d3 d4 hxl3 e0 hlen hx hEs hxo2 hxm
      obtain ⟨E, hE⟩ : ∃ E, emptyUpto m ll k = E := ⟨_, rfl⟩
      rw [hE] at HES ⊢
      clear hE
      go_wp2_with fail
      go_loopw [4, 11, 53] (fun v4 v c wr => ∃ j : Nat, j ≤ nx ∧ v4 = .bool false ∧ c = .int .i64 j ∧ OwnInts wr wo.heap.size 3 v (posnsOf g (x.take j)) ∧ Below wo.heap.size wo wr) (fun _ _ c _ => nx - (intOf c).toNat)
      case atStart => exact ⟨0, by omega, rfl, rfl, OwnInts.nil _ _ _, Below.refl _ _⟩
      case round =>
        obtain ⟨j, hj, rfl, rfl, hC, hBi⟩ := hrel
        obtain ⟨wi, rfl⟩ : ∃ wi, wi = wr := ⟨_, rfl⟩
        have hsi := hBi.size
        obtain ⟨d0, d1, d2, d3, d4⟩ := (hxo.below hBi).g5
        have hxl3 := (hxo.below hBi).lt
        by_cases hlt2 : j < nx
        · have hIi := hIo.below hBi
          obtain ⟨b6, o6, hax, hb6⟩ := hIi.at' (by omega)
          have e2 := hIi.cell b6 o6 hax j hlt2
          subst hax
          have hjx : j < x.length := by rw [HXL.out]; exact hlt2
          have hPT := posnsOf_take g x hjx
          have hcb := HXO.out.2 _ (getD_mem x j hjx)
          obtain ⟨c, hc⟩ : ∃ c, x[j]?.getD 0 = c := ⟨_, rfl⟩
          rw [hc] at e2 hPT hcb
          obtain ⟨hc0, hc1⟩ := hcb
          have hki := hko.below hBi
          obtain ⟨b7, o7, hay, hb7⟩ := hki.at' (by omega)
          have e3 := hki.cell b7 o7 hay c.toNat (by omega)
          subst hay
          obtain ⟨y, hy⟩ : ∃ y, g.cells[c.toNat]?.getD 0 = y := ⟨_, rfl⟩
          rw [hy] at e3 hPT
          have tc0 : decide (c < 0) = false := by simp; omega
          have tc1 : decide ((nc : Int) ≤ c) = false := by simp; omega
          obtain ⟨a11, c11, rfl, _⟩ := hC.ints
          have hR5 : wi.ownsRow wo.heap.size 3 1 _ (posnsOf g (x.take j)).length ((posnsOf g (x.take j)).map (Value.int .i64)) := hC
          have hlj : (posnsOf g (x.take j)).length = j := by rw [posnsOf_len, List.length_take]; omega
          rw [hlj] at hR5 ⊢
          have hl5 := hR5.lt
          have HLJ := Lib.hid hlj
          have HPT := Lib.hid hPT
          clear hlj hPT hc hy
          go_wp2_with (at_builtin; refine wpList_append_own2 _ rfl _ _ 22 rfl wo.heap.size 3 i3 (.int .i64 0) 1 8 Try.underlying22 hi3 hz30 hz31 hz32 rfl (by decide) _ _ _ (hR5.alloc _) rfl ⟨_, 0, none⟩ 1 1 [.int .i64 y] rfl rfl (cell_one_new _ _ _) (by simp [Value.oneCell']) (by unfold maxLen; omega) (by omega) (by first | omega | (simp; omega)) ?_; intro v' w1 hown' hgrow hfr)
          go_roundw
          case rel =>
            refine ⟨j + 1, by omega, rfl, by go_num, ?_, (hBi.alloc (by omega) _).grown hgrow (by simp; omega) (fun q e => (hl5 q e).1)⟩
            rw [HPT.out]
            exact OwnInts.snoc (by rw [HLJ.out]; exact hown')
          case measure => simp [intOf]; omega
        · obtain rfl : j = nx := by omega
          rw [List.take_of_length_le (by rw [HXL.out]; omega)] at hC
          obtain ⟨us, hus, hE⟩ := hO
          have hus2 := ownsRow_below' hus hBi
          rw [HLE.out] at hus hus2
          have hfr1 : 0 < (posnsOf g x).length → _ ≠ _ := fun h => fresh_ne hC hus (by omega) h
          obtain ⟨av, cv, rfl, hIv⟩ := hC.ints
          have hlx : (posnsOf g x).length = j := by rw [posnsOf_len, HXL.out]
          rw [hlx] at hIv hfr1 ⊢
          have HFR := Lib.hid hfr1
          clear hfr1 hlx
          have hZ : ((j : Int) == 0) = decide (x = []) := by
            by_cases h : x = []
            · have h0 : j = 0 := by rw [← HXL.out, h]; rfl
              rw [decide_eq_true h, h0]; rfl
            · have h0 : j ≠ 0 := fun h0 => h (List.eq_nil_of_length_eq_zero (by rw [HXL.out]; exact h0))
              rw [decide_eq_false h, beq_eq_false_iff_ne]; omega
          have HZ := Lib.hid hZ
          clear hZ
          cases hzz : decide (x = [])
          all_goals
            have HD := Lib.hid hzz
            have tz := HZ.out
            rw [hzz] at tz
            clear hzz
            cases E
            all_goals
              go_wp2_with (at_builtin; refine wpList_append_own2 _ rfl _ _ 28 rfl _ 22 i22 (.slice none 0 0) 1 24 Try.underlying28 hi22 hz220 hz221 hz222 rfl (by decide) _ _ _ (hus2.alloc _) rfl ⟨_, 0, none⟩ 1 1 [(.slice av j cv)] rfl rfl (cell_one_new _ _ _) (by simp [Value.oneCell']) (by unfold maxLen; omega) (by omega) (by first | omega | (simp; omega)) ?_; intro v' w1 hown' hgrow hfr)
              go_roundw
              case rel =>
                refine ⟨k + 1, by omega, rfl, by rw [HES.out, HD.out]; rfl, by go_num, ?_, ((hBo.on hBi).alloc (by omega) _).grown hgrow (by simp; omega) (fun q e => (hus2.lt q e).1)⟩
                rw [take_rows (by rw [HM.out]; exact hlt), HX.out, List.map_append, List.map_cons, List.map_nil]
                exact OwnRows.push (hE.mono fun _ _ hu => (hu.below hBi).below ((Below.refl _ _).alloc (Nat.le_refl _) _)) (by rw [HLE.out]; exact hown') hgrow hfr (hIv.below ((Below.refl _ _).alloc (Nat.le_refl _) _)) HFR.out
              case measure => simp [intOf]; omega
    · obtain rfl : k = m := by omega
      rw [List.take_of_length_le (by rw [HM.out]; omega)] at hO
      obtain ⟨a7, c7, rfl, R7⟩ := hO.rows
      have hlen : (ll.map (posnsOf g)).length = k := by rw [List.length_map, HM.out]
      rw [hlen] at R7 ⊢
      have k1o := k1.below hBo
      have k2o := k2.below hBo
      have HC := Lib.hid (H2.out wo a7 c7 k1o k2o R7)
      have R4o := R4.below hBo
      clear d0 d1 d2 d3 d4 hxl3 hlen
      obtain ⟨d0, d1, d2, d3, d4⟩ := hxo.g5
      have hxl3 := hxo.lt
      obtain ⟨E, hE⟩ : ∃ E, emptyUpto k ll k = E := ⟨_, rfl⟩
      rw [hE] at HT ⊢
      clear hE
      cases E
      · obtain ⟨he, ho⟩ := HT.out.2 rfl
        have hc := HC.out
        rw [he, ho] at hc
        have HC2 := Lib.hid hc
        clear HC hc he ho
        go_wp2_with fail
        refine HC2.out.mono ?_
        rintro e w7 ⟨v7, rfl, O7, hB7⟩
        obtain ⟨a8, c8, rfl, R8⟩ := O7.rows
        go_wp2_with fail
        refine (sameLists_lit (R4o.below hB7) R8 rfl).mono ?_
        rintro e w8 ⟨rfl, q, rfl⟩
        go_wp2_with fail
        go_ret
        exact ⟨rfl, below_drewN ((hB6.on hBo).on hB7) q⟩
      · obtain ⟨he, ho⟩ := HT.out.1 rfl
        have hc := HC.out
        rw [he, ho] at hc
        have HC2 := Lib.hid hc
        clear HC hc he ho
        go_wp2_with fail
        refine HC2.out.mono ?_
        rintro e w7 ⟨v7, rfl, O7, hB7⟩
        obtain ⟨a8, c8, e8, R8⟩ := O7.rows
        simp only [List.length_nil] at e8
        subst e8
        go_wp2_with fail
        go_ret
        exact ⟨rfl, (hB6.on hBo).on hB7⟩

set_option maxRecDepth 100000 in
set_option maxHeartbeats 2000000 in
theorem trip13_lifted (os : Os) (started : os.Started) (H : Type) (enc : TypeId × Value → H) :
    ReturnsInHanded {} Try.checked os 17 .any (Rows.gridsRoundTripSpec.pre6 enc Try.prog Try.f17 Rows.gridsRoundTripRow.domain false) (Rows.gridsRoundTripSpec.post enc Try.prog Try.f17 false true false false) := by
  refine returnsInHanded_of_change (C := Try.checked) row_own started (by kernel_rfl) Try.func17
    (ChangeSpec.witness6 (enc := enc) (C := Try.checked) false ⟨#[], #[.agg #[.int .i64 0, .int .i64 0, .int .i64 0, .slice none 0 0, .slice none 0 0], .int .i64 0], []⟩ 8 (by kernel_rfl) (by kernel_rfl) (by kernel_rfl) (by kernel_rfl)) ?_
  intro W base args ds gs before hval0 hW _ _
  have hval : ∀ (j : Nat) t v, Try.f17.params[j]? = some t → args[j]? = some v → Value.okWide Try.prog W .any base t v := hval0
  have hW' := hW
  obtain ⟨p, q, hA0, hV, rfl, _, _⟩ := hW
  have hA : DataW.TrodAll enc Try.prog W 0 (fun _ => true) true Try.f17.params.toList args.toList ds p := hA0
  rw [Try.params17] at hA hval
  obtain ⟨v0, v1, d0, d1, p0, p1, rfl, rfl, rfl, h0, h1⟩ := trodAll_two hA
  obtain ⟨rfl, rfl⟩ := trodVars_none hV
  obtain ⟨g, ah, nh, ch, ac, nc, cc, rfl, hh, hc⟩ := open_G (hval 0 24 v0 rfl rfl) h0
  obtain ⟨f, rfl, rfl, rfl, _⟩ := open_int Try.underlying3 (hval 1 3 v1 rfl rfl) h1
  refine (law13Trip_any g f ah ac nh ch nc cc W hh hc).mono fun e W' ⟨he, hb⟩ => ?_
  subst he
  exact ⟨_, rfl, law_post hW' rfl rfl (by kernel_rfl) rfl hb⟩
set_option maxHeartbeats 2000000 in
theorem trip13_closed : joinedFacts Try.prog 17 Try.f17 Rows.gridsRoundTripSpec Rows.gridsRoundTripRow = true := by
  unfold joinedFacts
  refine bt (bt (bt (bt (bt (bt (bt (bt (bt (bt (bt (bt (bt (bt (bt (bt (bt (bt (bt (bt (bt (bt (bt (bt (bt (bt (bt (bt (bt (bt (bt ?a0 ?a1) ?a2) ?a3) ?a4) ?a5) ?a6) ?a7) ?a8) ?a9) ?a10) ?a11) ?a12) ?a13) ?a14) ?a15) ?a16) ?a17) ?a18) ?a19) ?a20) ?a21) ?a22) ?a23) ?a24) ?a25) ?a26) ?a27) ?a28) ?a29) ?a30) ?a31
  case a25 => exact prog_enter
  case a26 => exact prog_lifts
  case a27 => exact prog_make
  all_goals as_aux_lemma => kernel_rfl
theorem gridsRoundTrip_holds : Rows.GridsRoundTripSaid :=
  OpenClaim.holds_of_wide 17 Try.f17 rfl rfl rfl rfl rfl rfl rfl ⟨rfl, rfl, rfl, rfl, rfl⟩ rfl rfl rfl rfl rfl (by kernel_rfl) Try.func17 trip13_closed
    (of_decide_eq_true (by kernel_rfl)) (by unfold Func.isWrapper; rw [if_neg (of_decide_eq_false (by kernel_rfl))]; exact ⟨rfl, rfl⟩)
    (fun os started H enc _ => trip13_lifted os started H enc)
#print axioms gridsRoundTrip_holds
end Go.Proofs.Ytjiacdihfbbfjaa

