/- For every valid grid, each cell is in exactly one list of each direction, the cells of a list are on one line, and the lines are in order (law13.GridsLines), at every input. -/
import Derived.Test.YtjiacdihfbbfjaaLLine
import Derived.Test.YtjiacdihfbbfjaaLGs
import Derived.Test.YtjiacdihfbbfjaaRowX
import Derived.Test.YtjiacdihfbbfjaaHeadF
import Derived.WalkKit
import Derived.WalkSpells
import Derived.WalkLawsBesides
import Derived.Deep.LoopGhost
import Derived.Deep.QuietTactic
import Derived.BigQuiet
import Derived.StillTailTactics
import Derived.Lib.Hide
import Derived.Outline
import Derived.Lib.QuietBelow
namespace Go.Proofs.Ytjiacdihfbbfjaa
open Go.ChangeShapes Go.WideShapes Go.ChangeAt Go.RowKit Go.Deep

theorem few13_out {g : Grid} {W : World} {ah ac : Option Addr} {nh ch nc cc : Nat} (h1 : Ints W ah nh ch g.holes) (h2 : Ints W ac nc cc g.cells) (hf : fewG13 g = true) : nh ≤ 300 ∧ nc ≤ 300 := by
  unfold fewG13 at hf
  simp only [Bool.and_eq_true, decide_eq_true_eq] at hf
  rw [← h1.len, ← h2.len]; exact hf
def lastL (g : Grid) (f : Int) (k : Nat) : Int := if k = 0 then -1000 else scale g f ((nosOf (famF g f) g.cells.length)[k - 1]?.getD 0)
theorem lastL_lt {g : Grid} (hv : Valid g) {f : Int} (hf : f = 1 ∨ f = 2 ∨ (f = 3 ∧ g.shape = 2)) {k : Nat} (hk : k < (famL g f).length) : lastL g f k < lastL g f (k + 1) ∧ (-1000 ≤ lastL g f k ∧ lastL g f k ≤ 1000) ∧ (-1000 ≤ lastL g f (k + 1) ∧ lastL g f (k + 1) ≤ 1000) := by
  obtain ⟨m, h1, h2, _⟩ := line_at hv hf hk
  have e1 : lastL g f (k + 1) = scale g f m := by unfold lastL; rw [if_neg (by omega), Nat.add_sub_cancel, h1]
  have hb := scale_lo (g := g) (f := f) h2
  rw [e1]
  by_cases h0 : k = 0
  · have e0 : lastL g f k = -1000 := by unfold lastL; rw [if_pos h0]
    rw [e0]
    omega
  · obtain ⟨k', rfl⟩ : ∃ k', k = k' + 1 := ⟨k - 1, by omega⟩
    obtain ⟨m', h1', h2', _⟩ := line_at hv hf (k := k') (by omega)
    have e0 : lastL g f (k' + 1) = scale g f m' := by unfold lastL; rw [if_neg (by omega), Nat.add_sub_cancel, h1']
    have hb' := scale_lo (g := g) (f := f) h2'
    have hlt : m' < m := by
      rw [← h1, ← h1']
      exact nos_lt (by rw [famL_lines hf, nos_len] at hk; exact hk)
    have := scale_lt (g := g) (f := f) hlt
    rw [e0]
    omega
def lastIn (P Q : Int) (j : Nat) : Int := if j = 0 then P else Q
set_option maxRecDepth 20000 in
set_option maxHeartbeats 8000000 in
theorem law13Lines_any (g : Grid) (ah ac : Option Addr) (nh ch nc cc : Nat) (W : World) (h1 : Ints W ah nh ch g.holes) (h2 : Ints W ac nc cc g.cells) :
    Calls Try.prog 14 #[.agg #[.int .i64 g.shape, .int .i64 g.w, .int .i64 g.h, .slice ah nh ch, .slice ac nc cc]] W fun e w' => e = .returned (.bool true) ∧ Below W.heap.size W w' := by
  cases hf : fewG13 g
  · have HF := Lib.hid hf
    clear hf
    have hal : Below W.heap.size W (W.alloc (.cells #[.int .i64 g.shape, .int .i64 g.w, .int .i64 g.h, .slice ah nh ch, .slice ac nc cc] 24)) := (Below.refl _ _).alloc (Nat.le_refl _) _
    have hbx := Box.new W #[.int .i64 g.shape, .int .i64 g.w, .int .i64 g.h, .slice ah nh ch, .slice ac nc cc] 24
    go_enter Try.func14, Try.ntmps14
    go_wp2_with fail
    refine (sane13_any _).mono ?_
    rintro e w1 ⟨rfl, hB1⟩
    have hx1 := hbx.below hB1
    have hB2 := hal.on hB1
    obtain ⟨d0, d1, d2, d3, d4⟩ := hx1.g5
    have hxl1 := hx1.lt
    clear hbx hal hB1
    go_wp2_with fail
    refine (few13_any g ah ac nh ch nc cc w1 (h1.below hB2) (h2.below hB2)).mono ?_
    rintro e w2 ⟨rfl, hB3⟩
    have hx2 := hx1.below hB3
    have hB4 := hB2.on hB3
    clear d0 d1 d2 d3 d4 hx1 hxl1 hB2 hB3
    obtain ⟨d0, d1, d2, d3, d4⟩ := hx2.g5
    have hxl2 := hx2.lt
    rw [HF.out]
    go_wp2_with fail
    go_ret
    exact ⟨rfl, hB4⟩
  have hfo := few13_out h1 h2 hf
  obtain ⟨hn, hm⟩ := hfo
  have HF := Lib.hid hf
  clear hf
  rcases checkErr_cases g with ⟨he, hv⟩ | ⟨he, _⟩
  rotate_left
  · have HE := Lib.hid he
    clear he
    have hal : Below W.heap.size W (W.alloc (.cells #[.int .i64 g.shape, .int .i64 g.w, .int .i64 g.h, .slice ah nh ch, .slice ac nc cc] 24)) := (Below.refl _ _).alloc (Nat.le_refl _) _
    have hbx := Box.new W #[.int .i64 g.shape, .int .i64 g.w, .int .i64 g.h, .slice ah nh ch, .slice ac nc cc] 24
    go_enter Try.func14, Try.ntmps14
    go_wp2_with fail
    refine (sane13_any _).mono ?_
    rintro e w1 ⟨rfl, hB1⟩
    have hx1 := hbx.below hB1
    have hB2 := hal.on hB1
    obtain ⟨d0, d1, d2, d3, d4⟩ := hx1.g5
    have hxl1 := hx1.lt
    clear hbx hal hB1
    go_wp2_with fail
    refine (few13_any g ah ac nh ch nc cc w1 (h1.below hB2) (h2.below hB2)).mono ?_
    rintro e w2 ⟨rfl, hB3⟩
    have hx2 := hx1.below hB3
    have hB4 := hB2.on hB3
    clear d0 d1 d2 d3 d4 hx1 hxl1 hB2 hB3
    obtain ⟨d0, d1, d2, d3, d4⟩ := hx2.g5
    have hxl2 := hx2.lt
    rw [HF.out]
    go_wp2_with fail
    refine (refCheck_any g ah ac nh ch nc cc w2 (h1.below hB4) (h2.below hB4) (by omega) (by omega)).mono ?_
    rintro e w3 ⟨rfl, hB5⟩
    have hx3 := hx2.below hB5
    have hB6 := hB4.on hB5
    clear d0 d1 d2 d3 d4 hx2 hxl2 hB4 hB5
    obtain ⟨d0, d1, d2, d3, d4⟩ := hx3.g5
    have hxl3 := hx3.lt
    rw [HE.out]
    go_wp2_with fail
    go_ret
    exact ⟨rfl, hB6⟩
  have HE := Lib.hid he
  have HV := Lib.hid hv
  have C1 := fun f w a b => fam_any f g ah ac nh ch nc cc w a b (by omega) (by omega)
  have HE2 := Lib.hid he
  have hfo : Hid (∀ f, 0 ≤ f ∧ f ≤ 7 → famOut g f = famL g f ∧ famErr g f = 0) := Lib.hid fun f hf => by unfold famOut famErr; rw [if_pos HE2.out, if_pos HE2.out, if_pos hf]; exact ⟨rfl, rfl⟩
  have H1 := Lib.hid C1
  have HNL := Lib.hid h2.len
  have h256 := hv.len
  rw [h2.len] at h256
  clear C1 he hv
  have hal : Below W.heap.size W (W.alloc (.cells #[.int .i64 g.shape, .int .i64 g.w, .int .i64 g.h, .slice ah nh ch, .slice ac nc cc] 24)) := (Below.refl _ _).alloc (Nat.le_refl _) _
  have hbx := Box.new W #[.int .i64 g.shape, .int .i64 g.w, .int .i64 g.h, .slice ah nh ch, .slice ac nc cc] 24
  go_enter Try.func14, Try.ntmps14
  go_wp2_with fail
  refine (sane13_any _).mono ?_
  rintro e w1 ⟨rfl, hB1⟩
  have hx1 := hbx.below hB1
  have hB2 := hal.on hB1
  obtain ⟨d0, d1, d2, d3, d4⟩ := hx1.g5
  have hxl1 := hx1.lt
  clear hbx hal hB1
  go_wp2_with fail
  refine (few13_any g ah ac nh ch nc cc w1 (h1.below hB2) (h2.below hB2)).mono ?_
  rintro e w2 ⟨rfl, hB3⟩
  have hx2 := hx1.below hB3
  have hB4 := hB2.on hB3
  clear d0 d1 d2 d3 d4 hx1 hxl1 hB2 hB3
  obtain ⟨d0, d1, d2, d3, d4⟩ := hx2.g5
  have hxl2 := hx2.lt
  rw [HF.out]
  go_wp2_with fail
  refine (refCheck_any g ah ac nh ch nc cc w2 (h1.below hB4) (h2.below hB4) (by omega) (by omega)).mono ?_
  rintro e w3 ⟨rfl, hB5⟩
  have hx3 := hx2.below hB5
  have hB6 := hB4.on hB5
  clear d0 d1 d2 d3 d4 hx2 hxl2 hB4 hB5
  obtain ⟨d0, d1, d2, d3, d4⟩ := hx3.g5
  have hxl3 := hx3.lt
  rw [HE.out]
  go_wp2_with fail
  have k1 := h1.below hB6
  have k2 := h2.below hB6
  have hlit := ints_lit [1, 2, 3] (Box.new w3 #[.int .i64 1, .int .i64 2, .int .i64 3] 3) rfl (by decide)
  have hal : Below w3.heap.size w3 (w3.alloc (.cells #[.int .i64 1, .int .i64 2, .int .i64 3] 3)) := (Below.refl _ _).alloc (Nat.le_refl _) _
  obtain ⟨wL, hwL⟩ : ∃ wL, w3.alloc (.cells #[.int .i64 1, .int .i64 2, .int .i64 3] 3) = wL := ⟨_, rfl⟩
  rw [hwL] at hlit hal ⊢
  clear hwL
  have hxL := hx3.below hal
  have k1 := k1.below hal
  have k2 := k2.below hal
  have hBL := hB6.on hal
  obtain ⟨bL, hbL⟩ : ∃ bL, w3.heap.size = bL := ⟨_, rfl⟩
  rw [hbL] at hlit ⊢
  have hbLl : bL < wL.heap.size := by obtain ⟨b, o, e, h⟩ := hlit.at' (by decide); simp at e; omega
  clear hbL hal hx3 hB6 d0 d1 d2 d3 d4 hxl3
  go_loopw [2, 25] (fun v c wr => ∃ i : Nat, i ≤ 3 ∧ v = .bool false ∧ c = .int .i64 i ∧ Below wL.heap.size wL wr) (fun _ c _ => 3 - (intOf c).toNat)
  case atStart => exact ⟨0, by omega, rfl, rfl, Below.refl _ _⟩
  case round =>
    obtain ⟨i, hi, rfl, rfl, hBo⟩ := hrel
    obtain ⟨wo, rfl⟩ : ∃ wo, wo = wr := ⟨_, rfl⟩
    have hso := hBo.size
    have hxo := hxL.below hBo
    obtain ⟨d0, d1, d2, d3, d4⟩ := hxo.g5
    have hxl3 := hxo.lt
    by_cases hlt : i < 3
    · have eL := (hlit.below hBo).cell bL 0 rfl i hlt
      rw [Nat.zero_add] at eL
      obtain ⟨f, hf⟩ : ∃ f, ([1, 2, 3] : List Int)[i]?.getD 0 = f := ⟨_, rfl⟩
      have hfv : f = 1 ∨ f = 2 ∨ f = 3 := by
        rw [← hf]
        obtain rfl | rfl | rfl : i = 0 ∨ i = 1 ∨ i = 2 := by omega
        · exact .inl rfl
        · exact .inr (.inl rfl)
        · exact .inr (.inr rfl)
      rw [hf] at eL
      have HFV := Lib.hid hfv
      clear hf hfv
      by_cases hskip : f = 3 ∧ g.shape = 1
      · have t3 : (f == 3) = true := by rw [hskip.1]; rfl
        have ts : (g.shape == 1) = true := by rw [hskip.2]; rfl
        clear hskip
        go_wp2_with fail
        go_roundw
        case rel => exact ⟨i + 1, by omega, rfl, by go_num, hBo⟩
        case measure => simp [intOf]; omega
      · have hff : f = 1 ∨ f = 2 ∨ (f = 3 ∧ g.shape = 2) := by
          rcases HFV.out with h | h | h
          · exact .inl h
          · exact .inr (.inl h)
          · exact .inr (.inr ⟨h, HV.out.dims.1.resolve_left (fun e => hskip ⟨h, e⟩)⟩)
        have tt : (f == 3) = false ∨ ((f == 3) = true ∧ (g.shape == 1) = false) := by
          by_cases h : f = 3
          · right; rw [beq_iff_eq, beq_eq_false_iff_ne]; exact ⟨h, fun e => hskip ⟨h, e⟩⟩
          · left; rw [beq_eq_false_iff_ne]; exact h
        have HFF := Lib.hid hff
        have hres := hfo.out f (by rcases HFV.out with h | h | h <;> omega)
        obtain ⟨ll, hll⟩ : ∃ ll, famL g f = ll := ⟨_, rfl⟩
        have hC := H1.out f wo (k1.below hBo) (k2.below hBo)
        rw [hres.1, hres.2, hll] at hC
        obtain ⟨m, hm⟩ : ∃ m, ll.length = m := ⟨_, rfl⟩
        have hm49 : m ≤ 49 := by rw [← hm, ← hll, famL_lines hff]; exact linesL_few _ _
        have hsum := lines_total HV.out hff
        rw [HNL.out, hll] at hsum
        have HLA : Hid (∀ k, k < m → ∃ mm, lastL g f (k + 1) = scale g f mm ∧ ll[k]?.getD [] ≠ [] ∧ okL nc (ll[k]?.getD []) ∧ (∀ c ∈ ll[k]?.getD [], (0 ≤ c ∧ c < nc) ∧ lawLine g f c.toNat = scale g f mm) ∧ (lastL g f k < lastL g f (k + 1) ∧ (-1000 ≤ lastL g f k ∧ lastL g f k ≤ 1000) ∧ (-1000 ≤ lastL g f (k + 1) ∧ lastL g f (k + 1) ≤ 1000))) := Lib.hid fun k hk => by
          have hk2 : k < (famL g f).length := by rw [hll, hm]; exact hk
          obtain ⟨mm, e1, _, e3, e4⟩ := line_at HV.out hff hk2
          rw [hll] at e3 e4
          rw [HNL.out] at e4
          refine ⟨mm, by unfold lastL; rw [if_neg (by omega), Nat.add_sub_cancel, e1], e3, ?_, e4, lastL_lt HV.out hff hk2⟩
          have := fam_ok (g := g) (f := f) (l := ll[k]?.getD []) (by rw [hll, List.getElem?_eq_getElem (by rw [hm]; exact hk)]; exact List.getElem_mem _)
          rw [HNL.out] at this
          exact this
        have HSUM := Lib.hid hsum
        have HM := Lib.hid hm
        have HC := Lib.hid hC
        have H0 : Hid (lastL g f 0 = -1000) := Lib.hid (by unfold lastL; rw [if_pos rfl])
        clear hskip hff hres hll hm hsum hC
        rcases tt with t3 | ⟨t3, ts⟩
        all_goals
          go_wp2_with fail
          refine HC.out.mono ?_
          rintro e w4 ⟨v4, rfl, O4, hA⟩
          have hx4 := hxo.below hA
          have hB4 := hBo.on hA
          have k24 := k2.below hB4
          obtain ⟨a4, c4, rfl, R4⟩ := O4.rows
          rw [HM.out] at R4 ⊢
          have hc4 := R4.cap
          have hm4 := R4.mx
          unfold maxLen at hm4
          have hs4 := hA.size
          clear d0 d1 d2 d3 d4 hxl3 O4 eL
          go_wp2_with fail
          go_loopw [2, 7, 8, 46] (fun v many last c wr => ∃ k : Nat, k ≤ m ∧ v = .bool false ∧ many = .int .i64 (sumLen (ll.take k) : Nat) ∧ last = .int .i64 (lastL g f k) ∧ c = .int .i64 k ∧ Below w4.heap.size w4 wr) (fun _ _ _ c _ => m - (intOf c).toNat)
          case atStart => exact ⟨0, by omega, rfl, rfl, by rw [H0.out], rfl, Below.refl _ _⟩
          case round =>
            obtain ⟨k, hk, rfl, rfl, rfl, rfl, hBk⟩ := hrel
            obtain ⟨wk, rfl⟩ : ∃ wk, wk = wr := ⟨_, rfl⟩
            have hsk := hBk.size
            have hxk := hx4.below hBk
            have R4k := R4.below hBk
            by_cases hlk : k < m
            · obtain ⟨mm, l1, l2, l3, l4, l5, l6, l7⟩ := HLA.out k hlk
              obtain ⟨b5, o5, ha, hb5⟩ := R4.at' (by omega)
              obtain ⟨ax, nx, cx, e0, hIx⟩ := R4.row b5 o5 ha k hlk
              subst ha
              have e1 := (hBk.cell (p := ⟨b5, o5 + k, none⟩) hb5).trans e0
              have hst := sumLen_take ll (k := k) (by rw [HM.out]; exact hlk)
              have hsl := sumLen_le ll (k + 1)
              rw [HSUM.out] at hsl
              obtain ⟨x, hx⟩ : ∃ x, ll[k]?.getD [] = x := ⟨_, rfl⟩
              rw [hx] at l2 l3 l4 hIx hst
              obtain ⟨P, hP⟩ : ∃ P, lastL g f k = P := ⟨_, rfl⟩
              obtain ⟨Q, hQ⟩ : ∃ Q, lastL g f (k + 1) = Q := ⟨_, rfl⟩
              rw [hP, hQ] at l5
              rw [hP] at l6 ⊢
              rw [hQ] at l7 l1
              obtain ⟨p1, p2⟩ := l6
              obtain ⟨q1, q2⟩ := l7
              obtain ⟨S, hS⟩ : ∃ S, sumLen (ll.take k) = S := ⟨_, rfl⟩
              have hxl := hIx.len
              rw [hS, hxl] at hst
              rw [hst] at hsl
              rw [hS]
              have hnx : nx ≤ 256 := by omega
              have hcx := hIx.cap
              have hmx2 := hIx.mx
              unfold maxLen at hmx2
              have hpos : 0 < nx := by rw [← hxl]; exact List.length_pos_iff.2 l2
              have tnx : ((nx : Int) == 0) = false := by rw [beq_eq_false_iff_ne]; omega
              have HXL := Lib.hid hxl
              have HST := Lib.hid hst
              have HQ := Lib.hid hQ
              have HOK := Lib.hid l3
              have HLN : Hid (∀ c ∈ x, (0 ≤ c ∧ c < nc) ∧ lawLine g f c.toNat = Q) := Lib.hid fun c hc => by rw [l1]; exact l4 c hc
              have tPQ : decide (Q ≤ P) = false := by simp; omega
              clear e0 hst hx hP hQ hS hxl l1 l2 l3 l4
              go_wp2_with fail
              go_loopw [2, 8, 55] (fun v last c wr => ∃ j : Nat, j ≤ nx ∧ v = .bool false ∧ last = .int .i64 (lastIn P Q j) ∧ c = .int .i64 j ∧ Below w4.heap.size w4 wr) (fun _ _ c _ => nx - (intOf c).toNat)
              case atStart => exact ⟨0, by omega, rfl, rfl, rfl, hBk⟩
              case round =>
                clear e1
                obtain ⟨j, hj, rfl, rfl, rfl, hBj⟩ := hrel
                obtain ⟨wj, rfl⟩ : ∃ wj, wj = wr := ⟨_, rfl⟩
                have hxj := hx4.below hBj
                obtain ⟨d0, d1, d2, d3, d4⟩ := hxj.g5
                have hxl3 := hxj.lt
                by_cases hlj : j < nx
                · obtain ⟨b6, o6, hax, hb6⟩ := (hIx.below hBj).at' (by omega)
                  have e2 := (hIx.below hBj).cell b6 o6 hax j hlj
                  have e3 := fun h0 : 0 < j => (hIx.below hBj).cell b6 o6 hax (j - 1) (by omega)
                  have hjx : j < x.length := by rw [HXL.out]; exact hlj
                  have hprev : 0 < j → x[j - 1]?.getD 0 < x[j]?.getD 0 := fun h0 => by
                    have := List.pairwise_iff_getElem.1 HOK.out.1 (j - 1) j (by omega) hjx (by omega)
                    rw [List.getElem?_eq_getElem hjx, List.getElem?_eq_getElem (by omega)]
                    simpa using this
                  obtain ⟨hcb, hln⟩ := HLN.out _ (getD_mem x j hjx)
                  subst hax
                  obtain ⟨c, hc⟩ : ∃ c, x[j]?.getD 0 = c := ⟨_, rfl⟩
                  rw [hc] at e2 hprev hcb hln
                  obtain ⟨hc0, hc1⟩ := hcb
                  obtain ⟨cn, hcn⟩ : ∃ cn : Nat, c = cn := ⟨c.toNat, by omega⟩
                  rw [hcn, Int.toNat_natCast] at hln
                  have hok : ∀ w, Below wj.heap.size wj w → CellOk g w ac nc cc cn := fun w hb => ⟨((k24.below hBj).below hb), ⟨HV.out.dims.2.1, HV.out.dims.2.2.1⟩, fun x hx => by have := HV.out.mem hx; have := HV.out.area; omega, by omega⟩
                  have HCL : Hid (∀ w, Below wj.heap.size wj w → Calls Try.prog 53 #[.agg #[.int .i64 g.shape, .int .i64 g.w, .int .i64 g.h, .slice ah nh ch, .slice ac nc cc], .int .i64 f, .int .i64 c] w fun e w' => e = .returned (.int .i64 Q) ∧ Below w.heap.size w w') := Lib.hid fun w hb => by
                    have := lawline_any g f ah ac nh ch nc cc cn w (hok w hb)
                    rw [hln, ← hcn] at this
                    exact this
                  have t0 : decide (c < 0) = false := by simp; omega
                  have t1 : decide ((nc : Int) ≤ c) = false := by simp; omega
                  clear hc hln hok hcn
                  by_cases h0 : j = 0
                  · subst h0
                    have hli : lastIn P Q 0 = P := rfl
                    rw [hli]
                    simp only [Nat.add_zero] at e2
                    clear hprev e3 hli
                    go_wp2_with fail
                    refine (HCL.out _ (Below.refl _ _)).mono ?_
                    rintro e w7 ⟨rfl, hB7⟩
                    clear d0 d1 d2 d3 d4 hxl3
                    obtain ⟨d0, d1, d2, d3, d4⟩ := (hxj.below hB7).g5
                    have hxl3 := (hxj.below hB7).lt
                    go_wp2_with fail
                    refine (HCL.out _ hB7).mono ?_
                    rintro e w8 ⟨rfl, hB8⟩
                    go_wp2_with fail
                    go_roundw
                    case rel => exact ⟨0 + 1, by omega, rfl, rfl, by go_num, (hBj.on hB7).on hB8⟩
                    case measure => simp [intOf]; omega
                  · have h1 : 0 < j := by omega
                    have e5 := e3 h1
                    have h2 := hprev h1
                    have hli : lastIn P Q j = Q := by unfold lastIn; rw [if_neg h0]
                    rw [hli]
                    obtain ⟨u, hu⟩ : ∃ u, x[j - 1]?.getD 0 = u := ⟨_, rfl⟩
                    rw [hu] at e5 h2
                    have t3 : decide (c ≤ u) = false := by simp; omega
                    have t4 : decide (0 < (j : Int)) = true := by simp; omega
                    have t4' : decide (0 < j) = true := by simp; omega
                    have t5 : ((j : Int) == 0) = false := by rw [beq_eq_false_iff_ne]; omega
                    have t6 : (Q != Q) = false := by simp
                    have HJ : Hid (lastIn P Q (j + 1) = Q) := Lib.hid rfl
                    clear hprev e3 hli hu
                    go_wp2_with fail
                    refine (HCL.out _ (Below.refl _ _)).mono ?_
                    rintro e w7 ⟨rfl, hB7⟩
                    clear d0 d1 d2 d3 d4 hxl3
                    obtain ⟨d0, d1, d2, d3, d4⟩ := (hxj.below hB7).g5
                    have hxl3 := (hxj.below hB7).lt
                    go_wp2_with fail
                    refine (HCL.out _ hB7).mono ?_
                    rintro e w8 ⟨rfl, hB8⟩
                    go_wp2_with fail
                    go_roundw
                    case rel => exact ⟨j + 1, by omega, rfl, by rw [HJ.out], by go_num, (hBj.on hB7).on hB8⟩
                    case measure => simp [intOf]; omega
                · obtain rfl : j = nx := by omega
                  have hli : lastIn P Q j = Q := by unfold lastIn; rw [if_neg (by omega)]
                  rw [hli]
                  clear hli
                  go_wp2_with fail
                  go_roundw
                  case rel => exact ⟨k + 1, by omega, rfl, by rw [HST.out]; go_num, by rw [HQ.out], by go_num, hBj⟩
                  case measure => simp [intOf]; omega
            · obtain rfl : k = m := by omega
              have hfin : sumLen (ll.take k) = nc := by rw [List.take_of_length_le (by rw [HM.out]; omega)]; exact HSUM.out
              rw [hfin]
              obtain ⟨d0, d1, d2, d3, d4⟩ := hxk.g5
              have hxl3 := hxk.lt
              clear hfin
              go_wp2_with fail
              go_roundw
              case rel => exact ⟨i + 1, by omega, rfl, by go_num, hB4.on hBk⟩
              case measure => simp [intOf]; omega
    · obtain rfl : i = 3 := by omega
      go_wp2_with fail
      go_ret
      exact ⟨rfl, hBL.on hBo⟩

set_option maxRecDepth 100000 in
set_option maxHeartbeats 2000000 in
theorem lines13_lifted (os : Os) (started : os.Started) (H : Type) (enc : TypeId × Value → H) :
    ReturnsInHanded {} Try.checked os 14 .any (Rows.gridsLinesSpec.pre6 enc Try.prog Try.f14 Rows.gridsLinesRow.domain false) (Rows.gridsLinesSpec.post enc Try.prog Try.f14 false true false false) := by
  refine returnsInHanded_of_change (C := Try.checked) row_own started (by kernel_rfl) Try.func14
    (ChangeSpec.witness6 (enc := enc) (C := Try.checked) false ⟨#[], #[.agg #[.int .i64 0, .int .i64 0, .int .i64 0, .slice none 0 0, .slice none 0 0]], []⟩ 8 (by kernel_rfl) (by kernel_rfl) (by kernel_rfl) (by kernel_rfl)) ?_
  intro W base args ds gs before hval0 hW _ _
  have hval : ∀ (j : Nat) t v, Try.f14.params[j]? = some t → args[j]? = some v → Value.okWide Try.prog W .any base t v := hval0
  have hW' := hW
  obtain ⟨p, q, hA0, hV, rfl, _, _⟩ := hW
  have hA : DataW.TrodAll enc Try.prog W 0 (fun _ => true) true Try.f14.params.toList args.toList ds p := hA0
  rw [Try.params14] at hA hval
  obtain ⟨v0, d0, rfl, rfl, h0⟩ := trodAll_one hA
  obtain ⟨rfl, rfl⟩ := trodVars_none hV
  obtain ⟨g, ah, nh, ch, ac, nc, cc, rfl, hh, hc⟩ := open_G (hval 0 24 v0 rfl rfl) h0
  refine (law13Lines_any g ah ac nh ch nc cc W hh hc).mono fun e W' ⟨he, hb⟩ => ?_
  subst he
  exact ⟨_, rfl, law_post hW' rfl rfl (by kernel_rfl) rfl hb⟩
set_option maxHeartbeats 2000000 in
theorem lines13_closed : joinedFacts Try.prog 14 Try.f14 Rows.gridsLinesSpec Rows.gridsLinesRow = true := by
  unfold joinedFacts
  refine bt (bt (bt (bt (bt (bt (bt (bt (bt (bt (bt (bt (bt (bt (bt (bt (bt (bt (bt (bt (bt (bt (bt (bt (bt (bt (bt (bt (bt (bt (bt ?a0 ?a1) ?a2) ?a3) ?a4) ?a5) ?a6) ?a7) ?a8) ?a9) ?a10) ?a11) ?a12) ?a13) ?a14) ?a15) ?a16) ?a17) ?a18) ?a19) ?a20) ?a21) ?a22) ?a23) ?a24) ?a25) ?a26) ?a27) ?a28) ?a29) ?a30) ?a31
  case a25 => exact prog_enter
  case a26 => exact prog_lifts
  case a27 => exact prog_make
  all_goals as_aux_lemma => kernel_rfl
theorem gridsLines_holds : Rows.GridsLinesSaid :=
  OpenClaim.holds_of_wide 14 Try.f14 rfl rfl rfl rfl rfl rfl rfl ⟨rfl, rfl, rfl, rfl, rfl⟩ rfl rfl rfl rfl rfl (by kernel_rfl) Try.func14 lines13_closed
    (of_decide_eq_true (by kernel_rfl)) (by unfold Func.isWrapper; rw [if_neg (of_decide_eq_false (by kernel_rfl))]; exact ⟨rfl, rfl⟩)
    (fun os started H enc _ => lines13_lifted os started H enc)
#print axioms gridsLines_holds
end Go.Proofs.Ytjiacdihfbbfjaa

