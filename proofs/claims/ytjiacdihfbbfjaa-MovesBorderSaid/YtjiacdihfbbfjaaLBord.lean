/- For every grid: holes at the border change no move (law14.MovesBorder), at every input. -/
import Derived.RegionTactic
import Derived.BigRegion
import Derived.ChangeAlike
import Derived.OpenShut
import Derived.Test.YtjiacdihfbbfjaaSane
import Derived.Test.YtjiacdihfbbfjaaArr
import Derived.Test.YtjiacdihfbbfjaaBordM
import Derived.Test.YtjiacdihfbbfjaaRow
import Derived.Test.YtjiacdihfbbfjaaHeadF
import Derived.WalkKit
import Derived.WalkSpells
import Derived.WalkLawsBesides
import Derived.Deep.LoopGhost
import Derived.Deep.QuietTactic
import Derived.BigQuiet
import Derived.StillTailTactics
import Derived.Lib.Hide
import Derived.Outline
import Derived.Lib.QuietBelow
namespace Go.Proofs.Ytjiacdihfbbfjaa
open Go.ChangeShapes Go.WideShapes Go.ChangeAt Go.RowKit Go.Deep

theorem flags_more {N : Nat} {cs : List Int} {k : Nat} (hk : k < N) : (flags N cs)[k]? = some (.bool (inL cs (k : Int))) := flags_get N cs hk
theorem gridL_some {s w h : Int} {holes : List Int} {g : Grid} (hm : makeL s w h holes = some g) : gridL s w h holes = g := by unfold gridL; rw [hm]; rfl
theorem checkErr_valid {g : Grid} (hv : Valid g) : checkErr g = 0 := by
  rcases checkErr_cases g with ⟨h, _⟩ | ⟨_, h⟩
  · exact h
  · exact absurd hv h
theorem moves_valid {g : Grid} (hv : Valid g) : movesOut g = movesL g := by unfold movesOut; rw [if_pos (checkErr_valid hv)]

set_option maxRecDepth 100000 in
set_option maxHeartbeats 4000000 in
theorem lawBord_any (s w h : Int) (a0 : Option Addr) (n0 c0 : Nat) (holes : List Int) (l r u d : Int) (W : World) (h0 : Ints W a0 n0 c0 holes) (hl : 0 ≤ l ∧ l ≤ 255) (hr : 0 ≤ r ∧ r ≤ 255) (hu : 0 ≤ u ∧ u ≤ 255) (hd : 0 ≤ d ∧ d ≤ 255) :
    Calls Try.prog 7 #[.int .i64 s, .int .i64 w, .int .i64 h, .slice a0 n0 c0, .int .u8 l, .int .u8 r, .int .u8 u, .int .u8 d] W fun e w' => e = .returned (.bool true) ∧ Below W.heap.size W w' := by
  obtain ⟨g, hg⟩ : ∃ g, gridL s w h holes = g := ⟨_, rfl⟩
  have hcs := gridL_cases s w h holes
  rw [hg] at hcs
  have HG := Lib.hid hg
  have HCS := Lib.hid hcs
  clear hg hcs
  go_enter Try.func7, Try.ntmps7
  go_wp2_with fail
  refine (sane_any W).mono ?_
  rintro e w1 ⟨rfl, hB1⟩
  go_wp2_with fail
  refine (grid_any s w h a0 n0 c0 holes _ (h0.below hB1)).mono ?_
  rintro e w2 ⟨v2, rfl, ⟨ah, nh, ch, ac, nc, cc, rfl, hI1, hI2, _, _⟩, hB2⟩
  have hfewG := gridL_few s w h holes
  rw [HG.out] at hI1 hI2 hfewG ⊢
  have hal : Below w2.heap.size w2 (w2.alloc (.cells #[.int .i64 g.shape, .int .i64 g.w, .int .i64 g.h, .slice ah nh ch, .slice ac nc cc] 24)) := (Below.refl _ _).alloc (Nat.le_refl _) _
  have hbx := Box.new w2 #[.int .i64 g.shape, .int .i64 g.w, .int .i64 g.h, .slice ah nh ch, .slice ac nc cc] 24
  have hB3 := (hB1.on hB2).on hal
  have hJ1 := hI1.below hal
  have hJ2 := hI2.below hal
  have hln := hI2.len
  have hlh := hI1.len
  have hcc := hI2.cap
  have hmc := hI2.mx
  unfold maxLen at hmc
  clear hB1 hB2 hI1 hI2 hal
  go_wp2_with fail
  obtain ⟨w3, hw3⟩ : ∃ w3, w2.alloc (.cells #[.int .i64 g.shape, .int .i64 g.w, .int .i64 g.h, .slice ah nh ch, .slice ac nc cc] 24) = w3 := ⟨_, rfl⟩
  rw [hw3] at hbx hB3 hJ1 hJ2 ⊢
  clear hw3
  obtain ⟨gB, hgB⟩ : ∃ gB, w2.heap.size = gB := ⟨_, rfl⟩
  rw [hgB] at hbx ⊢
  clear hgB
  cases hf : fewG g
  · have HF := Lib.hid hf
    clear hf
    refine (fewG_any g ah ac nh ch nc cc w3 hJ1 hJ2).mono ?_
    rintro e w4 ⟨rfl, hB4⟩
    rw [HF.out]
    go_wp2_with fail
    go_ret
    exact ⟨rfl, hB3.on hB4⟩
  · have hnc : nc ≤ 30 := by
      unfold fewG at hf
      simp only [Bool.and_eq_true, decide_eq_true_eq] at hf
      omega
    have HF := Lib.hid hf
    clear hf
    refine (fewG_any g ah ac nh ch nc cc w3 hJ1 hJ2).mono ?_
    rintro e w4 ⟨rfl, hB4⟩
    rw [HF.out]
    have hx4 := hbx.below hB4
    have hB5 := hB3.on hB4
    have hJ4 := hJ2.below hB4
    have hv4 : GridV w4 (.agg #[.int .i64 g.shape, .int .i64 g.w, .int .i64 g.h, .slice ah nh ch, .slice ac nc cc]) g := ⟨_, _, _, _, _, _, rfl, hJ1.below hB4, hJ2.below hB4⟩
    clear hbx hB3 hB4 hJ1 hJ2
    obtain ⟨d0, d1, d2, d3, d4⟩ := hx4.g5
    rcases HCS.out with ⟨g', e1, hmk, hv, hE, hM⟩ | ⟨e1, hE, hM⟩
    · subst e1
      have hpos := hv.pos
      rw [hln] at hpos
      obtain ⟨_, es, ew, eh, _⟩ := valid_make hmk
      have hdm := hv.dims
      rw [es, ew, eh] at hdm
      obtain ⟨m0, m1, m2, m3, m4⟩ := hdm
      obtain ⟨A, hA⟩ : ∃ A : Nat, l % 3 = (A : Int) := ⟨(l % 3).toNat, by omega⟩
      obtain ⟨B, hB⟩ : ∃ B : Nat, r % 3 = (B : Int) := ⟨(r % 3).toNat, by omega⟩
      obtain ⟨C2, hC2⟩ : ∃ C2 : Nat, u % 2 = (C2 : Int) := ⟨(u % 2).toNat, by omega⟩
      obtain ⟨D, hD⟩ : ∃ D : Nat, d % 3 = (D : Int) := ⟨(d % 3).toNat, by omega⟩
      obtain ⟨C, hC⟩ : ∃ C : Nat, 2 * (C2 : Int) = (C : Int) := ⟨2 * C2, by omega⟩
      obtain ⟨wn, rfl⟩ : ∃ wn : Nat, w = wn := ⟨w.toNat, by omega⟩
      obtain ⟨hn, rfl⟩ : ∃ hn : Nat, h = hn := ⟨h.toNat, by omega⟩
      obtain ⟨X, hX⟩ : ∃ X : Nat, (A : Int) + wn + B = (X : Int) := ⟨A + wn + B, by omega⟩
      obtain ⟨Y, hY⟩ : ∃ Y : Nat, (C : Int) + hn + D = (Y : Int) := ⟨C + hn + D, by omega⟩
      obtain ⟨N, hN⟩ : ∃ N, X * Y = N := ⟨_, rfl⟩
      have hXY : (X : Int) * (Y : Int) = (N : Int) := by rw [← hN]; simp
      have bX : A + wn + B = X := by omega
      have bY : C + hn + D = Y := by omega
      have bC : C = 0 ∨ C = 2 := by omega
      have tnc : ((nc : Int) == 0) = false := by simp; omega
      have HX1 := Lib.hid bX
      have HY1 := Lib.hid bY
      have HC1 := Lib.hid bC
      have HN := Lib.hid hN
      have HES := Lib.hid (And.intro es (And.intro ew eh))
      have HM0 := Lib.hid m0
      have hA3 : A ≤ 2 := by omega
      have hB3' : B ≤ 2 := by omega
      have hC3 : C ≤ 2 := by omega
      have hD3 : D ≤ 2 := by omega
      clear es ew eh bX bY bC hN m0
      by_cases hbig : 16 < X ∨ 16 < Y
      · rcases hbig with hbig | hbig
        · have tX : decide (16 < (X : Int)) = true := by simp; omega
          clear hbig
          go_wp2_with fail
          go_ret
          exact ⟨rfl, hB5⟩
        · have tY : decide (16 < (Y : Int)) = true := by simp; omega
          by_cases hbx : 16 < X
          · have tX : decide (16 < (X : Int)) = true := by simp; omega
            clear hbig hbx
            go_wp2_with fail
            go_ret
            exact ⟨rfl, hB5⟩
          · have tX : decide (16 < (X : Int)) = false := by simp; omega
            clear hbig hbx
            go_wp2_with fail
            go_ret
            exact ⟨rfl, hB5⟩
      · have tX : decide (16 < (X : Int)) = false := by simp; omega
        have tY : decide (16 < (Y : Int)) = false := by simp; omega
        have bX16 : X ≤ 16 := by omega
        have bY16 : Y ≤ 16 := by omega
        have bN : N ≤ 256 := by rw [← HN.out]; exact Nat.mul_le_mul bX16 bY16
        clear hbig
        have hmk2 := make_bools N bN
        have p0 : 0 ≤ (X : Int) * (Y : Int) := by rw [hXY]; omega
        have p1 : (X : Int) * (Y : Int) ≤ 256 := by rw [hXY]; omega
        have hbf := Box.new w4 (flags N []) 4
        have haf : Below w4.heap.size w4 (w4.alloc (.cells (flags N []) 4)) := (Below.refl _ _).alloc (Nat.le_refl _) _
        have hgl := hx4.lt
        obtain ⟨cs, hcs⟩ : ∃ cs, g.cells.map (trP wn X A C) = cs := ⟨_, rfl⟩
        have hcl : cs.length = nc := by rw [← hcs, List.length_map, hln]
        have HCSX := Lib.hid hcs
        have HCL := Lib.hid hcl
        have HV := Lib.hid hv
        have HMK := Lib.hid hmk
        clear hcs hcl hv hmk
        go_wp2_with fail
        go_loopw [85] (fun c wr => ∃ k : Nat, k ≤ nc ∧ c = .int .i64 k ∧ Box wr w4.heap.size (flags N (cs.take k)) 4 ∧ Below w4.heap.size w4 wr) (fun c _ => nc - (intOf c).toNat)
        case atStart => exact ⟨0, by omega, rfl, by simpa using hbf, haf⟩
        case round =>
          clear hbf haf
          obtain ⟨k, hk, rfl, hP, hBz⟩ := hrel
          by_cases hlt : k < nc
          · obtain ⟨bc, oc, rfl, hbc⟩ := hJ4.at' (by omega)
            have e0 := (hBz.cell (p := ⟨bc, oc + k, none⟩) hbc).trans (hJ4.cell _ _ rfl k hlt)
            obtain ⟨x, hx⟩ : ∃ x, g.cells[k]?.getD 0 = x := ⟨_, rfl⟩
            have hxm := HV.out.mem (getD_mem g.cells k (by omega))
            rw [HES.out.2.1, HES.out.2.2, hx] at hxm
            rw [hx] at e0
            have hbd := trP_bd (w := wn) (h := hn) (wide := X) (high := Y) (a := A) (c := C) (x := x) m1 (by omega) (by have := HX1.out; omega) (by omega) (by have := HY1.out; omega) hxm
            rw [hXY] at hbd
            have q1 : 0 ≤ x / (wn : Int) := Int.ediv_nonneg hxm.1 (by omega)
            have q3 : 0 ≤ x % (wn : Int) := Int.emod_nonneg _ (by omega)
            have q4 : x % (wn : Int) < wn := Int.emod_lt_of_pos _ (by omega)
            have q6 : x / (wn : Int) < hn := Int.ediv_lt_of_lt_mul (by omega) (by rw [Int.mul_comm]; exact hxm.2)
            have hxb : x < 256 := by have := HV.out.mem (getD_mem g.cells k (by omega)); have := HV.out.area; omega
            obtain ⟨q, hq⟩ : ∃ q : Nat, x / (wn : Int) = (q : Int) := ⟨(x / (wn : Int)).toNat, by omega⟩
            obtain ⟨z, hz⟩ : ∃ z : Nat, x % (wn : Int) = (z : Int) := ⟨(x % (wn : Int)).toNat, by omega⟩
            obtain ⟨M, hM⟩ : ∃ M : Nat, ((q : Int) + C) * X = (M : Int) := ⟨(q + C) * X, by simp⟩
            obtain ⟨T, hT⟩ : ∃ T : Nat, (M : Int) + z + A = (T : Int) := ⟨M + z + A, by omega⟩
            have hTT : trP wn X A C x = (T : Int) := by unfold trP; rw [hq, hz, hM, hT]
            rw [hTT] at hbd
            have HT : Hid (cs.take (k + 1) = cs.take k ++ [(T : Int)]) := Lib.hid (by
              rw [take_getD cs k (by rw [HCL.out]; exact hlt)]
              congr 2
              rw [← HCSX.out, List.getElem?_map, List.getElem?_eq_getElem (by omega)]
              rw [List.getElem?_eq_getElem (by omega)] at hx
              simp only [Option.map_some, Option.getD_some] at hx ⊢
              rw [hx, hTT])
            have hTN : (T : Int) < (N : Int) := hbd.2
            have hTz : T < N := by omega
            have d5 := hP.cell T
            rw [flags_get N _ hTz] at d5
            have f5 := hP.frozen T
            have hP2 := hP.set T (.bool true)
            rw [flags_set N _ hTz, ← HT.out] at hP2
            have hB2 := hBz.setCell (p := ⟨w4.heap.size, T, none⟩) (Nat.le_refl _) (.bool true)
            have tw : ((wn : Int) == 0) = false := by simp; omega
            have hq' : x.tdiv (wn : Int) = (q : Int) := by rw [Int.tdiv_eq_ediv_of_nonneg hxm.1]; exact hq
            have hz' : x.tmod (wn : Int) = (z : Int) := by rw [Int.tmod_eq_emod_of_nonneg hxm.1]; exact hz
            have z0 : z ≤ 16 := by omega
            have z1 : q ≤ 16 := by omega
            have z2 : M ≤ 256 := by omega
            have z3 : 0 ≤ ((q : Int) + C) * X := by rw [hM]; omega
            have z4 : ((q : Int) + C) * X ≤ 256 := by rw [hM]; omega
            clear hx hxm hbd q1 q3 q4 q6 hTT hP
            go_wp2_with fail
            go_region
            go_wp2_with fail
            go_roundw
            case rel => exact ⟨k + 1, by omega, by go_num, by first | exact hP2 | exact hP2.drewN 1, hB2.drew⟩
            case measure => simp [intOf]; omega
          · obtain rfl : k = nc := by omega
            obtain ⟨wa, rfl⟩ : ∃ wa, wa = wr := ⟨_, rfl⟩
            rw [List.take_of_length_le (by rw [HCL.out]; omega)] at hP
            have hBa := hB5.on hBz
            have hsz := hBz.size
            have hwl := hP.lt
            have HXY := Lib.hid hXY
            clear hA hB hC2 hD hC hX hY hXY
            obtain ⟨i3, hi3, hz30, hz31, hz32⟩ := info_parts info_int
            go_wp2_with fail
            go_loopw [27, 107] (fun mv c wr => ∃ j : Nat, j ≤ N ∧ c = .int .i64 j ∧ OwnInts wr wa.heap.size 3 mv (cellsUpto j cs) ∧ Box wr w4.heap.size (flags N cs) 4 ∧ Below wa.heap.size wa wr) (fun _ c _ => N - (intOf c).toNat)
            case atStart => exact ⟨0, by omega, rfl, OwnInts.nil _ _ _, hP, Below.refl _ _⟩
            case round =>
              clear hP
              obtain ⟨j, hj, rfl, hO, hP, hBm⟩ := hrel
              by_cases hlt : j < N
              · have d5 := hP.cell j
                rw [flags_get N _ hlt] at d5
                have hsm := hBm.size
                have q0 : (j : Int) < (N : Int) := by omega
                obtain ⟨L, hL⟩ : ∃ L, (cellsUpto j cs).length = L := ⟨_, rfl⟩
                have hLj := cellsUpto_le j cs
                rw [hL] at hLj
                have HS := Lib.hid (cellsUpto_succ j cs)
                cases hin : inL cs (j : Int)
                · have hOr : wr.ownsRow wa.heap.size 3 1 _ (cellsUpto j cs).length ((cellsUpto j cs).map (Value.int .i64)) := hO
                  rw [hL] at hOr
                  rw [hin] at d5
                  have HI := Lib.hid hin
                  have HL := Lib.hid hL
                  clear hin hL hO
                  go_wp2_with (at_builtin; refine wpList_append_own2 _ rfl _ _ 22 rfl wa.heap.size 3 i3 (.int .i64 0) 1 8 Try.underlying22 hi3 hz30 hz31 hz32 rfl (by decide) _ _ _ (hOr.alloc _) rfl ⟨_, 0, none⟩ 1 1 [.int .i64 (j : Int)] rfl rfl (cell_one_new _ _ _) (by simp [Value.oneCell']) (by unfold maxLen; omega) (by omega) (by first | omega | (simp; omega)) ?_; intro v' w1 hown' hgrow hfr)
                  go_roundw
                  case rel =>
                    refine ⟨j + 1, by omega, by go_num, ?_, (hP.alloc _).grown hgrow (fun e => by have := (hOr.lt _ e).1; omega), (hBm.alloc hsm _).grown hgrow (by simp; omega) (fun q e => (hOr.lt q e).1)⟩
                    rw [HS.out, HI.out]
                    exact OwnInts.snoc (by rw [HL.out]; exact hown')
                  case measure => simp [intOf]; omega
                · rw [hin] at d5
                  have HI := Lib.hid hin
                  clear hin hL
                  go_wp2_with fail
                  go_roundw
                  case rel => exact ⟨j + 1, by omega, by go_num, by rw [HS.out, HI.out]; exact hO, hP, hBm⟩
                  case measure => simp [intOf]; omega
              · obtain rfl : j = N := by omega
                obtain ⟨wb, rfl⟩ : ∃ wb, wb = wr := ⟨_, rfl⟩
                obtain ⟨am, cm, rfl, hIm⟩ := hO.ints
                obtain ⟨L, hL⟩ : ∃ L, (cellsUpto j cs).length = L := ⟨_, rfl⟩
                rw [hL] at hIm ⊢
                have hBb := hBa.on hBm
                have hx6 := (hx4.below hBz).below hBm
                have hv6 := (hv4.below hBz).below hBm
                obtain ⟨g', hg', hmm⟩ := border (wide := X) (high := Y) HMK.out (A := j) (a := A) (c := C) HXY.out (by omega) (by have := HX1.out; omega) (by have := HC1.out; omega) (by have := HY1.out; omega) (by omega) (by omega)
                rw [HCSX.out] at hg'
                unfold moreL at hg'
                obtain ⟨hv', _⟩ := valid_make hg'
                have hgr := grid_any s X Y am L cm (cellsUpto j cs)
                rw [gridL_some hg'] at hgr
                have hE' := checkErr_valid hv'
                have hM' := (moves_valid hv').trans hmm
                obtain ⟨ll, hll⟩ : ∃ ll, movesL g = ll := ⟨_, rfl⟩
                obtain ⟨K, hK⟩ : ∃ K, ll.length = K := ⟨_, rfl⟩
                rw [hll] at hM hM'
                have HGR := Lib.hid hgr
                have HE' := Lib.hid hE'
                have HM' := Lib.hid hM'
                have HM := Lib.hid hM
                have HE := Lib.hid hE
                have HK := Lib.hid hK
                have hfew' : g'.holes.length ≤ 256 ∧ g'.cells.length ≤ 256 := by
                  have := gridL_few s X Y (cellsUpto j cs)
                  rw [gridL_some hg'] at this
                  exact this
                clear hL hO hP d0 d1 d2 d3 d4 hg' hmm hv' hgr hE' hM' hll hK hM hE
                obtain ⟨d0, d1, d2, d3, d4⟩ := hx6.g5
                go_wp2_with fail
                refine (moves_lit hv6 ⟨hfewG.1, by omega⟩ HE.out HM.out).mono ?_
                rintro e w7 ⟨v7, rfl, hO7, hB7⟩
                obtain ⟨a7, c7, rfl, hR7⟩ := hO7.rows
                rw [HK.out] at hR7 ⊢
                have hBc := hBb.on hB7
                go_wp2_with fail
                refine (HGR.out w7 (hIm.below hB7)).mono ?_
                rintro e w8 ⟨v8, rfl, hF8, hB8⟩
                have hv8 := hF8.v
                have hBd := hBc.on hB8
                have hR8 := hR7.below hB8
                clear hR7 hO7 hF8 hB7 hB8 d0 d1 d2 d3 d4
                go_wp2_with fail
                refine (moves_lit hv8 ⟨hfew'.1, by omega⟩ HE'.out HM'.out).mono ?_
                rintro e w9 ⟨v9, rfl, hO9, hB9⟩
                obtain ⟨a9, c9, rfl, hR9⟩ := hO9.rows
                rw [HK.out] at hR9 ⊢
                have hBe := hBd.on hB9
                have hR8' := hR8.below hB9
                clear hO9 hR8 hv8
                go_wp2_with fail
                refine (same_lit hR8' hR9 rfl).mono ?_
                rintro e wx ⟨rfl, q, rfl⟩
                go_wp2_with fail
                go_ret
                exact ⟨rfl, below_drewN hBe q⟩
    · subst e1
      have hn0 : nc = 0 := by simp [zeroGrid] at hln; omega
      subst hn0
      go_wp2_with fail
      go_ret
      exact ⟨rfl, hB5⟩

/-- One more argument. -/
theorem okWide_u8 {z : Int} (h : (Lit.int .u8 z).wf = true) : 0 ≤ z ∧ z ≤ 255 := by
  have e1 : IntKind.u8.min = 0 := rfl
  have e2 : IntKind.u8.max = 255 := rfl
  simpa [Lit.wf, e1, e2] using h
section
variable {H : Type} {P : Program} {enc : TypeId × Value → H} {w : World} {base : Nat} {spare : Nat → Bool} {held : Bool}
theorem trodAll_more {t : TypeId} {ts : List TypeId} {vs : List Value} {ds : List (DataW H)} {ps : List MemPlace} (h : DataW.TrodAll enc P w base spare held (t :: ts) vs ds ps) :
    ∃ v vs' d ds' p ps', vs = v :: vs' ∧ ds = d :: ds' ∧ ps = p ++ ps' ∧ DataW.Trod enc P w base spare held t v d p ∧ DataW.TrodAll enc P w base spare held ts vs' ds' ps' := trodAll_cons h
theorem trodAll_eight {t0 t1 t2 t3 t4 t5 t6 t7 : TypeId} {args : Array Value} {ds : List (DataW H)} {ps : List MemPlace} (h : DataW.TrodAll enc P w base spare held [t0, t1, t2, t3, t4, t5, t6, t7] args.toList ds ps) :
    ∃ v0 v1 v2 v3 v4 v5 v6 v7 d0 d1 d2 d3 d4 d5 d6 d7 p0 p1 p2 p3 p4 p5 p6 p7, args = #[v0, v1, v2, v3, v4, v5, v6, v7] ∧ ds = [d0, d1, d2, d3, d4, d5, d6, d7] ∧ ps = p0 ++ (p1 ++ (p2 ++ (p3 ++ (p4 ++ (p5 ++ (p6 ++ p7)))))) ∧
      DataW.Trod enc P w base spare held t0 v0 d0 p0 ∧ DataW.Trod enc P w base spare held t1 v1 d1 p1 ∧ DataW.Trod enc P w base spare held t2 v2 d2 p2 ∧ DataW.Trod enc P w base spare held t3 v3 d3 p3 ∧ DataW.Trod enc P w base spare held t4 v4 d4 p4 ∧ DataW.Trod enc P w base spare held t5 v5 d5 p5 ∧ DataW.Trod enc P w base spare held t6 v6 d6 p6 ∧ DataW.Trod enc P w base spare held t7 v7 d7 p7 := by
  obtain ⟨l⟩ := args
  obtain ⟨v0, l0, d0, e0, p0, q0, hl, rfl, rfl, h0, h⟩ := trodAll_more h
  obtain ⟨v1, l1, d1, e1, p1, q1, rfl, rfl, rfl, h1, h⟩ := trodAll_more h
  obtain ⟨v2, l2, d2, e2, p2, q2, rfl, rfl, rfl, h2, h⟩ := trodAll_more h
  obtain ⟨v3, l3, d3, e3, p3, q3, rfl, rfl, rfl, h3, h⟩ := trodAll_more h
  obtain ⟨v4, l4, d4, e4, p4, q4, rfl, rfl, rfl, h4, h⟩ := trodAll_more h
  obtain ⟨v5, l5, d5, e5, p5, q5, rfl, rfl, rfl, h5, h⟩ := trodAll_more h
  obtain ⟨v6, l6, d6, e6, p6, q6, rfl, rfl, rfl, h6, h⟩ := trodAll_more h
  obtain ⟨v7, l7, d7, e7, p7, q7, rfl, rfl, rfl, h7, h⟩ := trodAll_more h
  obtain ⟨rfl, rfl, rfl⟩ := trodAll_nil h
  simp only at hl
  subst hl
  exact ⟨v0, v1, v2, v3, v4, v5, v6, v7, d0, d1, d2, d3, d4, d5, d6, d7, p0, p1, p2, p3, p4, p5, p6, p7, rfl, rfl, by simp, h0, h1, h2, h3, h4, h5, h6, h7⟩
end
set_option maxRecDepth 100000 in
set_option maxHeartbeats 2000000 in
theorem border_lifted (os : Os) (started : os.Started) (H : Type) (enc : TypeId × Value → H) :
    ReturnsInHanded {} Try.checked os 7 .any (Rows.movesBorderSpec.pre6 enc Try.prog Try.f7 Rows.movesBorderRow.domain false) (Rows.movesBorderSpec.post enc Try.prog Try.f7 false true false false) := by
  refine returnsInHanded_of_change (C := Try.checked) row_own started (by kernel_rfl) Try.func7
    (ChangeSpec.witness6 (enc := enc) (C := Try.checked) false ⟨#[], #[.int .i64 0, .int .i64 0, .int .i64 0, .slice none 0 0, .int .u8 0, .int .u8 0, .int .u8 0, .int .u8 0], []⟩ 8 (by kernel_rfl) (by kernel_rfl) (by kernel_rfl) (by kernel_rfl)) ?_
  intro W base args ds gs before hval0 hW _ _
  have hval : ∀ (j : Nat) t v, Try.f7.params[j]? = some t → args[j]? = some v → Value.okWide Try.prog W .any base t v := hval0
  have hW' := hW
  obtain ⟨p, q, hA0, hV, rfl, _, _⟩ := hW
  have hA : DataW.TrodAll enc Try.prog W 0 (fun _ => true) true Try.f7.params.toList args.toList ds p := hA0
  rw [Try.params7] at hA hval
  obtain ⟨v0, v1, v2, v3, v4, v5, v6, v7, d0, d1, d2, d3, d4, d5, d6, d7, p0, p1, p2, p3, p4, p5, p6, p7, rfl, rfl, rfl, h0, h1, h2, h3, h4, h5, h6, h7⟩ := trodAll_eight hA
  obtain ⟨rfl, rfl⟩ := trodVars_none hV
  obtain ⟨s, rfl, rfl, rfl, _⟩ := open_int Try.underlying3 (hval 0 3 v0 rfl rfl) h0
  obtain ⟨w, rfl, rfl, rfl, _⟩ := open_int Try.underlying3 (hval 1 3 v1 rfl rfl) h1
  obtain ⟨h, rfl, rfl, rfl, _⟩ := open_int Try.underlying3 (hval 2 3 v2 rfl rfl) h2
  obtain ⟨ap, np, cp, pl, rfl, hp, _⟩ := open_L (hval 3 22 v3 rfl rfl) h3
  obtain ⟨x4, rfl, rfl, rfl, w4⟩ := open_int Try.underlying5 (hval 4 5 v4 rfl rfl) h4
  obtain ⟨x5, rfl, rfl, rfl, w5⟩ := open_int Try.underlying5 (hval 5 5 v5 rfl rfl) h5
  obtain ⟨x6, rfl, rfl, rfl, w6⟩ := open_int Try.underlying5 (hval 6 5 v6 rfl rfl) h6
  obtain ⟨x7, rfl, rfl, rfl, w7⟩ := open_int Try.underlying5 (hval 7 5 v7 rfl rfl) h7
  refine (lawBord_any s w h ap np cp pl x4 x5 x6 x7 W hp (okWide_u8 w4) (okWide_u8 w5) (okWide_u8 w6) (okWide_u8 w7)).mono fun e W' ⟨he, hb⟩ => ?_
  subst he
  exact ⟨_, rfl, law_post hW' rfl rfl (by kernel_rfl) rfl hb⟩
set_option maxHeartbeats 2000000 in
theorem movesBorder_closed : joinedFacts Try.prog 7 Try.f7 Rows.movesBorderSpec Rows.movesBorderRow = true := by
  unfold joinedFacts
  refine bt (bt (bt (bt (bt (bt (bt (bt (bt (bt (bt (bt (bt (bt (bt (bt (bt (bt (bt (bt (bt (bt (bt (bt (bt (bt (bt (bt (bt (bt (bt ?a0 ?a1) ?a2) ?a3) ?a4) ?a5) ?a6) ?a7) ?a8) ?a9) ?a10) ?a11) ?a12) ?a13) ?a14) ?a15) ?a16) ?a17) ?a18) ?a19) ?a20) ?a21) ?a22) ?a23) ?a24) ?a25) ?a26) ?a27) ?a28) ?a29) ?a30) ?a31
  case a25 => exact prog_enter
  case a26 => exact prog_lifts
  case a27 => exact prog_make
  all_goals as_aux_lemma => kernel_rfl
theorem movesBorder_holds : Rows.MovesBorderSaid :=
  OpenClaim.holds_of_wide 7 Try.f7 rfl rfl rfl rfl rfl rfl rfl ⟨rfl, rfl, rfl, rfl, rfl⟩ rfl rfl rfl rfl rfl (by kernel_rfl) Try.func7 movesBorder_closed
    (of_decide_eq_true (by kernel_rfl)) (by unfold Func.isWrapper; rw [if_neg (of_decide_eq_false (by kernel_rfl))]; exact ⟨rfl, rfl⟩)
    (fun os started H enc _ => border_lifted os started H enc)
#print axioms movesBorder_holds
end Go.Proofs.Ytjiacdihfbbfjaa
