/- For every shape, size, list of holes, grid and position, grids.Make, Check and Cell answer as the reference does (law13.GridsMakeSpec), at every input. -/
import Derived.Deep.RegionHeld3
import Derived.Test.YtjiacdihfbbfjaaLGs
import Derived.Test.YtjiacdihfbbfjaaRowX
import Derived.Test.YtjiacdihfbbfjaaHeadF
import Derived.WalkKit
import Derived.WalkSpells
import Derived.WalkLawsBesides
import Derived.Deep.LoopGhost
import Derived.Deep.QuietTactic
import Derived.BigQuiet
import Derived.StillTailTactics
import Derived.Lib.Hide
import Derived.Outline
import Derived.Lib.QuietBelow
namespace Go.Proofs.Ytjiacdihfbbfjaa
open Go.ChangeShapes Go.WideShapes Go.ChangeAt Go.RowKit Go.Deep

theorem few13_outM {g : Grid} {W : World} {ah ac : Option Addr} {nh ch nc cc : Nat} (h1 : Ints W ah nh ch g.holes) (h2 : Ints W ac nc cc g.cells) (hf : fewG13 g = true) : nh ≤ 300 ∧ nc ≤ 300 := by
  unfold fewG13 at hf
  simp only [Bool.and_eq_true, decide_eq_true_eq] at hf
  rw [← h1.len, ← h2.len]; exact hf
theorem g15_keep {w0 w w' : World} {A B C : Nat} {u0 u1 u2 u3 u4 v0 v1 v2 v3 v4 x0 x1 x2 x3 x4 : Value}
    (h : w.cell? ⟨A, 0, none⟩ = some u0 ∧ w.cell? ⟨A, 1, none⟩ = some u1 ∧ w.cell? ⟨A, 2, none⟩ = some u2 ∧ w.cell? ⟨A, 3, none⟩ = some u3 ∧ w.cell? ⟨A, 4, none⟩ = some u4 ∧ w.cell? ⟨B, 0, none⟩ = some v0 ∧ w.cell? ⟨B, 1, none⟩ = some v1 ∧ w.cell? ⟨B, 2, none⟩ = some v2 ∧ w.cell? ⟨B, 3, none⟩ = some v3 ∧ w.cell? ⟨B, 4, none⟩ = some v4 ∧ w.cell? ⟨C, 0, none⟩ = some x0 ∧ w.cell? ⟨C, 1, none⟩ = some x1 ∧ w.cell? ⟨C, 2, none⟩ = some x2 ∧ w.cell? ⟨C, 3, none⟩ = some x3 ∧ w.cell? ⟨C, 4, none⟩ = some x4 ∧ Below w0.heap.size w0 w) (hb : Below w.heap.size w w') :
    w'.cell? ⟨A, 0, none⟩ = some u0 ∧ w'.cell? ⟨A, 1, none⟩ = some u1 ∧ w'.cell? ⟨A, 2, none⟩ = some u2 ∧ w'.cell? ⟨A, 3, none⟩ = some u3 ∧ w'.cell? ⟨A, 4, none⟩ = some u4 ∧ w'.cell? ⟨B, 0, none⟩ = some v0 ∧ w'.cell? ⟨B, 1, none⟩ = some v1 ∧ w'.cell? ⟨B, 2, none⟩ = some v2 ∧ w'.cell? ⟨B, 3, none⟩ = some v3 ∧ w'.cell? ⟨B, 4, none⟩ = some v4 ∧ w'.cell? ⟨C, 0, none⟩ = some x0 ∧ w'.cell? ⟨C, 1, none⟩ = some x1 ∧ w'.cell? ⟨C, 2, none⟩ = some x2 ∧ w'.cell? ⟨C, 3, none⟩ = some x3 ∧ w'.cell? ⟨C, 4, none⟩ = some x4 ∧ Below w0.heap.size w0 w' := by
  obtain ⟨h0, h1, h2, h3, h4, k0, k1, k2, k3, k4, m0, m1, m2, m3, m4, h7⟩ := h
  obtain ⟨a0, a1, a2, a3, a4, a5⟩ := g5_keep (B := A) ⟨h0, h1, h2, h3, h4, h7⟩ hb
  obtain ⟨b0, b1, b2, b3, b4, _⟩ := g5_keep (B := B) ⟨k0, k1, k2, k3, k4, h7⟩ hb
  obtain ⟨c0, c1, c2, c3, c4, _⟩ := g5_keep (B := C) ⟨m0, m1, m2, m3, m4, h7⟩ hb
  exact ⟨a0, a1, a2, a3, a4, b0, b1, b2, b3, b4, c0, c1, c2, c3, c4, a5⟩
set_option maxRecDepth 40000 in
set_option maxHeartbeats 4000000 in
theorem law13Make_any (s w h : Int) (a0 : Option Addr) (n0 c0 : Nat) (holes : List Int) (g : Grid) (pos : Int) (ah ac : Option Addr) (nh ch nc cc : Nat) (W : World) (h0 : Ints W a0 n0 c0 holes) (h1 : Ints W ah nh ch g.holes) (h2 : Ints W ac nc cc g.cells) :
    Calls Try.prog 10 #[.int .i64 s, .int .i64 w, .int .i64 h, .slice a0 n0 c0, .agg #[.int .i64 g.shape, .int .i64 g.w, .int .i64 g.h, .slice ah nh ch, .slice ac nc cc], .int .i64 pos] W fun e w' => e = .returned (.bool true) ∧ Below W.heap.size W w' := by
  have hm0 := h0.mx
  have hc0 := h0.cap
  unfold maxLen at hm0
  by_cases h300 : 300 < n0
  · have t1 : decide (300 < (n0 : Int)) = true := by simp; omega
    have t2 : decide (300 < n0) = true := by simp; omega
    have hal : Below W.heap.size W (W.alloc (.cells #[.int .i64 g.shape, .int .i64 g.w, .int .i64 g.h, .slice ah nh ch, .slice ac nc cc] 24)) := (Below.refl _ _).alloc (Nat.le_refl _) _
    have hbx := Box.new W #[.int .i64 g.shape, .int .i64 g.w, .int .i64 g.h, .slice ah nh ch, .slice ac nc cc] 24
    go_enter Try.func10, Try.ntmps10
    go_wp2_with fail
    refine (sane13_any _).mono ?_
    rintro e w1 ⟨rfl, hB1⟩
    have hx1 := hbx.below hB1
    have hB2 := hal.on hB1
    obtain ⟨d0, d1, d2, d3, d4⟩ := hx1.g5
    have hxl1 := hx1.lt
    clear hbx hal hB1
    go_wp2_with fail
    go_ret
    exact ⟨rfl, hB2⟩
  · have t1 : decide (300 < (n0 : Int)) = false := by simp; omega
    have t2 : decide (300 < n0) = false := by simp; omega
    cases hf : fewG13 g
    · have HF := Lib.hid hf
      clear hf
      have hal : Below W.heap.size W (W.alloc (.cells #[.int .i64 g.shape, .int .i64 g.w, .int .i64 g.h, .slice ah nh ch, .slice ac nc cc] 24)) := (Below.refl _ _).alloc (Nat.le_refl _) _
      have hbx := Box.new W #[.int .i64 g.shape, .int .i64 g.w, .int .i64 g.h, .slice ah nh ch, .slice ac nc cc] 24
      go_enter Try.func10, Try.ntmps10
      go_wp2_with fail
      refine (sane13_any _).mono ?_
      rintro e w1 ⟨rfl, hB1⟩
      have hx1 := hbx.below hB1
      have hB2 := hal.on hB1
      obtain ⟨d0, d1, d2, d3, d4⟩ := hx1.g5
      have hxl1 := hx1.lt
      clear hbx hal hB1
      go_wp2_with fail
      refine (few13_any g ah ac nh ch nc cc w1 (h1.below hB2) (h2.below hB2)).mono ?_
      rintro e w2 ⟨rfl, hB3⟩
      rw [HF.out]
      go_wp2_with fail
      go_ret
      exact ⟨rfl, hB2.on hB3⟩
    · have HF := Lib.hid hf
      obtain ⟨hn, hm⟩ := few13_outM h1 h2 hf
      clear hf
      obtain ⟨og, hog⟩ : ∃ og, makeL s w h holes = og := ⟨_, rfl⟩
      obtain ⟨x, hx⟩ : ∃ x : Grid, og.getD zeroGrid = x := ⟨_, rfl⟩
      obtain ⟨eM, heM⟩ : ∃ e : Int, (if og.isSome then 0 else 130) = e := ⟨_, rfl⟩
      obtain ⟨cl, hcl⟩ : ∃ c, (cellOut g pos).1 = c := ⟨_, rfl⟩
      obtain ⟨ok, hok⟩ : ∃ c, (cellOut g pos).2 = c := ⟨_, rfl⟩
      obtain ⟨eC, heC⟩ : ∃ e, checkErr g = e := ⟨_, rfl⟩
      have C1 : ∀ W, Ints W a0 n0 c0 holes → Calls Try.prog 38 #[.int .i64 s, .int .i64 w, .int .i64 h, .slice a0 n0 c0] W fun e w' => ∃ v, e = .returned (.tuple #[v, .int .i64 eM]) ∧ GridF w' W.heap.size v x ∧ Below W.heap.size W w' := fun W a => by
        have := gridsMake_any s w h a0 n0 c0 holes W a (by omega)
        unfold RetGridE at this
        rw [hog, heM, hx] at this
        exact this
      have C2 : ∀ W, Ints W a0 n0 c0 holes → Calls Try.prog 39 #[.int .i64 s, .int .i64 w, .int .i64 h, .slice a0 n0 c0] W fun e w' => ∃ v, e = .returned (.tuple #[v, .int .i64 eM]) ∧ GridF w' W.heap.size v x ∧ Below W.heap.size W w' := fun W a => by
        have := refMake_any s w h a0 n0 c0 holes W a
        unfold RetGridE at this
        rw [hog, heM, hx] at this
        exact this
      have C3 := fun w a b => gcell_any g ah ac nh ch nc cc pos w a b (by omega) (by omega)
      have C4 := fun w a b => refCell_any g ah ac nh ch nc cc pos w a b (by omega) (by omega)
      have C5 := fun w a b => gridsCheck_any g ah ac nh ch nc cc w a b (by omega) (by omega)
      have C6 := fun w a b => refCheck_any g ah ac nh ch nc cc w a b (by omega) (by omega)
      simp only [hcl, hok] at C3 C4
      simp only [heC] at C5 C6
      have H1 := Lib.hid C1
      have H2 := Lib.hid C2
      have H3 := Lib.hid C3
      have H4 := Lib.hid C4
      have H5 := Lib.hid C5
      have H6 := Lib.hid C6
      have tM : (eM == eM) = true := by simp
      have tC : (eC == eC) = true := by simp
      have tc : (cl == cl) = true := by simp
      have tk : (ok == ok) = true := by simp
      clear C1 C2 C3 C4 C5 C6 hog hx heM hcl hok heC
      have hal : Below W.heap.size W (W.alloc (.cells #[.int .i64 g.shape, .int .i64 g.w, .int .i64 g.h, .slice ah nh ch, .slice ac nc cc] 24)) := (Below.refl _ _).alloc (Nat.le_refl _) _
      have hbx := Box.new W #[.int .i64 g.shape, .int .i64 g.w, .int .i64 g.h, .slice ah nh ch, .slice ac nc cc] 24
      go_enter Try.func10, Try.ntmps10
      go_wp2_with fail
      refine (sane13_any _).mono ?_
      rintro e w1 ⟨rfl, hB1⟩
      have hx1 := hbx.below hB1
      have hB2 := hal.on hB1
      obtain ⟨d0, d1, d2, d3, d4⟩ := hx1.g5
      have hxl1 := hx1.lt
      clear hbx hal hB1
      go_wp2_with fail
      refine (few13_any g ah ac nh ch nc cc w1 (h1.below hB2) (h2.below hB2)).mono ?_
      rintro e w2 ⟨rfl, hB3⟩
      rw [HF.out]
      have hx2 := hx1.below hB3
      have hB4 := hB2.on hB3
      clear d0 d1 d2 d3 d4 hx1 hxl1 hB2 hB3
      go_wp2_with fail
      have h0 := h0.below hB4
      have h1 := h1.below hB4
      have h2 := h2.below hB4
      refine (H1.out _ h0).mono ?_
      rintro e w3 ⟨v3, rfl, ⟨a3, n3, c3, a4, n4, c4, rfl, I3, I4, _, _⟩, hA⟩
      replace hx2 := hx2.below hA
      replace hB4 := hB4.on hA
      replace h0 := h0.below hA
      replace h1 := h1.below hA
      replace h2 := h2.below hA
      clear hA
      go_wp2_with fail
      have hbx := Box.new w3 #[.int .i64 x.shape, .int .i64 x.w, .int .i64 x.h, .slice a3 n3 c3, .slice a4 n4 c4] 24
      have hA : Below w3.heap.size w3 (w3.alloc (.cells #[.int .i64 x.shape, .int .i64 x.w, .int .i64 x.h, .slice a3 n3 c3, .slice a4 n4 c4] 24)) := (Below.refl _ _).alloc (Nat.le_refl _) _
      refine (H2.out _ (h0.below hA)).mono ?_
      rintro e w4 ⟨v4, rfl, ⟨a5, n5, c5, a6, n6, c6, rfl, I5, I6, _, _⟩, hA2⟩
      replace hA := hA.on hA2
      replace hbx := hbx.below hA2
      replace hx2 := hx2.below hA
      replace hB4 := hB4.on hA
      replace h1 := h1.below hA
      replace h2 := h2.below hA
      replace I3 := I3.below hA
      replace I4 := I4.below hA
      have hw34 : w3.heap.size < w4.heap.size := hbx.lt
      clear hA hA2 h0
      obtain ⟨d0, d1, d2, d3, d4⟩ := hx2.g5
      have hxl2 := hx2.lt
      go_wp2_with fail
      have hby := Box.new w4 #[.int .i64 x.shape, .int .i64 x.w, .int .i64 x.h, .slice a5 n5 c5, .slice a6 n6 c6] 24
      have hA : Below w4.heap.size w4 (w4.alloc (.cells #[.int .i64 x.shape, .int .i64 x.w, .int .i64 x.h, .slice a5 n5 c5, .slice a6 n6 c6] 24)) := (Below.refl _ _).alloc (Nat.le_refl _) _
      refine (H3.out _ (h1.below hA) (h2.below hA)).mono ?_
      rintro e w5 ⟨rfl, hA2⟩
      replace hA := hA.on hA2
      replace hby := hby.below hA2
      replace hbx := hbx.below hA
      replace hx2 := hx2.below hA
      replace hB4 := hB4.on hA
      replace h1 := h1.below hA
      replace h2 := h2.below hA
      replace I3 := I3.below hA
      replace I4 := I4.below hA
      replace I5 := I5.below hA
      replace I6 := I6.below hA
      have hw45 : w4.heap.size < w5.heap.size := hby.lt
      clear hA hA2 d0 d1 d2 d3 d4 hxl2
      obtain ⟨d0, d1, d2, d3, d4⟩ := hx2.g5
      have hxl2 := hx2.lt
      go_wp2_with fail
      refine (H4.out _ h1 h2).mono ?_
      rintro e w6 ⟨rfl, hA⟩
      replace hby := hby.below hA
      replace hbx := hbx.below hA
      replace hx2 := hx2.below hA
      replace hB4 := hB4.on hA
      replace h1 := h1.below hA
      replace h2 := h2.below hA
      replace I3 := I3.below hA
      replace I4 := I4.below hA
      replace I5 := I5.below hA
      replace I6 := I6.below hA
      have hs56 := hA.size
      clear hA d0 d1 d2 d3 d4 hxl2
      obtain ⟨d0, d1, d2, d3, d4⟩ := hx2.g5
      obtain ⟨x0, x1, x2, x3, x4⟩ := hbx.g5
      obtain ⟨y0, y1, y2, y3, y4⟩ := hby.g5
      have hxl2 := hx2.lt
      have H7 : Hid (∀ w, Below w6.heap.size w6 w → Calls Try.prog 42 #[.agg #[.int .i64 x.shape, .int .i64 x.w, .int .i64 x.h, .slice a3 n3 c3, .slice a4 n4 c4], .agg #[.int .i64 x.shape, .int .i64 x.w, .int .i64 x.h, .slice a5 n5 c5, .slice a6 n6 c6]] w fun e w' => e = .returned (.bool true) ∧ Below w.heap.size w w') := Lib.hid fun w hb => sameGrid_any x a3 a4 n3 c3 n4 c4 a5 a6 n5 c5 n6 c6 w (I3.below hb) (I4.below hb) (I5.below hb) (I6.below hb)
      have H8 : Hid (∀ w, Below w6.heap.size w6 w → Calls Try.prog 43 #[.agg #[.int .i64 g.shape, .int .i64 g.w, .int .i64 g.h, .slice ah nh ch, .slice ac nc cc]] w fun e w' => e = .returned (.int .i64 eC) ∧ Below w.heap.size w w') := Lib.hid fun w hb => H5.out w (h1.below hb) (h2.below hb)
      have H9 : Hid (∀ w, Below w6.heap.size w6 w → Calls Try.prog 44 #[.agg #[.int .i64 g.shape, .int .i64 g.w, .int .i64 g.h, .slice ah nh ch, .slice ac nc cc]] w fun e w' => e = .returned (.int .i64 eC) ∧ Below w.heap.size w w') := Lib.hid fun w hb => H6.out w (h1.below hb) (h2.below hb)
      clear I3 I4 I5 I6 H1 H2 H3 H4 H5 H6
      go_wp2_with fail
      go_region_held3 (fun w' => w'.cell? ⟨W.heap.size, 0, none⟩ = some (.int .i64 g.shape) ∧ w'.cell? ⟨W.heap.size, 1, none⟩ = some (.int .i64 g.w) ∧ w'.cell? ⟨W.heap.size, 2, none⟩ = some (.int .i64 g.h) ∧ w'.cell? ⟨W.heap.size, 3, none⟩ = some (.slice ah nh ch) ∧ w'.cell? ⟨W.heap.size, 4, none⟩ = some (.slice ac nc cc) ∧
        w'.cell? ⟨w3.heap.size, 0, none⟩ = some (.int .i64 x.shape) ∧ w'.cell? ⟨w3.heap.size, 1, none⟩ = some (.int .i64 x.w) ∧ w'.cell? ⟨w3.heap.size, 2, none⟩ = some (.int .i64 x.h) ∧ w'.cell? ⟨w3.heap.size, 3, none⟩ = some (.slice a3 n3 c3) ∧ w'.cell? ⟨w3.heap.size, 4, none⟩ = some (.slice a4 n4 c4) ∧
        w'.cell? ⟨w4.heap.size, 0, none⟩ = some (.int .i64 x.shape) ∧ w'.cell? ⟨w4.heap.size, 1, none⟩ = some (.int .i64 x.w) ∧ w'.cell? ⟨w4.heap.size, 2, none⟩ = some (.int .i64 x.h) ∧ w'.cell? ⟨w4.heap.size, 3, none⟩ = some (.slice a5 n5 c5) ∧ w'.cell? ⟨w4.heap.size, 4, none⟩ = some (.slice a6 n6 c6) ∧ Below w6.heap.size w6 w')
        (first | exact ⟨d0, d1, d2, d3, d4, x0, x1, x2, x3, x4, y0, y1, y2, y3, y4, (Below.refl _ _).drew⟩ | exact g15_keep (by assumption) (by assumption))
        (first | (go_at_call 42; refine (H7.out _ (by first | exact (Below.refl _ _).drew | (go_split_ands; assumption))).mono ?_; rintro e w' ⟨rfl, hb⟩) | (go_at_call 43; refine (H8.out _ (by first | exact (Below.refl _ _).drew | (go_split_ands; assumption))).mono ?_; rintro e w' ⟨rfl, hb⟩) | (go_at_call 44; refine (H9.out _ (by first | exact (Below.refl _ _).drew | (go_split_ands; assumption))).mono ?_; rintro e w' ⟨rfl, hb⟩))
      go_wp2_with fail
      all_goals
        go_split_ands
        go_ret
        exact ⟨rfl, hB4.on (by assumption)⟩

section
variable {H : Type} {P : Program} {enc : TypeId × Value → H} {w : World} {base : Nat} {spare : Nat → Bool} {held : Bool}
theorem trodAll_more6 {t : TypeId} {ts : List TypeId} {vs : List Value} {ds : List (DataW H)} {ps : List MemPlace} (h : DataW.TrodAll enc P w base spare held (t :: ts) vs ds ps) :
    ∃ v vs' d ds' p ps', vs = v :: vs' ∧ ds = d :: ds' ∧ ps = p ++ ps' ∧ DataW.Trod enc P w base spare held t v d p ∧ DataW.TrodAll enc P w base spare held ts vs' ds' ps' := trodAll_cons h
theorem trodAll_six {t0 t1 t2 t3 t4 t5 : TypeId} {args : Array Value} {ds : List (DataW H)} {ps : List MemPlace} (h : DataW.TrodAll enc P w base spare held [t0, t1, t2, t3, t4, t5] args.toList ds ps) :
    ∃ v0 v1 v2 v3 v4 v5 d0 d1 d2 d3 d4 d5 p0 p1 p2 p3 p4 p5, args = #[v0, v1, v2, v3, v4, v5] ∧ ds = [d0, d1, d2, d3, d4, d5] ∧ ps = p0 ++ (p1 ++ (p2 ++ (p3 ++ (p4 ++ p5)))) ∧
      DataW.Trod enc P w base spare held t0 v0 d0 p0 ∧ DataW.Trod enc P w base spare held t1 v1 d1 p1 ∧ DataW.Trod enc P w base spare held t2 v2 d2 p2 ∧ DataW.Trod enc P w base spare held t3 v3 d3 p3 ∧ DataW.Trod enc P w base spare held t4 v4 d4 p4 ∧ DataW.Trod enc P w base spare held t5 v5 d5 p5 := by
  obtain ⟨l⟩ := args
  obtain ⟨v0, l0, d0, e0, p0, q0, hl, rfl, rfl, h0, h⟩ := trodAll_more6 h
  obtain ⟨v1, l1, d1, e1, p1, q1, rfl, rfl, rfl, h1, h⟩ := trodAll_more6 h
  obtain ⟨v2, l2, d2, e2, p2, q2, rfl, rfl, rfl, h2, h⟩ := trodAll_more6 h
  obtain ⟨v3, l3, d3, e3, p3, q3, rfl, rfl, rfl, h3, h⟩ := trodAll_more6 h
  obtain ⟨v4, l4, d4, e4, p4, q4, rfl, rfl, rfl, h4, h⟩ := trodAll_more6 h
  obtain ⟨v5, l5, d5, e5, p5, q5, rfl, rfl, rfl, h5, h⟩ := trodAll_more6 h
  obtain ⟨rfl, rfl, rfl⟩ := trodAll_nil h
  simp only at hl
  subst hl
  exact ⟨v0, v1, v2, v3, v4, v5, d0, d1, d2, d3, d4, d5, p0, p1, p2, p3, p4, p5, rfl, rfl, by simp, h0, h1, h2, h3, h4, h5⟩
end
set_option maxRecDepth 100000 in
set_option maxHeartbeats 2000000 in
theorem make13_lifted (os : Os) (started : os.Started) (H : Type) (enc : TypeId × Value → H) :
    ReturnsInHanded {} Try.checked os 10 .any (Rows.gridsMakeSpecSpec.pre6 enc Try.prog Try.f10 Rows.gridsMakeSpecRow.domain false) (Rows.gridsMakeSpecSpec.post enc Try.prog Try.f10 false true false false) := by
  refine returnsInHanded_of_change (C := Try.checked) row_own started (by kernel_rfl) Try.func10
    (ChangeSpec.witness6 (enc := enc) (C := Try.checked) false ⟨#[], #[.int .i64 0, .int .i64 0, .int .i64 0, .slice none 0 0, .agg #[.int .i64 0, .int .i64 0, .int .i64 0, .slice none 0 0, .slice none 0 0], .int .i64 0], []⟩ 8 (by kernel_rfl) (by kernel_rfl) (by kernel_rfl) (by kernel_rfl)) ?_
  intro W base args ds gs before hval0 hW _ _
  have hval : ∀ (j : Nat) t v, Try.f10.params[j]? = some t → args[j]? = some v → Value.okWide Try.prog W .any base t v := hval0
  have hW' := hW
  obtain ⟨p, q, hA0, hV, rfl, _, _⟩ := hW
  have hA : DataW.TrodAll enc Try.prog W 0 (fun _ => true) true Try.f10.params.toList args.toList ds p := hA0
  rw [Try.params10] at hA hval
  obtain ⟨v0, v1, v2, v3, v4, v5, d0, d1, d2, d3, d4, d5, p0, p1, p2, p3, p4, p5, rfl, rfl, rfl, h0, h1, h2, h3, h4, h5⟩ := trodAll_six hA
  obtain ⟨rfl, rfl⟩ := trodVars_none hV
  obtain ⟨s, rfl, rfl, rfl, _⟩ := open_int Try.underlying3 (hval 0 3 v0 rfl rfl) h0
  obtain ⟨w, rfl, rfl, rfl, _⟩ := open_int Try.underlying3 (hval 1 3 v1 rfl rfl) h1
  obtain ⟨h, rfl, rfl, rfl, _⟩ := open_int Try.underlying3 (hval 2 3 v2 rfl rfl) h2
  obtain ⟨la, ln, lc, l, rfl, hl, _⟩ := open_L (hval 3 22 v3 rfl rfl) h3
  obtain ⟨g, ah, nh, ch, ac, nc, cc, rfl, hh, hc⟩ := open_G (hval 4 24 v4 rfl rfl) h4
  obtain ⟨pos, rfl, rfl, rfl, _⟩ := open_int Try.underlying3 (hval 5 3 v5 rfl rfl) h5
  refine (law13Make_any s w h la ln lc l g pos ah ac nh ch nc cc W hl hh hc).mono fun e W' ⟨he, hb⟩ => ?_
  subst he
  exact ⟨_, rfl, law_post hW' rfl rfl (by kernel_rfl) rfl hb⟩
set_option maxHeartbeats 2000000 in
theorem make13_closed : joinedFacts Try.prog 10 Try.f10 Rows.gridsMakeSpecSpec Rows.gridsMakeSpecRow = true := by
  unfold joinedFacts
  refine bt (bt (bt (bt (bt (bt (bt (bt (bt (bt (bt (bt (bt (bt (bt (bt (bt (bt (bt (bt (bt (bt (bt (bt (bt (bt (bt (bt (bt (bt (bt ?a0 ?a1) ?a2) ?a3) ?a4) ?a5) ?a6) ?a7) ?a8) ?a9) ?a10) ?a11) ?a12) ?a13) ?a14) ?a15) ?a16) ?a17) ?a18) ?a19) ?a20) ?a21) ?a22) ?a23) ?a24) ?a25) ?a26) ?a27) ?a28) ?a29) ?a30) ?a31
  case a25 => exact prog_enter
  case a26 => exact prog_lifts
  case a27 => exact prog_make
  all_goals as_aux_lemma => kernel_rfl
theorem gridsMakeSpec_holds : Rows.GridsMakeSpecSaid :=
  OpenClaim.holds_of_wide 10 Try.f10 rfl rfl rfl rfl rfl rfl rfl ⟨rfl, rfl, rfl, rfl, rfl⟩ rfl rfl rfl rfl rfl (by kernel_rfl) Try.func10 make13_closed
    (of_decide_eq_true (by kernel_rfl)) (by unfold Func.isWrapper; rw [if_neg (of_decide_eq_false (by kernel_rfl))]; exact ⟨rfl, rfl⟩)
    (fun os started H enc _ => make13_lifted os started H enc)
#print axioms gridsMakeSpec_holds
end Go.Proofs.Ytjiacdihfbbfjaa

