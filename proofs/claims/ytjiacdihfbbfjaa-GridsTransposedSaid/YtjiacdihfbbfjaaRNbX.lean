/- Contracts of ref13.Beside and ref13.Neighbors. -/
import Derived.Deep.RegionHeld3
import Derived.Test.YtjiacdihfbbfjaaGCell
import Derived.Test.YtjiacdihfbbfjaaRInto
import Derived.WalkKit
import Derived.WalkSpells
import Derived.WalkLawsBesides
import Derived.Deep.LoopGhost
import Derived.Deep.QuietTactic
import Derived.BigQuiet
import Derived.StillTailTactics
import Derived.Lib.Hide
import Derived.Outline
import Derived.Lib.QuietBelow
import Derived.Test.YtjiacdihfbbfjaaRefD
namespace Go.Proofs.Ytjiacdihfbbfjaa
open Go.RowKit

def besS (dx dy : Int) : Bool := (dy == 0 && (dx == 1 || dx == -1)) || (dx == 0 && (dy == 1 || dy == -1))
def besH (dq dy : Int) : Bool := (dq == 1 && dy == 0) || (dq == -1 && dy == 0) || (dq == 0 && dy == 1) || (dq == 0 && dy == -1) || (dq == 1 && dy == -1) || (dq == -1 && dy == 1)
def besideB (g : Grid) (a b : Nat) : Bool := if g.shape = 1 then besS (colL g b - colL g a) (rowL g b - rowL g a) else besH (axisL g b - axisL g a) (rowL g b - rowL g a)
theorem four (x : Int) : x = 0 ∨ x = 1 ∨ x = -1 ∨ ((x == 0) = false ∧ (x == 1) = false ∧ (x == -1) = false) := by
  by_cases h0 : x = 0
  · exact .inl h0
  · by_cases h1 : x = 1
    · exact .inr (.inl h1)
    · by_cases h2 : x = -1
      · exact .inr (.inr (.inl h2))
      · exact .inr (.inr (.inr ⟨by rw [beq_eq_false_iff_ne]; exact h0, by rw [beq_eq_false_iff_ne]; exact h1, by rw [beq_eq_false_iff_ne]; exact h2⟩))
/-- The five cells of a grid stay as they are. -/
theorem g5_keep {w0 w w' : World} {B : Nat} {v0 v1 v2 v3 v4 : Value} (h : w.cell? ⟨B, 0, none⟩ = some v0 ∧ w.cell? ⟨B, 1, none⟩ = some v1 ∧ w.cell? ⟨B, 2, none⟩ = some v2 ∧ w.cell? ⟨B, 3, none⟩ = some v3 ∧ w.cell? ⟨B, 4, none⟩ = some v4 ∧ Below w0.heap.size w0 w) (hb : Below w.heap.size w w') :
    w'.cell? ⟨B, 0, none⟩ = some v0 ∧ w'.cell? ⟨B, 1, none⟩ = some v1 ∧ w'.cell? ⟨B, 2, none⟩ = some v2 ∧ w'.cell? ⟨B, 3, none⟩ = some v3 ∧ w'.cell? ⟨B, 4, none⟩ = some v4 ∧ Below w0.heap.size w0 w' := by
  obtain ⟨h0, h1, h2, h3, h4, h7⟩ := h
  have l1 := World.block_lt_of_cell? w _ h0
  exact ⟨(hb.cell (p := ⟨B, 0, none⟩) l1).trans h0, (hb.cell (p := ⟨B, 1, none⟩) l1).trans h1, (hb.cell (p := ⟨B, 2, none⟩) l1).trans h2, (hb.cell (p := ⟨B, 3, none⟩) l1).trans h3, (hb.cell (p := ⟨B, 4, none⟩) l1).trans h4, h7.on hb⟩
set_option maxRecDepth 40000 in
set_option maxHeartbeats 4000000 in
theorem beside_any (g : Grid) (ah ac : Option Addr) (nh ch nc cc a b : Nat) (W : World) (ha : CellOk g W ac nc cc a) (hb : CellOk g W ac nc cc b) (hs : g.shape = 1 ∨ g.shape = 2) :
    Calls Try.prog 77 #[.agg #[.int .i64 g.shape, .int .i64 g.w, .int .i64 g.h, .slice ah nh ch, .slice ac nc cc], .int .i64 a, .int .i64 b] W fun e w' => e = .returned (.bool (besideB g a b)) ∧ Below W.heap.size W w' := by
  have hal : Below W.heap.size W (W.alloc (.cells #[.int .i64 g.shape, .int .i64 g.w, .int .i64 g.h, .slice ah nh ch, .slice ac nc cc] 24)) := (Below.refl _ _).alloc (Nat.le_refl _) _
  have hbx := Box.new W #[.int .i64 g.shape, .int .i64 g.w, .int .i64 g.h, .slice ah nh ch, .slice ac nc cc] 24
  have hl := hbx.lt
  obtain ⟨d0, d1, d2, d3, d4⟩ := hbx.g5
  have ⟨⟨a1, a2⟩, a3, a4⟩ := ha.bd
  have ⟨⟨b1, b2⟩, b3, b4⟩ := hb.bd
  have hka := ha.below hal
  have hkb := hb.below hal
  obtain ⟨w1, hw1⟩ : ∃ w1, W.alloc (.cells #[.int .i64 g.shape, .int .i64 g.w, .int .i64 g.h, .slice ah nh ch, .slice ac nc cc] 24) = w1 := ⟨_, rfl⟩
  rw [hw1] at hal hbx hl d0 d1 d2 d3 d4 hka hkb
  have HW1 := Lib.hid hw1
  obtain ⟨xa, hxa⟩ : ∃ x, colL g a = x := ⟨_, rfl⟩
  obtain ⟨xb, hxb⟩ : ∃ x, colL g b = x := ⟨_, rfl⟩
  obtain ⟨ya, hya⟩ : ∃ x, rowL g a = x := ⟨_, rfl⟩
  obtain ⟨yb, hyb⟩ : ∃ x, rowL g b = x := ⟨_, rfl⟩
  obtain ⟨qa, hqa⟩ : ∃ x, axisL g a = x := ⟨_, rfl⟩
  obtain ⟨qb, hqb⟩ : ∃ x, axisL g b = x := ⟨_, rfl⟩
  have bqa : -200 ≤ qa ∧ qa ≤ 200 := by rw [← hqa]; unfold axisL; omega
  have bqb : -200 ≤ qb ∧ qb ≤ 200 := by rw [← hqb]; unfold axisL; omega
  have HB : Hid (besideB g a b = if g.shape = 1 then besS (xb - xa) (yb - ya) else besH (qb - qa) (yb - ya)) := Lib.hid (by unfold besideB; rw [hxa, hxb, hya, hyb, hqa, hqb])
  rw [hxa] at a1 a2
  rw [hxb] at b1 b2
  rw [hya] at a3 a4
  rw [hyb] at b3 b4
  have HCc : Hid (∀ (w : World) (k : Nat) (z : Int), ((k = a ∧ z = xa) ∨ (k = b ∧ z = xb)) → Below w1.heap.size w1 w → Calls Try.prog 101 #[.agg #[.int .i64 g.shape, .int .i64 g.w, .int .i64 g.h, .slice ah nh ch, .slice ac nc cc], .int .i64 k] w fun e w' => e = .returned (.int .i64 z) ∧ Below w.heap.size w w') := Lib.hid fun w k z hk hb' => by
    rcases hk with ⟨rfl, rfl⟩ | ⟨rfl, rfl⟩
    · rw [← hxa]; exact col_any g ah ac nh ch nc cc _ w (hka.below hb')
    · rw [← hxb]; exact col_any g ah ac nh ch nc cc _ w (hkb.below hb')
  have HCr : Hid (∀ (w : World) (k : Nat) (z : Int), ((k = a ∧ z = ya) ∨ (k = b ∧ z = yb)) → Below w1.heap.size w1 w → Calls Try.prog 102 #[.agg #[.int .i64 g.shape, .int .i64 g.w, .int .i64 g.h, .slice ah nh ch, .slice ac nc cc], .int .i64 k] w fun e w' => e = .returned (.int .i64 z) ∧ Below w.heap.size w w') := Lib.hid fun w k z hk hb' => by
    rcases hk with ⟨rfl, rfl⟩ | ⟨rfl, rfl⟩
    · rw [← hya]; exact row_any g ah ac nh ch nc cc _ w (hka.below hb')
    · rw [← hyb]; exact row_any g ah ac nh ch nc cc _ w (hkb.below hb')
  have HCa : Hid (∀ (w : World) (k : Nat) (z : Int), ((k = a ∧ z = qa) ∨ (k = b ∧ z = qb)) → Below w1.heap.size w1 w → Calls Try.prog 103 #[.agg #[.int .i64 g.shape, .int .i64 g.w, .int .i64 g.h, .slice ah nh ch, .slice ac nc cc], .int .i64 k] w fun e w' => e = .returned (.int .i64 z) ∧ Below w.heap.size w w') := Lib.hid fun w k z hk hb' => by
    rcases hk with ⟨rfl, rfl⟩ | ⟨rfl, rfl⟩
    · rw [← hqa]; exact axis_any g ah ac nh ch nc cc _ w (hka.below hb')
    · rw [← hqb]; exact axis_any g ah ac nh ch nc cc _ w (hkb.below hb')
  have HS := Lib.hid hs
  clear hw1 hxa hxb hya hyb hqa hqb hs ha hb hka hkb
  rcases HS.out with hs | hs
  · have ts : (g.shape == 1) = true := by rw [hs]; rfl
    have HB2 : Hid (besideB g a b = besS (xb - xa) (yb - ya)) := Lib.hid (by rw [HB.out, if_pos hs])
    clear hs
    go_enter Try.func77, Try.ntmps77
    go_wp2_with fail
    rw [HW1.out]
    go_region_held3 (fun w' => w'.cell? ⟨W.heap.size, 0, none⟩ = some (.int .i64 g.shape) ∧ w'.cell? ⟨W.heap.size, 1, none⟩ = some (.int .i64 g.w) ∧ w'.cell? ⟨W.heap.size, 2, none⟩ = some (.int .i64 g.h) ∧ w'.cell? ⟨W.heap.size, 3, none⟩ = some (.slice ah nh ch) ∧ w'.cell? ⟨W.heap.size, 4, none⟩ = some (.slice ac nc cc) ∧ Below (w1).heap.size (w1) w')
      (first | exact ⟨d0, d1, d2, d3, d4, (Below.refl _ _).drew⟩ | exact g5_keep (by assumption) (by assumption) | exact g5_keep (by assumption) (Below.refl _ _).drew)
      (first | (go_at_call 101; refine (HCc.out _ _ _ (by first | exact .inl ⟨rfl, rfl⟩ | exact .inr ⟨rfl, rfl⟩) (by first | (go_split_ands; assumption) | exact (Below.refl _ _).drew)).mono ?_; rintro e w' ⟨rfl, hb⟩))
    go_wp2_with fail
    go_region_held3 (fun w' => w'.cell? ⟨W.heap.size, 0, none⟩ = some (.int .i64 g.shape) ∧ w'.cell? ⟨W.heap.size, 1, none⟩ = some (.int .i64 g.w) ∧ w'.cell? ⟨W.heap.size, 2, none⟩ = some (.int .i64 g.h) ∧ w'.cell? ⟨W.heap.size, 3, none⟩ = some (.slice ah nh ch) ∧ w'.cell? ⟨W.heap.size, 4, none⟩ = some (.slice ac nc cc) ∧ Below (w1).heap.size (w1) w')
      (first | exact ⟨d0, d1, d2, d3, d4, (Below.refl _ _).drew⟩ | exact g5_keep (by assumption) (by assumption) | exact g5_keep (by assumption) (Below.refl _ _).drew)
      (first | (go_at_call 102; refine (HCr.out _ _ _ (by first | exact .inl ⟨rfl, rfl⟩ | exact .inr ⟨rfl, rfl⟩) (by first | (go_split_ands; assumption) | exact (Below.refl _ _).drew)).mono ?_; rintro e w' ⟨rfl, hb⟩))
    go_wp2_with fail
    all_goals
      go_split_ands
      go_ret
      exact ⟨ret_bool (by rw [HB2.out]; unfold besS; clear HB HCc HCr HCa hbx; simp [*]), hal.on (by assumption)⟩
  · have ts : (g.shape == 1) = false := by rw [hs]; rfl
    have HB2 : Hid (besideB g a b = besH (qb - qa) (yb - ya)) := Lib.hid (by rw [HB.out, if_neg (by rw [hs]; decide)])
    clear hs
    go_enter Try.func77, Try.ntmps77
    go_wp2_with fail
    rw [HW1.out]
    go_region_held3 (fun w' => w'.cell? ⟨W.heap.size, 0, none⟩ = some (.int .i64 g.shape) ∧ w'.cell? ⟨W.heap.size, 1, none⟩ = some (.int .i64 g.w) ∧ w'.cell? ⟨W.heap.size, 2, none⟩ = some (.int .i64 g.h) ∧ w'.cell? ⟨W.heap.size, 3, none⟩ = some (.slice ah nh ch) ∧ w'.cell? ⟨W.heap.size, 4, none⟩ = some (.slice ac nc cc) ∧ Below (w1).heap.size (w1) w')
      (first | exact ⟨d0, d1, d2, d3, d4, (Below.refl _ _).drew⟩ | exact g5_keep (by assumption) (by assumption) | exact g5_keep (by assumption) (Below.refl _ _).drew)
      (first | (go_at_call 101; refine (HCc.out _ _ _ (by first | exact .inl ⟨rfl, rfl⟩ | exact .inr ⟨rfl, rfl⟩) (by first | (go_split_ands; assumption) | exact (Below.refl _ _).drew)).mono ?_; rintro e w' ⟨rfl, hb⟩))
    go_wp2_with fail
    go_region_held3 (fun w' => w'.cell? ⟨W.heap.size, 0, none⟩ = some (.int .i64 g.shape) ∧ w'.cell? ⟨W.heap.size, 1, none⟩ = some (.int .i64 g.w) ∧ w'.cell? ⟨W.heap.size, 2, none⟩ = some (.int .i64 g.h) ∧ w'.cell? ⟨W.heap.size, 3, none⟩ = some (.slice ah nh ch) ∧ w'.cell? ⟨W.heap.size, 4, none⟩ = some (.slice ac nc cc) ∧ Below (w1).heap.size (w1) w')
      (first | exact ⟨d0, d1, d2, d3, d4, (Below.refl _ _).drew⟩ | exact g5_keep (by assumption) (by assumption) | exact g5_keep (by assumption) (Below.refl _ _).drew)
      (first | (go_at_call 102; refine (HCr.out _ _ _ (by first | exact .inl ⟨rfl, rfl⟩ | exact .inr ⟨rfl, rfl⟩) (by first | (go_split_ands; assumption) | exact (Below.refl _ _).drew)).mono ?_; rintro e w' ⟨rfl, hb⟩))
    go_wp2_with fail
    go_region_held3 (fun w' => w'.cell? ⟨W.heap.size, 0, none⟩ = some (.int .i64 g.shape) ∧ w'.cell? ⟨W.heap.size, 1, none⟩ = some (.int .i64 g.w) ∧ w'.cell? ⟨W.heap.size, 2, none⟩ = some (.int .i64 g.h) ∧ w'.cell? ⟨W.heap.size, 3, none⟩ = some (.slice ah nh ch) ∧ w'.cell? ⟨W.heap.size, 4, none⟩ = some (.slice ac nc cc) ∧ Below (w1).heap.size (w1) w')
      (first | exact ⟨d0, d1, d2, d3, d4, (Below.refl _ _).drew⟩ | exact g5_keep (by assumption) (by assumption) | exact g5_keep (by assumption) (Below.refl _ _).drew)
      (first | (go_at_call 103; refine (HCa.out _ _ _ (by first | exact .inl ⟨rfl, rfl⟩ | exact .inr ⟨rfl, rfl⟩) (by first | (go_split_ands; assumption) | exact (Below.refl _ _).drew)).mono ?_; rintro e w' ⟨rfl, hb⟩))
    go_wp2_with fail
    all_goals
      go_split_ands
      go_ret
      exact ⟨ret_bool (by rw [HB2.out]; unfold besH; clear HB HCc HCr HCa hbx; simp [*]), hal.on (by assumption)⟩
end Go.Proofs.Ytjiacdihfbbfjaa

/- Contract of ref13.Neighbors. -/
namespace Go.Proofs.Ytjiacdihfbbfjaa
open Go.RowKit

def nbRow (g : Grid) (a k : Nat) : List Int := ((List.range k).filter (besideB g a)).map Int.ofNat
theorem nbRow_succ (g : Grid) (a k : Nat) : nbRow g a (k + 1) = if besideB g a k then nbRow g a k ++ [(k : Int)] else nbRow g a k := by
  unfold nbRow; rw [List.range_succ, List.filter_append]
  cases h : besideB g a k <;> simp [h]
theorem nbRow_le (g : Grid) (a k : Nat) : (nbRow g a k).length ≤ k := by
  unfold nbRow; rw [List.length_map]; exact Nat.le_trans (List.length_filter_le _ _) (by simp)
def nbUpto (g : Grid) (k : Nat) : List (List Int) := (List.range k).map fun a => nbRow g a g.cells.length
theorem nbUpto_succ (g : Grid) (k : Nat) : nbUpto g (k + 1) = nbUpto g k ++ [nbRow g k g.cells.length] := by unfold nbUpto; rw [List.range_succ]; simp
theorem nbUpto_len (g : Grid) (k : Nat) : (nbUpto g k).length = k := by unfold nbUpto; simp
def nbL (g : Grid) : List (List Int) := nbUpto g g.cells.length
def nbOut (g : Grid) : List (List Int) := if checkErr g = 0 then nbL g else []
theorem ownsRow_len {w : World} {base : Nat} {e : TypeId} {size n m : Nat} {v : Value} {xs : List Value} (h : w.ownsRow base e size v n xs) (e2 : n = m) : w.ownsRow base e size v m xs := e2 ▸ h

set_option maxRecDepth 20000 in
set_option maxHeartbeats 2000000 in
theorem refNeighbors_any (g : Grid) (ah ac : Option Addr) (nh ch nc cc : Nat) (W : World) (h1 : Ints W ah nh ch g.holes) (h2 : Ints W ac nc cc g.cells) (hn : nh ≤ 10000000) (hm : nc ≤ 10000000000) :
    Calls Try.prog 46 #[.agg #[.int .i64 g.shape, .int .i64 g.w, .int .i64 g.h, .slice ah nh ch, .slice ac nc cc]] W (RetRowsE W 22 (nbOut g) (checkErr g)) := by
  have hal : Below W.heap.size W (W.alloc (.cells #[.int .i64 g.shape, .int .i64 g.w, .int .i64 g.h, .slice ah nh ch, .slice ac nc cc] 24)) := (Below.refl _ _).alloc (Nat.le_refl _) _
  have hbx := Box.new W #[.int .i64 g.shape, .int .i64 g.w, .int .i64 g.h, .slice ah nh ch, .slice ac nc cc] 24
  have hl := hbx.lt
  have hck := refCheck_any g ah ac nh ch nc cc _ (h1.below hal) (h2.below hal) hn hm
  rcases checkErr_cases g with ⟨he, hv⟩ | ⟨he, _⟩
  · have HO : Hid (nbOut g = nbL g) := Lib.hid (by unfold nbOut; rw [if_pos he])
    rw [he] at hck ⊢
    have HCK := Lib.hid hck
    have HV := Lib.hid hv
    have hnc : nc ≤ 256 := by rw [← h2.len]; exact hv.len
    have HN := Lib.hid h2.len
    clear hck he hv
    obtain ⟨i22, hi22, hz220, hz221, hz222⟩ := info_parts info_ints
    obtain ⟨i3, hi3, hz30, hz31, hz32⟩ := info_parts info_int
    go_enter Try.func46, Try.ntmps46
    go_wp2_with fail
    refine HCK.out.mono ?_
    rintro e w1 ⟨rfl, hB1⟩
    have hx1 := hbx.below hB1
    have hB2 := hal.on hB1
    have hl1 := hx1.lt
    clear hbx hal hB1
    go_wp2_with fail
    go_loopw [4, 5] (fun v c wr => ∃ a : Nat, a ≤ nc ∧ c = .int .i64 a ∧ OwnRows wr w1.heap.size 22 v (nbUpto g a) ∧ Below w1.heap.size w1 wr) (fun _ c _ => nc - (intOf c).toNat)
    case atStart => exact ⟨0, by omega, rfl, OwnRows.nil _ _ _, Below.refl _ _⟩
    case round =>
      obtain ⟨a, ha, rfl, hO, hBw⟩ := hrel
      have hB := hB2.on hBw
      obtain ⟨wo, rfl⟩ : ∃ wo, wo = wr := ⟨_, rfl⟩
      have hxo := hx1.below hBw
      have hlo := hxo.lt
      obtain ⟨d0, d1, d2, d3, d4⟩ := hxo.g5
      by_cases hlt : a < nc
      · go_wp2_with fail
        go_loopw [6, 7] (fun v c wr => ∃ b : Nat, b ≤ nc ∧ c = .int .i64 b ∧ OwnInts wr wo.heap.size 3 v (nbRow g a b) ∧ Below wo.heap.size wo wr) (fun _ c _ => nc - (intOf c).toNat)
        case atStart => exact ⟨0, by omega, rfl, OwnInts.nil _ _ _, Below.refl _ _⟩
        case round =>
          clear d0 d1 d2 d3 d4
          obtain ⟨b, hb, rfl, hR, hBi⟩ := hrel
          have hxi := hxo.below hBi
          have hli := hxi.lt
          obtain ⟨d0, d1, d2, d3, d4⟩ := hxi.g5
          have hsi := hBi.size
          by_cases hlt2 : b < nc
          · have hmem : ∀ x ∈ g.cells, 0 ≤ x ∧ x < 256 := fun x hx => by have := HV.out.mem hx; have := HV.out.area; omega
            have ha' : CellOk g wr ac nc cc a := ⟨h2.below (hB.on hBi), ⟨HV.out.dims.2.1, HV.out.dims.2.2.1⟩, hmem, hlt⟩
            have hb' : CellOk g wr ac nc cc b := ⟨h2.below (hB.on hBi), ⟨HV.out.dims.2.1, HV.out.dims.2.2.1⟩, hmem, hlt2⟩
            have hc := beside_any g ah ac nh ch nc cc a b wr ha' hb' HV.out.dims.1
            have HS := Lib.hid (nbRow_succ g a b)
            cases hbs : besideB g a b
            · rw [hbs] at hc
              have HC := Lib.hid hc
              have HB := Lib.hid hbs
              clear hc hbs hmem ha' hb'
              go_wp2_with fail
              refine HC.out.mono ?_
              rintro e w5 ⟨rfl, hB5⟩
              go_wp2_with fail
              go_roundw
              case rel => exact ⟨b + 1, by omega, by go_num, by rw [HS.out, HB.out]; exact hR.below hB5, hBi.on hB5⟩
              case measure => simp [intOf]; omega
            · rw [hbs] at hc
              have HC := Lib.hid hc
              have HB := Lib.hid hbs
              obtain ⟨L, hL⟩ : ∃ L, (nbRow g a b).length = L := ⟨_, rfl⟩
              have hLb := nbRow_le g a b
              rw [hL] at hLb
              have HL := Lib.hid hL
              clear hc hbs hmem ha' hb' hL
              go_wp2_with fail
              refine HC.out.mono ?_
              rintro e w5 ⟨rfl, hB5⟩
              have hR5 : w5.ownsRow wo.heap.size 3 1 _ (nbRow g a b).length ((nbRow g a b).map (Value.int .i64)) := hR.below hB5
              rw [HL.out] at hR5
              have hs5 := hB5.size
              go_wp2_with (at_builtin; refine wpList_append_own2 _ rfl _ _ 22 rfl wo.heap.size 3 i3 (.int .i64 0) 1 8 Try.underlying22 hi3 hz30 hz31 hz32 rfl (by decide) _ _ _ (hR5.alloc _) rfl ⟨_, 0, none⟩ 1 1 [.int .i64 (b : Int)] rfl rfl (cell_one_new _ _ _) (by simp [Value.oneCell']) (by unfold maxLen; omega) (by omega) (by first | omega | (simp; omega)) ?_; intro v' w1 hown' hgrow hfr)
              go_roundw
              case rel =>
                refine ⟨b + 1, by omega, by go_num, ?_, ((hBi.on hB5).alloc (by omega) _).grown hgrow (by simp; omega) (fun q e => (hR5.lt q e).1)⟩
                rw [HS.out, HB.out]
                exact OwnInts.snoc (by rw [HL.out]; exact hown')
              case measure => simp [intOf]; omega
          · obtain rfl : b = nc := by omega
            obtain ⟨us, hus, hE⟩ := hO
            have hus2 := ownsRow_below' hus hBi
            rw [nbUpto_len] at hus hus2
            obtain ⟨a1, c1, rfl, hI1⟩ := hR.ints
            obtain ⟨L, hL⟩ : ∃ L, (nbRow g a b).length = L := ⟨_, rfl⟩
            have hfr1 : 0 < (nbRow g a b).length → (Value.slice a1 (nbRow g a b).length c1).ownBlock ≠ _ := fun h => fresh_ne hR hus (Nat.le_refl _) h
            rw [hL] at hI1 hfr1 ⊢
            have HFR := Lib.hid hfr1
            clear hL hfr1
            have hsz := hBw.size
            have hlt0 := hus2.lt
            go_wp2_with (at_builtin; refine wpList_append_own2 _ rfl _ _ 28 rfl w1.heap.size 22 i22 (.slice none 0 0) 1 24 Try.underlying28 hi22 hz220 hz221 hz222 rfl (by decide) _ _ _ (hus2.alloc _) rfl ⟨_, 0, none⟩ 1 1 [(.slice a1 L c1)] rfl rfl (cell_one_new _ _ _) (by simp [Value.oneCell']) (by unfold maxLen; omega) (by omega) (by first | omega | (simp; omega)) ?_; intro v' w1 hown' hgrow hfr)
            go_roundw
            case rel =>
              refine ⟨a + 1, by omega, by go_num, ?_, ((hBw.on hBi).alloc (by omega) _).grown hgrow (by simp; omega) (fun q e => (hus2.lt q e).1)⟩
              rw [nbUpto_succ, HN.out]
              exact OwnRows.push (hE.mono fun _ _ hu => (hu.below hBi).below ((Below.refl _ _).alloc (Nat.le_refl _) _)) (by rw [nbUpto_len]; exact hown') hgrow hfr (hI1.below ((Below.refl _ _).alloc (Nat.le_refl _) _)) HFR.out
            case measure => simp [intOf]; omega
      · obtain rfl : a = nc := by omega
        go_wp2_with fail
        go_ret2
        refine ⟨_, rfl, ?_, hB⟩
        rw [HO.out]
        unfold nbL
        rw [HN.out]; exact hO.mono hB2.size
  · have HO : Hid (nbOut g = []) := Lib.hid (by unfold nbOut; rw [if_neg (by omega)])
    rw [he] at hck ⊢
    have HCK := Lib.hid hck
    clear hck he
    go_enter Try.func46, Try.ntmps46
    go_wp2_with fail
    refine HCK.out.mono ?_
    rintro e w1 ⟨rfl, hB1⟩
    go_wp2_with fail
    go_ret2
    exact ⟨_, rfl, by rw [HO.out]; exact OwnRows.nil _ _ _, hal.on hB1⟩
end Go.Proofs.Ytjiacdihfbbfjaa

