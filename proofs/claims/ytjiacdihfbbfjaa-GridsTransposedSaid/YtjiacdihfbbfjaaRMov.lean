/- Contracts of ref14.Moves, Is. -/
import Derived.Test.YtjiacdihfbbfjaaMovR
import Derived.Test.YtjiacdihfbbfjaaIs
import Derived.Test.YtjiacdihfbbfjaaRHas
import Derived.WalkKit
import Derived.WalkSpells
import Derived.WalkLawsBesides
import Derived.Deep.LoopGhost
import Derived.Deep.QuietTactic
import Derived.BigQuiet
import Derived.StillTailTactics
import Derived.Lib.Hide
import Derived.Outline
import Derived.Lib.QuietBelow
namespace Go.Proofs.Ytjiacdihfbbfjaa
open Go.RowKit

set_option maxRecDepth 20000 in
set_option maxHeartbeats 1000000 in
theorem refMoves_bad (g : Grid) (ah ac : Option Addr) (nh ch nc cc : Nat) (W : World) (h1 : Ints W ah nh ch g.holes) (h2 : Ints W ac nc cc g.cells) (hn : nh ≤ 10000000) (hm : nc ≤ 10000000000) (he : checkErr g = 130) :
    Calls Try.prog 23 #[.agg #[.int .i64 g.shape, .int .i64 g.w, .int .i64 g.h, .slice ah nh ch, .slice ac nc cc]] W (RetRowsE W 22 [] 130) := by
  have hal : Below W.heap.size W (W.alloc (.cells #[.int .i64 g.shape, .int .i64 g.w, .int .i64 g.h, .slice ah nh ch, .slice ac nc cc] 24)) := (Below.refl _ _).alloc (Nat.le_refl _) _
  have hc := refCheck_any g ah ac nh ch nc cc _ (h1.below hal) (h2.below hal) hn hm
  rw [he] at hc
  have HC := Lib.hid hc
  clear hc he
  go_enter Try.func23, Try.ntmps23
  go_wp2_with (go_at_call 44; refine HC.out.mono ?_; rintro e w1 ⟨rfl, hB1⟩)
  go_ret2
  exact ⟨_, rfl, OwnRows.nil _ _ _, hal.on hB1⟩

set_option maxRecDepth 20000 in
set_option maxHeartbeats 2000000 in
theorem refMoves_sq (g : Grid) (ah ac : Option Addr) (nh ch nc cc : Nat) (W : World) (h1 : Ints W ah nh ch g.holes) (h2 : Ints W ac nc cc g.cells) (hn : nh ≤ 10000000) (hm : nc ≤ 10000000000) (he : checkErr g = 0) (hv : Valid g) (hs : g.shape = 1) :
    Calls Try.prog 23 #[.agg #[.int .i64 g.shape, .int .i64 g.w, .int .i64 g.h, .slice ah nh ch, .slice ac nc cc]] W (RetRowsE W 22 (refMovesL g) 0) := by
  have hal : Below W.heap.size W (W.alloc (.cells #[.int .i64 g.shape, .int .i64 g.w, .int .i64 g.h, .slice ah nh ch, .slice ac nc cc] 24)) := (Below.refl _ _).alloc (Nat.le_refl _) _
  have hbx := Box.new W #[.int .i64 g.shape, .int .i64 g.w, .int .i64 g.h, .slice ah nh ch, .slice ac nc cc] 24
  have hc := refCheck_any g ah ac nh ch nc cc _ (h1.below hal) (h2.below hal) hn hm
  rw [he] at hc
  have HC := Lib.hid hc
  clear hc he
  have hss : (g.shape == 2) = false := by rw [hs]; rfl
  have hM : linMany g.shape = 8 := by unfold linMany; rw [hs]; rfl
  have HM := Lib.hid hM
  have HS := Lib.hid hs
  have hd := hv.dims
  have hlen := h2.len
  have hncl := hv.len
  have hpos := hv.pos
  rw [hlen] at hncl hpos
  have HL := Lib.hid hlen
  have hcb : ∀ x ∈ g.cells, 0 ≤ x ∧ x < 256 := fun x hx => by have := hv.mem hx; have := hv.area; omega
  clear hM hs hlen
  go_enter Try.func23, Try.ntmps23
  go_wp2_with (go_at_call 44; refine HC.out.mono ?_; rintro e w1 ⟨rfl, hB1⟩; have hx1 := hbx.below hB1; have hB2 := hal.on hB1; obtain ⟨d0, d1, d2, d3, d4⟩ := hx1.g5)
  have hs1 := hB2.size
  have hlt1 := hx1.lt
  clear d0 d1 d2 d3 d4 HC hB1 hal hbx
  go_loopw [6, 7] (fun v i wr => ∃ k : Nat, k ≤ 8 ∧ i = .int .i64 k ∧ OwnRows wr (W.heap.size + 1) 22 v (refUpto g k) ∧ Box wr W.heap.size #[.int .i64 g.shape, .int .i64 g.w, .int .i64 g.h, .slice ah nh ch, .slice ac nc cc] 24 ∧ Below W.heap.size W wr) (fun _ i _ => 8 - (intOf i).toNat)
  case atStart => exact ⟨0, by omega, rfl, OwnRows.made0 _ _ _ (by omega), hx1.alloc _, hB2.alloc hs1 _⟩
  case round =>
    clear hx1 hB2 hs1 hlt1
    obtain ⟨k, hk, rfl, hO, hx, hB⟩ := hrel
    by_cases hlt : k < 8
    · have tk : decide ((k : Int) < 8) = true := by simp; omega
      go_wp2_with fail
      go_loopw [6, 8] (fun v c wr => ∃ j : Nat, j ≤ nc ∧ c = .int .i64 j ∧ OwnRows wr (W.heap.size + 1) 22 v (refRow g k j (refUpto g k)) ∧ Box wr W.heap.size #[.int .i64 g.shape, .int .i64 g.w, .int .i64 g.h, .slice ah nh ch, .slice ac nc cc] 24 ∧ Below W.heap.size W wr) (fun _ c _ => nc - (intOf c).toNat)
      case atStart => exact ⟨0, by omega, rfl, hO, hx, hB⟩
      case round =>
        clear hO hx hB
        obtain ⟨j, hj, rfl, hO, hx, hB⟩ := hrel
        obtain ⟨d0, d1, d2, d3, d4⟩ := hx.g5
        have hsz := hB.size
        have hxl := hx.lt
        by_cases hjt : j < nc
        · have hkl : k < linMany g.shape := by rw [HM.out]; exact hlt
          have him := Lib.hid (image_any g ah ac nh ch nc cc k j wr (h2.below hB) hd.1 ⟨hd.2.1, hd.2.2.1⟩ ⟨hd.2.2.2.1, hd.2.2.2.2⟩ hcb hkl hjt hncl)
          go_wp2_with fail
          refine him.out.mono ?_
          rintro e w2 (⟨hno, rfl, hB2⟩ | ⟨l, v2, hso, rfl, hOi, hB2⟩)
          · have HN := Lib.hid (show refRow g k (j + 1) (refUpto g k) = refRow g k j (refUpto g k) by rw [refRow_succ]; unfold addImg; rw [hno])
            clear hno him
            go_wp2_with fail
            go_roundw
            case rel => exact ⟨j + 1, by omega, by go_num, by rw [HN.out]; exact hO.below hB2, hx.below hB2, hB.on hB2⟩
            case measure => simp [intOf]; omega
          · have hinc := refRow_incr (g := g) (refUpto_incr g k) (k := k) j
            have HN := Lib.hid (show refRow g k (j + 1) (refUpto g k) = intoL (refRow g k j (refUpto g k)) l by rw [refRow_succ, intoL_eq hinc]; unfold addImg; rw [hso])
            have hll : (refRow g k j (refUpto g k)).length ≤ 10000 := by
              have h1 := refRow_len g k (refUpto g k) j
              have h2 := refUpto_len g k
              rw [HL.out] at h2
              have h3 : k * nc ≤ 12 * 256 := Nat.mul_le_mul (by omega) (by omega)
              omega
            clear hso him hinc
            obtain ⟨ai, ci, rfl, hIi⟩ := hOi.ints
            obtain ⟨ar, cr, rfl, hR⟩ := (hO.below hB2).rows
            go_wp2_with fail
            refine (into_any _ _ _ _ _ _ _ _ w2 hR hIi (by omega)).mono ?_
            rintro e w3 ⟨v3, rfl, hO3, hB3⟩
            go_wp2_with fail
            go_roundw
            case rel => exact ⟨j + 1, by omega, by go_num, by rw [HN.out]; exact hO3.mono (by have := hB2.size; omega), (hx.below hB2).below hB3, (hB.on hB2).on hB3⟩
            case measure => simp [intOf]; omega
        · obtain rfl : nc = j := by omega
          go_wp2_with fail
          go_roundw
          case rel => exact ⟨k + 1, by omega, by go_num, by rw [refUpto_succ, HL.out]; exact hO, hx, hB⟩
          case measure => simp [intOf]; omega
    · obtain rfl : k = 8 := by omega
      go_wp2_with fail
      go_ret2
      refine ⟨_, rfl, ?_, hB⟩
      unfold refMovesL
      rw [HM.out]
      exact hO.mono (by omega)
set_option maxRecDepth 20000 in
set_option maxHeartbeats 2000000 in
theorem refMoves_hex (g : Grid) (ah ac : Option Addr) (nh ch nc cc : Nat) (W : World) (h1 : Ints W ah nh ch g.holes) (h2 : Ints W ac nc cc g.cells) (hn : nh ≤ 10000000) (hm : nc ≤ 10000000000) (he : checkErr g = 0) (hv : Valid g) (hs : g.shape = 2) :
    Calls Try.prog 23 #[.agg #[.int .i64 g.shape, .int .i64 g.w, .int .i64 g.h, .slice ah nh ch, .slice ac nc cc]] W (RetRowsE W 22 (refMovesL g) 0) := by
  have hal : Below W.heap.size W (W.alloc (.cells #[.int .i64 g.shape, .int .i64 g.w, .int .i64 g.h, .slice ah nh ch, .slice ac nc cc] 24)) := (Below.refl _ _).alloc (Nat.le_refl _) _
  have hbx := Box.new W #[.int .i64 g.shape, .int .i64 g.w, .int .i64 g.h, .slice ah nh ch, .slice ac nc cc] 24
  have hc := refCheck_any g ah ac nh ch nc cc _ (h1.below hal) (h2.below hal) hn hm
  rw [he] at hc
  have HC := Lib.hid hc
  clear hc he
  have hss : (g.shape == 2) = true := by rw [hs]; rfl
  have hM : linMany g.shape = 12 := by unfold linMany; rw [hs]; rfl
  have HM := Lib.hid hM
  have HS := Lib.hid hs
  have hd := hv.dims
  have hlen := h2.len
  have hncl := hv.len
  have hpos := hv.pos
  rw [hlen] at hncl hpos
  have HL := Lib.hid hlen
  have hcb : ∀ x ∈ g.cells, 0 ≤ x ∧ x < 256 := fun x hx => by have := hv.mem hx; have := hv.area; omega
  clear hM hs hlen
  go_enter Try.func23, Try.ntmps23
  go_wp2_with (go_at_call 44; refine HC.out.mono ?_; rintro e w1 ⟨rfl, hB1⟩; have hx1 := hbx.below hB1; have hB2 := hal.on hB1; obtain ⟨d0, d1, d2, d3, d4⟩ := hx1.g5)
  have hs1 := hB2.size
  have hlt1 := hx1.lt
  clear d0 d1 d2 d3 d4 HC hB1 hal hbx
  go_loopw [6, 7] (fun v i wr => ∃ k : Nat, k ≤ 12 ∧ i = .int .i64 k ∧ OwnRows wr (W.heap.size + 1) 22 v (refUpto g k) ∧ Box wr W.heap.size #[.int .i64 g.shape, .int .i64 g.w, .int .i64 g.h, .slice ah nh ch, .slice ac nc cc] 24 ∧ Below W.heap.size W wr) (fun _ i _ => 12 - (intOf i).toNat)
  case atStart => exact ⟨0, by omega, rfl, OwnRows.made0 _ _ _ (by omega), hx1.alloc _, hB2.alloc hs1 _⟩
  case round =>
    clear hx1 hB2 hs1 hlt1
    obtain ⟨k, hk, rfl, hO, hx, hB⟩ := hrel
    by_cases hlt : k < 12
    · have tk : decide ((k : Int) < 12) = true := by simp; omega
      go_wp2_with fail
      go_loopw [6, 8] (fun v c wr => ∃ j : Nat, j ≤ nc ∧ c = .int .i64 j ∧ OwnRows wr (W.heap.size + 1) 22 v (refRow g k j (refUpto g k)) ∧ Box wr W.heap.size #[.int .i64 g.shape, .int .i64 g.w, .int .i64 g.h, .slice ah nh ch, .slice ac nc cc] 24 ∧ Below W.heap.size W wr) (fun _ c _ => nc - (intOf c).toNat)
      case atStart => exact ⟨0, by omega, rfl, hO, hx, hB⟩
      case round =>
        clear hO hx hB
        obtain ⟨j, hj, rfl, hO, hx, hB⟩ := hrel
        obtain ⟨d0, d1, d2, d3, d4⟩ := hx.g5
        have hsz := hB.size
        have hxl := hx.lt
        by_cases hjt : j < nc
        · have hkl : k < linMany g.shape := by rw [HM.out]; exact hlt
          have him := Lib.hid (image_any g ah ac nh ch nc cc k j wr (h2.below hB) hd.1 ⟨hd.2.1, hd.2.2.1⟩ ⟨hd.2.2.2.1, hd.2.2.2.2⟩ hcb hkl hjt hncl)
          go_wp2_with fail
          refine him.out.mono ?_
          rintro e w2 (⟨hno, rfl, hB2⟩ | ⟨l, v2, hso, rfl, hOi, hB2⟩)
          · have HN := Lib.hid (show refRow g k (j + 1) (refUpto g k) = refRow g k j (refUpto g k) by rw [refRow_succ]; unfold addImg; rw [hno])
            clear hno him
            go_wp2_with fail
            go_roundw
            case rel => exact ⟨j + 1, by omega, by go_num, by rw [HN.out]; exact hO.below hB2, hx.below hB2, hB.on hB2⟩
            case measure => simp [intOf]; omega
          · have hinc := refRow_incr (g := g) (refUpto_incr g k) (k := k) j
            have HN := Lib.hid (show refRow g k (j + 1) (refUpto g k) = intoL (refRow g k j (refUpto g k)) l by rw [refRow_succ, intoL_eq hinc]; unfold addImg; rw [hso])
            have hll : (refRow g k j (refUpto g k)).length ≤ 10000 := by
              have h1 := refRow_len g k (refUpto g k) j
              have h2 := refUpto_len g k
              rw [HL.out] at h2
              have h3 : k * nc ≤ 12 * 256 := Nat.mul_le_mul (by omega) (by omega)
              omega
            clear hso him hinc
            obtain ⟨ai, ci, rfl, hIi⟩ := hOi.ints
            obtain ⟨ar, cr, rfl, hR⟩ := (hO.below hB2).rows
            go_wp2_with fail
            refine (into_any _ _ _ _ _ _ _ _ w2 hR hIi (by omega)).mono ?_
            rintro e w3 ⟨v3, rfl, hO3, hB3⟩
            go_wp2_with fail
            go_roundw
            case rel => exact ⟨j + 1, by omega, by go_num, by rw [HN.out]; exact hO3.mono (by have := hB2.size; omega), (hx.below hB2).below hB3, (hB.on hB2).on hB3⟩
            case measure => simp [intOf]; omega
        · obtain rfl : nc = j := by omega
          go_wp2_with fail
          go_roundw
          case rel => exact ⟨k + 1, by omega, by go_num, by rw [refUpto_succ, HL.out]; exact hO, hx, hB⟩
          case measure => simp [intOf]; omega
    · obtain rfl : k = 12 := by omega
      go_wp2_with fail
      go_ret2
      refine ⟨_, rfl, ?_, hB⟩
      unfold refMovesL
      rw [HM.out]
      exact hO.mono (by omega)
theorem refMoves_any (g : Grid) (ah ac : Option Addr) (nh ch nc cc : Nat) (W : World) (h1 : Ints W ah nh ch g.holes) (h2 : Ints W ac nc cc g.cells) (hn : nh ≤ 10000000) (hm : nc ≤ 10000000000) :
    Calls Try.prog 23 #[.agg #[.int .i64 g.shape, .int .i64 g.w, .int .i64 g.h, .slice ah nh ch, .slice ac nc cc]] W (RetRowsE W 22 (refOut g) (checkErr g)) := by
  unfold refOut
  rcases checkErr_cases g with ⟨he, hv⟩ | ⟨he, _⟩
  · rw [if_pos he, he]
    rcases hv.dims.1 with h | h
    · exact refMoves_sq g ah ac nh ch nc cc W h1 h2 hn hm he hv h
    · exact refMoves_hex g ah ac nh ch nc cc W h1 h2 hn hm he hv h
  · rw [if_neg (by omega), he]; exact refMoves_bad g ah ac nh ch nc cc W h1 h2 hn hm he

theorem refOut_len (g : Grid) : (refOut g).length ≤ 10000 := by
  unfold refOut
  split
  · rename_i he
    rcases checkErr_cases g with ⟨_, hv⟩ | ⟨h, _⟩
    · have h1 := refUpto_len g (linMany g.shape)
      have h2 := linMany_le g.shape
      have h3 : linMany g.shape * g.cells.length ≤ 12 * 256 := Nat.mul_le_mul h2 hv.len
      unfold refMovesL; omega
    · omega
  · simp
set_option maxRecDepth 20000 in
set_option maxHeartbeats 1000000 in
theorem refIs_any (g : Grid) (ah ac ap : Option Addr) (nh ch nc cc np cp : Nat) (p : List Int) (W : World) (h1 : Ints W ah nh ch g.holes) (h2 : Ints W ac nc cc g.cells) (h3 : Ints W ap np cp p) (hn : nh ≤ 10000000) (hm : nc ≤ 10000000000) :
    Calls Try.prog 26 #[.agg #[.int .i64 g.shape, .int .i64 g.w, .int .i64 g.h, .slice ah nh ch, .slice ac nc cc], .slice ap np cp] W fun e w' => e = .returned (.tuple #[.bool (hasL (refOut g) p), .int .i64 (checkErr g)]) ∧ Below W.heap.size W w' := by
  have hal : Below W.heap.size W (W.alloc (.cells #[.int .i64 g.shape, .int .i64 g.w, .int .i64 g.h, .slice ah nh ch, .slice ac nc cc] 24)) := (Below.refl _ _).alloc (Nat.le_refl _) _
  have hc := refMoves_any g ah ac nh ch nc cc _ (h1.below hal) (h2.below hal) hn hm
  rcases checkErr_cases g with ⟨he, hv⟩ | ⟨he, _⟩
  · rw [he] at hc
    rw [he]
    have HC := Lib.hid hc
    clear hc he
    go_enter Try.func26, Try.ntmps26
    go_wp2_with (go_at_call 23; refine HC.out.mono ?_; rintro e w1 ⟨v, rfl, hO, hB1⟩; obtain ⟨a, c, rfl, hR⟩ := hO.rows)
    refine (has_any _ _ _ _ _ _ _ p w1 hR (h3.below (hal.on hB1))).mono ?_
    rintro e w2 ⟨rfl, q, rfl⟩
    go_wp2_with fail
    go_ret2
    exact ⟨ret_bi rfl rfl, below_drewN (hal.on hB1) _⟩
  · have hmo : refOut g = [] := by unfold refOut; rw [if_neg (by omega)]
    have HI := Lib.hid (show hasL (refOut g) p = false by rw [hmo]; rfl)
    rw [he, hmo] at hc
    rw [he]
    have HC := Lib.hid hc
    clear hc he hmo
    go_enter Try.func26, Try.ntmps26
    go_wp2_with (go_at_call 23; refine HC.out.mono ?_; rintro e w1 ⟨v, rfl, hO, hB1⟩)
    go_ret2
    exact ⟨ret_bi HI.out.symm rfl, hal.on hB1⟩
end Go.Proofs.Ytjiacdihfbbfjaa
