/- Contract of moves.Is. -/
import Derived.Test.YtjiacdihfbbfjaaMov
import Derived.WalkKit
import Derived.WalkSpells
import Derived.WalkLawsBesides
import Derived.Deep.LoopGhost
import Derived.Deep.QuietTactic
import Derived.BigQuiet
import Derived.StillTailTactics
import Derived.Lib.Hide
import Derived.Outline
import Derived.Lib.QuietBelow
namespace Go.Proofs.Ytjiacdihfbbfjaa
open Go.RowKit

def isOut (g : Grid) (p : List Int) : Bool := hasL (movesOut g) p
theorem ret_bi {a b : Bool} {x y : Int} (h : a = b) (h2 : x = y) : Ending.returned (.tuple #[.bool a, .int .i64 x]) = .returned (.tuple #[.bool b, .int .i64 y]) := by rw [h, h2]
theorem foundL_has {ll : List (List Int)} (hs : incrLL ll) (p : List Int) : foundL ll p = hasL ll p := by
  cases hf : foundL ll p
  · symm
    unfold hasL
    rw [Bool.eq_false_iff]
    intro h
    have hm := List.contains_iff_mem.1 h
    obtain ⟨j, hj, e⟩ := List.mem_iff_getElem.1 hm
    rcases Nat.lt_or_ge j (posL ll p) with h1 | h1
    · have := pos_before h1
      rw [List.getElem?_eq_getElem hj] at this
      simp only [Option.getD_some, e, lessL_irrefl] at this
      cases this
    · have := incr_pos hs hf h1 hj
      rw [e, lessL_irrefl] at this
      cases this
  · unfold hasL; exact (List.contains_iff_mem.2 (foundL_mem hf)).symm
theorem movesL_incr (g : Grid) : incrLL (movesL g) := sortedL_incr _
theorem linMany_le (s : Int) : linMany s ≤ 12 := by unfold linMany; split <;> omega
theorem movesL_len (g : Grid) : (movesL g).length ≤ linMany g.shape := Nat.le_trans (sortedL_len _) (imagesUpto_le g _)

set_option maxRecDepth 20000 in
set_option maxHeartbeats 1000000 in
theorem is_any (g : Grid) (ah ac ap : Option Addr) (nh ch nc cc np cp : Nat) (p : List Int) (W : World) (h1 : Ints W ah nh ch g.holes) (h2 : Ints W ac nc cc g.cells) (h3 : Ints W ap np cp p) (hn : nh ≤ 10000000) (hm : nc ≤ 10000000000) :
    Calls Try.prog 25 #[.agg #[.int .i64 g.shape, .int .i64 g.w, .int .i64 g.h, .slice ah nh ch, .slice ac nc cc], .slice ap np cp] W fun e w' => e = .returned (.tuple #[.bool (isOut g p), .int .i64 (checkErr g)]) ∧ Below W.heap.size W w' := by
  have hal : Below W.heap.size W (W.alloc (.cells #[.int .i64 g.shape, .int .i64 g.w, .int .i64 g.h, .slice ah nh ch, .slice ac nc cc] 24)) := (Below.refl _ _).alloc (Nat.le_refl _) _
  have hc := moves_any g ah ac nh ch nc cc _ (h1.below hal) (h2.below hal) hn hm
  rcases checkErr_cases g with ⟨he, hv⟩ | ⟨he, _⟩
  · have hmo : movesOut g = movesL g := by unfold movesOut; rw [if_pos he]
    have HI := Lib.hid (show isOut g p = foundL (movesL g) p by unfold isOut; rw [hmo, foundL_has (movesL_incr g)])
    rw [he, hmo] at hc
    rw [he]
    have HC := Lib.hid hc
    have hinc := Lib.hid (movesL_incr g)
    have hlen : (movesL g).length ≤ 12 := Nat.le_trans (movesL_len g) (linMany_le _)
    clear hc he hmo
    go_enter Try.func25, Try.ntmps25
    go_wp2_with (go_at_call 22; refine HC.out.mono ?_; rintro e w1 ⟨v, rfl, hO, hB1⟩; obtain ⟨a, c, rfl, hR⟩ := hO.rows)
    refine (bsf_any _ _ _ _ _ _ _ p w1 hR (h3.below (hal.on hB1)) hinc.out (by omega)).mono ?_
    rintro e w2 ⟨rfl, q, rfl⟩
    go_wp2_with fail
    go_ret2
    exact ⟨ret_bi HI.out.symm rfl, below_drewN (hal.on hB1) _⟩
  · have hmo : movesOut g = [] := by unfold movesOut; rw [if_neg (by omega)]
    have HI := Lib.hid (show isOut g p = false by unfold isOut; rw [hmo]; rfl)
    rw [he, hmo] at hc
    rw [he]
    have HC := Lib.hid hc
    clear hc he hmo
    go_enter Try.func25, Try.ntmps25
    go_wp2_with (go_at_call 22; refine HC.out.mono ?_; rintro e w1 ⟨v, rfl, hO, hB1⟩)
    go_ret2
    exact ⟨ret_bi HI.out.symm rfl, hal.on hB1⟩
end Go.Proofs.Ytjiacdihfbbfjaa
