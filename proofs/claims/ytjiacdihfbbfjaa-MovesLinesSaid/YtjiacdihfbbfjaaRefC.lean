/- Contracts of the reference functions Swap, Swaps. -/
import Derived.Test.YtjiacdihfbbfjaaRefB
import Derived.Maps.AppendAt
import Derived.WalkKit
import Derived.WalkSpells
import Derived.WalkLawsBesides
import Derived.Deep.LoopGhost
import Derived.Deep.QuietTactic
import Derived.BigQuiet
import Derived.StillTailTactics
import Derived.Lib.Hide
import Derived.Outline
import Derived.Lib.QuietBelow
namespace Go.Proofs.Ytjiacdihfbbfjaa
open Go.RowKit

theorem info_int : (Try.prog.info? 3).map (fun i => (i.zero, i.size, i.bytes)) = some (some (.int .i64 0), 1, 8) := by kernel_rfl
theorem info_ints : (Try.prog.info? 22).map (fun i => (i.zero, i.size, i.bytes)) = some (some (.slice none 0 0), 1, 24) := by kernel_rfl

def swapStep (a b : List Int) (i to : Int) (k : Nat) : Int := if b[k]?.getD 0 = i then a[k]?.getD 0 else if a[k]?.getD 0 = i then b[k]?.getD 0 else to
def swapAt (a b : List Int) (i : Int) : Nat → Int
  | 0 => i
  | k + 1 => swapStep a b i (swapAt a b i k) k
def swapL (n : Nat) (a b : List Int) : List Int := (List.range n).map fun i => swapAt a b (i : Nat) a.length
theorem swapL_snoc (n : Nat) (a b : List Int) : swapL (n + 1) a b = swapL n a b ++ [swapAt a b n a.length] := by
  unfold swapL; rw [List.range_succ]; simp
theorem swapL_len (n : Nat) (a b : List Int) : (swapL n a b).length = n := by unfold swapL; simp

set_option maxRecDepth 10000 in
set_option maxHeartbeats 1000000 in
theorem swap_any (n : Nat) (a0 a1 : Option Addr) (m c0 c1 : Nat) (x y : List Int) (w : World) (h0 : Ints w a0 m c0 x) (h1 : Ints w a1 m c1 y) (hn : n ≤ 100000) :
    Calls Try.prog 68 #[.int .i64 n, .slice a0 m c0, .slice a1 m c1] w (RetOwn w 3 (swapL n x y)) := by
  have hm0 := h0.mx
  have hm1 := h1.mx
  have hc0 := h0.cap
  have hc1 := h1.cap
  have hl0 := Lib.hid h0.len
  have hl1 := Lib.hid h1.len
  obtain ⟨i3, hi3, hz30, hz31, hz32⟩ := info_parts info_int
  unfold maxLen at hm0 hm1
  go_enter Try.func68, Try.ntmps68
  go_wp2_with fail
  go_loopw [7, 8, 9, 10] (fun v i _ _ wr => ∃ k : Nat, k ≤ n ∧ i = .int .i64 k ∧ OwnInts wr w.heap.size 3 v (swapL k x y) ∧ Below w.heap.size w wr) (fun _ i _ _ _ => n - (intOf i).toNat)
  case atStart => exact ⟨0, by omega, rfl, OwnInts.made0 w _ _ (Nat.le_refl _), (Below.refl _ _).alloc (Nat.le_refl _) _⟩
  case round =>
    obtain ⟨k, hk, rfl, hO, hB⟩ := hrel
    have hsz := hB.size
    by_cases hlt : k < n
    · go_wp2_with fail
      go_loopw [9, 10] (fun t i wr' => ∃ j : Nat, j ≤ m ∧ i = .int .i64 j ∧ t = .int .i64 (swapAt x y k j) ∧ wr' = wr) (fun _ i _ => m - (intOf i).toNat)
      case atStart => exact ⟨0, by omega, rfl, rfl, rfl⟩
      case round =>
        obtain ⟨j, hj, rfl, rfl, rfl⟩ := hrel
        by_cases hjm : j < m
        · obtain ⟨b0, o0, rfl, hb0⟩ := h0.at' (by omega)
          obtain ⟨b1, o1, rfl, hb1⟩ := h1.at' (by omega)
          have e0 := (hB.cell (p := ⟨b0, o0 + j, none⟩) hb0).trans (h0.cell _ _ rfl j hjm)
          have e1 := (hB.cell (p := ⟨b1, o1 + j, none⟩) hb1).trans (h1.cell _ _ rfl j hjm)
          by_cases hxi : x[j]?.getD 0 = k <;> by_cases hyi : y[j]?.getD 0 = k
          all_goals
            have Hx := Lib.hid hxi
            have Hy := Lib.hid hyi
            first
              | (have tx : (x[j]?.getD 0 == (k : Int)) = true := by simpa using hxi)
              | (have tx : (x[j]?.getD 0 == (k : Int)) = false := by simpa using hxi)
            first
              | (have ty : (y[j]?.getD 0 == (k : Int)) = true := by simpa using hyi)
              | (have ty : (y[j]?.getD 0 == (k : Int)) = false := by simpa using hyi)
            clear hxi hyi
            go_wp2_with fail
            go_roundw
            case rel => exact ⟨j + 1, by omega, by go_num, by rw [swapAt, swapStep]; simp [Hx.out, Hy.out], by trivial⟩
            case measure => simp [intOf]; omega
        · obtain rfl : j = m := by omega
          have hlen : (swapL k x y).length = k := swapL_len k x y
          have HL := Lib.hid hlen
          have hOr : wr.ownsRow w.heap.size 3 1 _ (swapL k x y).length ((swapL k x y).map (Value.int .i64)) := hO
          rw [hlen] at hOr
          clear hlen
          go_wp2_with (at_builtin; refine wpList_append_own2 _ rfl _ _ 22 rfl w.heap.size 3 i3 (.int .i64 0) 1 8 Try.underlying22 hi3 hz30 hz31 hz32 rfl (by decide) _ _ _ (hOr.alloc _) rfl ⟨_, 0, none⟩ 1 1 [.int .i64 (swapAt x y k j)] rfl rfl (cell_one_new _ _ _) (by simp [Value.oneCell']) (by unfold maxLen; omega) (by omega) (by first | omega | (simp; omega)) ?_; intro v' w1 hown' hgrow hfr)
          go_roundw
          case rel =>
            refine ⟨k + 1, by omega, by go_num, ?_, (hB.alloc hsz _).grown hgrow (by simp; omega) (fun q e => (hOr.lt q e).1)⟩
            rw [swapL_snoc, hl0.out]
            exact OwnInts.snoc (by rw [HL.out]; exact hown')
          case measure => simp [intOf]; omega
    · obtain rfl : k = n := by omega
      go_wp2_with fail
      go_ret
      exact ⟨_, rfl, hO, hB⟩
end Go.Proofs.Ytjiacdihfbbfjaa
