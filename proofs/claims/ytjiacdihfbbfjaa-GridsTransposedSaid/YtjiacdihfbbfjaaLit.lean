/- Literal slices in memory; the functions of the law of chapter 14 at literal grids. -/
import Derived.Test.YtjiacdihfbbfjaaRMov
import Derived.Test.YtjiacdihfbbfjaaSwX
import Derived.WalkKit
import Derived.WalkSpells
import Derived.WalkLawsBesides
import Derived.Deep.LoopGhost
import Derived.Deep.QuietTactic
import Derived.BigQuiet
import Derived.StillTailTactics
import Derived.Lib.Hide
import Derived.Outline
import Derived.Lib.QuietBelow
namespace Go.Proofs.Ytjiacdihfbbfjaa
open Go.RowKit

theorem ints_lit {w : World} {B : Nat} (l : List Int) {cs : Array Value} (h : Box w B cs 3) (hc : cs = (l.map (Value.int .i64)).toArray) (hl : l.length ≤ 1000000) : Ints w (some ⟨B, 0, none⟩) l.length l.length l := by
  refine ⟨rfl, Nat.le_refl _, by unfold maxLen; omega, fun _ => ⟨B, 0, rfl, h.lt⟩, fun b o e i hi => ?_⟩
  obtain ⟨rfl, rfl⟩ : B = b ∧ 0 = o := by simpa using e
  rw [Nat.zero_add, h.cell, hc]
  simp [hi]
theorem rows1 {w : World} {B : Nat} {a : Option Addr} {n c : Nat} {l : List Int} (h : Box w B #[.slice a n c] 22) (h1 : Ints w a n c l) : Rows w (some ⟨B, 0, none⟩) 1 1 [l] := by
  refine ⟨rfl, Nat.le_refl _, by simp [maxLen], fun _ => ⟨B, 0, rfl, h.lt⟩, fun b o e i hi => ?_⟩
  obtain ⟨rfl, rfl⟩ : B = b ∧ 0 = o := by simpa using e
  obtain rfl : i = 0 := by omega
  exact ⟨a, n, c, by rw [Nat.zero_add, h.cell]; rfl, by simpa using h1⟩
theorem rows2 {w : World} {B : Nat} {a a' : Option Addr} {n c n' c' : Nat} {l l' : List Int} (h : Box w B #[.slice a n c, .slice a' n' c'] 22) (h1 : Ints w a n c l) (h2 : Ints w a' n' c' l') : Rows w (some ⟨B, 0, none⟩) 2 2 [l, l'] := by
  refine ⟨rfl, Nat.le_refl _, by simp [maxLen], fun _ => ⟨B, 0, rfl, h.lt⟩, fun b o e i hi => ?_⟩
  obtain ⟨rfl, rfl⟩ : B = b ∧ 0 = o := by simpa using e
  obtain rfl | rfl : i = 0 ∨ i = 1 := by omega
  · exact ⟨a, n, c, by rw [Nat.zero_add, h.cell]; rfl, by simpa using h1⟩
  · exact ⟨a', n', c', by rw [Nat.zero_add, h.cell]; rfl, by simpa using h2⟩
theorem gridL_few (s w h : Int) (l : List Int) : (gridL s w h l).holes.length ≤ 256 ∧ (gridL s w h l).cells.length ≤ 256 := by
  unfold gridL
  cases hg : makeL s w h l with
  | none => simp [zeroGrid]
  | some g =>
    obtain ⟨hv, _⟩ := valid_make hg
    simp only [Option.getD_some]
    refine ⟨?_, hv.len⟩
    have := hv.few
    have := hv.area
    omega
theorem moves_lit {W : World} {v : Value} {g : Grid} {ll : List (List Int)} {err : Int} (hv : GridV W v g) (hf : g.holes.length ≤ 256 ∧ g.cells.length ≤ 100000) (hE : checkErr g = err) (hM : movesOut g = ll) : Calls Try.prog 22 #[v] W (RetRowsE W 22 ll err) := by
  obtain ⟨ah, nh, ch, ac, nc, cc, rfl, h1, h2⟩ := hv
  rw [← hE, ← hM]
  exact moves_any g ah ac nh ch nc cc W h1 h2 (by rw [← h1.len]; omega) (by rw [← h2.len]; omega)
theorem is_lit {W : World} {v : Value} {g : Grid} {a : Option Addr} {n c : Nat} {p : List Int} {b : Bool} {err : Int} (hv : GridV W v g) (hp : Ints W a n c p) (hf : g.holes.length ≤ 256 ∧ g.cells.length ≤ 100000) (hE : checkErr g = err) (hM : isOut g p = b) : Calls Try.prog 25 #[v, .slice a n c] W fun e w' => e = .returned (.tuple #[.bool b, .int .i64 err]) ∧ Below W.heap.size W w' := by
  obtain ⟨ah, nh, ch, ac, nc, cc, rfl, h1, h2⟩ := hv
  rw [← hE, ← hM]
  exact is_any g ah ac a nh ch nc cc n c p W h1 h2 hp (by rw [← h1.len]; omega) (by rw [← h2.len]; omega)
theorem swaps_lit {W : World} {n : Int} {a : Option Addr} {m c : Nat} {ll lo : List (List Int)} {err : Int} (h : Rows W a m c ll) (hm : m ≤ 1000) (hE : swapsErr n ll = err) (hM : swapsOut n ll = lo) : Calls Try.prog 28 #[.int .i64 n, .slice a m c] W (RetRowsE W 22 lo err) := by
  rw [← hE, ← hM]; exact swaps_any n a m c ll W h hm
end Go.Proofs.Ytjiacdihfbbfjaa

