/- Positions, holes and cells. Plain Lean, no walk here. -/
import Derived.Test.YtjiacdihfbbfjaaFams
namespace Go.Proofs.Ytjiacdihfbbfjaa
open Go.RowKit

theorem cells_split {A q : Nat} {l : List Int} (hq : q < A) (hn : inL l q = false) : ∃ r, cellsUpto A l = cellsUpto q l ++ (q : Int) :: r := by
  induction A with
  | zero => omega
  | succ A ih =>
    rw [cellsUpto_succ]
    by_cases e : q = A
    · subst e
      rw [hn]
      exact ⟨[], rfl⟩
    · obtain ⟨r, hr⟩ := ih (by omega)
      rw [hr]
      cases inL l A
      · exact ⟨r ++ [(A : Int)], by simp⟩
      · exact ⟨r, rfl⟩
theorem mem_cellsUpto {A : Nat} {l : List Int} {x : Int} : x ∈ cellsUpto A l ↔ (0 ≤ x ∧ x < A) ∧ inL l x = false := by
  unfold cellsUpto
  rw [List.mem_filter, mem_ints]
  simp
def nextAt (A : Nat) (l : List Int) (p : Nat) : Nat := (cellsUpto (min (p - 1) A) l).length
theorem nextAt_zero (A : Nat) (l : List Int) : nextAt A l 0 = 0 := by unfold nextAt cellsUpto ints; simp
theorem nextAt_one (A : Nat) (l : List Int) : nextAt A l 1 = 0 := by unfold nextAt cellsUpto ints; simp
theorem nextAt_hole {A q : Nat} {l : List Int} (hq : q < A) (h : inL l q = true) : nextAt A l (q + 2) = nextAt A l (q + 1) := by
  unfold nextAt
  rw [show min (q + 2 - 1) A = q + 1 by omega, show min (q + 1 - 1) A = q by omega, cellsUpto_succ, h]
  rfl
theorem nextAt_cell {A q : Nat} {l : List Int} (hq : q < A) (h : inL l q = false) : nextAt A l (q + 2) = nextAt A l (q + 1) + 1 := by
  unfold nextAt
  rw [show min (q + 2 - 1) A = q + 1 by omega, show min (q + 1 - 1) A = q by omega, cellsUpto_succ, h]
  simp
theorem nextAt_end (A : Nat) (l : List Int) : nextAt A l (A + 2) = nextAt A l (A + 1) := by
  unfold nextAt
  rw [show min (A + 2 - 1) A = A by omega, show min (A + 1 - 1) A = A by omega]
theorem nextAt_last (A : Nat) (l : List Int) : nextAt A l (A + 2) = (cellsUpto A l).length := by
  unfold nextAt
  rw [show min (A + 2 - 1) A = A by omega]
theorem cell_hole {A q : Nat} {l : List Int} (h : inL l q = true) : inL (cellsUpto A l) q = false := by
  unfold inL
  rw [Bool.eq_false_iff]
  intro hc
  have := (mem_cellsUpto.1 (List.contains_iff_mem.1 hc)).2
  rw [h] at this; cases this
theorem cell_out {A : Nat} {l : List Int} {x : Int} (h : x < 0 ∨ (A : Int) ≤ x) : inL (cellsUpto A l) x = false := by
  unfold inL
  rw [Bool.eq_false_iff]
  intro hc
  have := (mem_cellsUpto.1 (List.contains_iff_mem.1 hc)).1
  omega
theorem cell_cell {A q : Nat} {l : List Int} (hq : q < A) (h : inL l q = false) : inL (cellsUpto A l) q = true ∧ idxL (cellsUpto A l) q = nextAt A l (q + 1) ∧ nextAt A l (q + 1) < (cellsUpto A l).length ∧ (cellsUpto A l)[nextAt A l (q + 1)]?.getD 0 = q := by
  obtain ⟨r, hr⟩ := cells_split hq h
  have hn : nextAt A l (q + 1) = (cellsUpto q l).length := by unfold nextAt; rw [show min (q + 1 - 1) A = q by omega]
  have hlt : nextAt A l (q + 1) < (cellsUpto A l).length := by rw [hr, hn]; simp
  have hget : (cellsUpto A l)[nextAt A l (q + 1)]?.getD 0 = q := by rw [hr, hn]; simp
  refine ⟨List.contains_iff_mem.2 (mem_cellsUpto.2 ⟨by omega, h⟩), idxL_hit hlt (fun hm => ?_) hget, hlt, hget⟩
  rw [hr, hn, List.take_left] at hm
  have := (mem_cellsUpto.1 hm).1
  omega
theorem made_cells {s w h : Int} {l : List Int} {g : Grid} (hg : makeL s w h l = some g) {A : Nat} (hA : w * h = A) : g.cells = cellsUpto A l := by
  unfold makeL at hg
  split at hg
  · injection hg with hg
    rw [← hg]
    simp only
    rw [hA]; rfl
  · cases hg
theorem made_len {s w h : Int} {l : List Int} {g : Grid} (hg : makeL s w h l = some g) {A : Nat} (hA : w * h = A) : g.cells.length + l.length = A := by
  have hv := (valid_make hg).1
  have hh : okHoles l A := by
    unfold makeL at hg
    split at hg
    · rename_i h1; have := h1.2.1; rwa [hA] at this
    · cases hg
  rw [made_cells hg hA]
  have h1 := holes_cells_len A l
  rw [holesUpto_eq hh] at h1
  omega
end Go.Proofs.Ytjiacdihfbbfjaa

