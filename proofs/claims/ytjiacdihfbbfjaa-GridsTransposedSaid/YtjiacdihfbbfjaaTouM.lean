/- Neighbors are a graph whose edges are the pairs of cells that touch each other in a side. Plain Lean, no walk here. -/
import Derived.Test.YtjiacdihfbbfjaaFamOk
namespace Go.Proofs.Ytjiacdihfbbfjaa
open Go.RowKit

theorem besS_neg (x y : Int) : besS (-x) (-y) = besS x y := by
  unfold besS; rw [Bool.eq_iff_iff]; simp only [Bool.or_eq_true, Bool.and_eq_true, beq_iff_eq]; omega
theorem besH_neg (x y : Int) : besH (-x) (-y) = besH x y := by
  unfold besH; rw [Bool.eq_iff_iff]; simp only [Bool.or_eq_true, Bool.and_eq_true, beq_iff_eq]; omega
theorem beside_symm (g : Grid) (a b : Nat) : besideB g a b = besideB g b a := by
  unfold besideB
  split
  · rw [← besS_neg]; congr 1 <;> omega
  · rw [← besH_neg]; congr 1 <;> omega
/-- A graph, as lists of neighbors. -/
structure GraphL (n : Nat) (ll : List (List Int)) : Prop where
  len : ll.length = n
  few : n ≤ 256
  ok : ∀ i, i < n → okL n (ll[i]?.getD [])
  self : ∀ i : Nat, i < n → (i : Int) ∉ ll[i]?.getD []
  back : ∀ i : Nat, i < n → ∀ c ∈ ll[i]?.getD [], inL (ll[c.toNat]?.getD []) i = true
theorem nb_graph {g : Grid} (hv : Valid g) : GraphL g.cells.length (nbL g) where
  len := nbL_len g
  few := hv.len
  ok := fun i hi => by rw [nbL_get g hi]; exact nbRow_ok _ _ _
  self := fun i hi h => by
    rw [nbL_get g hi] at h
    obtain ⟨q, _, e, hb⟩ := mem_nbRow.1 h
    obtain rfl : i = q := by omega
    rw [besides_irrefl] at hb; cases hb
  back := fun i hi c hc => by
    rw [nbL_get g hi] at hc
    obtain ⟨q, hq, rfl, hb⟩ := mem_nbRow.1 hc
    rw [Int.toNat_natCast, nbL_get g hq]
    exact List.contains_iff_mem.2 (mem_nbRow.2 ⟨i, hi, rfl, by rw [beside_symm]; exact hb⟩)
def cenX (g : Grid) (c : Nat) : Int := if g.shape = 2 then 2 * colL g c + rowL g c % 2 else colL g c
def absd (x u : Int) : Int := max (x - u) (u - x)
def touchB (g : Grid) (a b : Nat) : Bool := if g.shape = 1 then absd (cenX g a) (cenX g b) + absd (rowL g a) (rowL g b) == 1
  else (absd (cenX g a) (cenX g b) == 2 && absd (rowL g a) (rowL g b) == 0) || (absd (cenX g a) (cenX g b) == 1 && absd (rowL g a) (rowL g b) == 1)
theorem absd_iff {x u k : Int} (hk : 0 ≤ k) : absd x u = k ↔ (x - u = k ∨ x - u = -k) := by unfold absd; omega
theorem cen_axis {g : Grid} (hs : g.shape = 2) (a : Nat) : cenX g a = 2 * axisL g a + rowL g a := by
  unfold cenX axisL; rw [if_pos hs]; omega
theorem tou_hex (p y q v : Int) : ((absd (2 * p + y) (2 * q + v) = 2 ∧ absd y v = 0) ∨ (absd (2 * p + y) (2 * q + v) = 1 ∧ absd y v = 1)) ↔ besH (q - p) (v - y) = true := by
  rw [absd_iff (by omega), absd_iff (by omega), absd_iff (by omega), absd_iff (by omega)]
  obtain ⟨s, hs⟩ : ∃ s, q - p = s := ⟨_, rfl⟩
  obtain ⟨t, ht⟩ : ∃ t, v - y = t := ⟨_, rfl⟩
  have e1 : 2 * p + y - (2 * q + v) = -(2 * s + t) := by omega
  have e2 : y - v = -t := by omega
  rw [hs, ht, e1, e2]
  clear e1 e2 hs ht
  unfold besH
  simp only [Bool.or_eq_true, Bool.and_eq_true, beq_iff_eq]
  constructor
  · rintro (⟨h1, h2⟩ | ⟨h1, h2⟩)
    · have : t = 0 := by omega
      subst this
      omega
    · have : t = 1 ∨ t = -1 := by omega
      rcases this with rfl | rfl <;> omega
  · rintro (((((⟨h1, h2⟩ | ⟨h1, h2⟩) | ⟨h1, h2⟩) | ⟨h1, h2⟩) | ⟨h1, h2⟩) | ⟨h1, h2⟩) <;> subst h1 h2 <;> omega
theorem tou_sq (p y q v : Int) : absd p q + absd y v = 1 ↔ besS (q - p) (v - y) = true := by
  unfold besS absd
  simp only [Bool.or_eq_true, Bool.and_eq_true, beq_iff_eq]
  omega
theorem touch_beside {g : Grid} (hs : g.shape = 1 ∨ g.shape = 2) (a b : Nat) : touchB g a b = besideB g a b := by
  unfold touchB besideB
  rcases hs with hs | hs
  · simp only [if_pos hs]
    rw [Bool.eq_iff_iff, beq_iff_eq]
    unfold cenX
    rw [if_neg (by omega), if_neg (by omega)]
    exact tou_sq _ _ _ _
  · simp only [if_neg (show ¬ g.shape = 1 by omega)]
    rw [cen_axis hs, cen_axis hs, Bool.eq_iff_iff, Bool.or_eq_true, Bool.and_eq_true, Bool.and_eq_true, beq_iff_eq, beq_iff_eq, beq_iff_eq, beq_iff_eq]
    exact tou_hex _ _ _ _
theorem in_touch {g : Grid} (hv : Valid g) {a b : Nat} (hb : b < g.cells.length) : inL (nbRow g a g.cells.length) b = touchB g a b := by
  rw [touch_beside hv.dims.1, Bool.eq_iff_iff]
  unfold inL
  rw [List.contains_iff_mem, mem_nbRow]
  constructor
  · rintro ⟨q, _, e, h⟩
    obtain rfl : b = q := by omega
    exact h
  · intro h; exact ⟨b, hb, rfl, h⟩
end Go.Proofs.Ytjiacdihfbbfjaa
