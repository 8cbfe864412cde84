/- Square grids without holes, up to 6 by 6: reckoned. -/
import Derived.Test.YtjiacdihfbbfjaaLit
namespace Go.Proofs.Ytjiacdihfbbfjaa
open Go.RowKit
def turnL (n : Nat) : List Int := (List.range n).map fun (i : Nat) => (n : Int) - 1 - i
def wantN (x y : Nat) : Nat := if x = 1 ∧ y = 1 then 1 else if x = 1 ∨ y = 1 then 2 else if x = y then 8 else 4
def fullB (x y : Nat) : Bool := decide (checkErr (gridL 1 x y []) = 0) && decide ((movesOut (gridL 1 x y [])).length = wantN x y) && isOut (gridL 1 x y []) (turnL (x * y))
theorem full_all : ((List.range 6).all fun x => (List.range 6).all fun y => fullB (x + 1) (y + 1)) = true := by kernel_rfl
theorem full_at {x y : Nat} (hx : 1 ≤ x ∧ x ≤ 6) (hy : 1 ≤ y ∧ y ≤ 6) : checkErr (gridL 1 x y []) = 0 ∧ (movesOut (gridL 1 x y [])).length = wantN x y ∧ isOut (gridL 1 x y []) (turnL (x * y)) = true := by
  have h := List.all_eq_true.1 (List.all_eq_true.1 full_all (x - 1) (List.mem_range.2 (by omega))) (y - 1) (List.mem_range.2 (by omega))
  rw [show x - 1 + 1 = x by omega, show y - 1 + 1 = y by omega] at h
  unfold fullB at h
  simp only [Bool.and_eq_true, decide_eq_true_eq] at h
  exact ⟨h.1.1, h.1.2, h.2⟩
end Go.Proofs.Ytjiacdihfbbfjaa
