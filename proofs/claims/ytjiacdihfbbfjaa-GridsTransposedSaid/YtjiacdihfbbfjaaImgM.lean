/- What moves.images ranges over: the plain model. No walk here. -/
import Derived.Test.YtjiacdihfbbfjaaPm
import Derived.Test.YtjiacdihfbbfjaaMaps
import Derived.Test.YtjiacdihfbbfjaaCorner
namespace Go.Proofs.Ytjiacdihfbbfjaa
open Go.RowKit

def subP (p c : Int × Int) : Int × Int := (p.1 - c.1, p.2 - c.2)
def fromL (g : Grid) : List (Int × Int) := g.cells.map (placeOf g)
/-- The entries of the map 'at', after k of them. -/
def atUpto (l : List (Int × Int)) (c : Int × Int) (k : Nat) : List ((Int × Int) × Int) := (List.range k).map fun (i : Nat) => (subP (l[i]?.getD (0, 0)) c, Int.ofNat i)
def atL (g : Grid) : List ((Int × Int) × Int) := atUpto (fromL g) (cornerL (fromL g)) g.cells.length
def toL (g : Grid) (k : Nat) : List (Int × Int) := (fromL g).map (linMap g.shape k)
def imgOf (m : List ((Int × Int) × Int)) (t : List (Int × Int)) : List Int := t.filterMap fun p => lookP m (subP p (cornerL t))
def imgL (g : Grid) (k : Nat) : List Int := imgOf (atL g) (toL g k)
def imagesUpto (g : Grid) (k : Nat) : List (List Int) := ((List.range k).map (imgL g)).filter fun l => l.length == g.cells.length
def imagesL (g : Grid) : List (List Int) := imagesUpto g (linMany g.shape)

def imgUpto (m : List ((Int × Int) × Int)) (t : List (Int × Int)) (c : Int × Int) (j : Nat) : List Int := (t.take j).filterMap fun p => lookP m (subP p c)
theorem imgUpto_succ (m : List ((Int × Int) × Int)) (t : List (Int × Int)) (c : Int × Int) (j : Nat) (h : j < t.length) : imgUpto m t c (j + 1) = imgUpto m t c j ++ (lookP m (subP (t[j]?.getD (0, 0)) c)).toList := by
  unfold imgUpto; rw [takeP_getD t j h, List.filterMap_append]
  cases h2 : lookP m (subP (t[j]?.getD (0, 0)) c) <;> simp [h2]
theorem imgUpto_end (m : List ((Int × Int) × Int)) (t : List (Int × Int)) (c : Int × Int) (h : cornerL t = c) : imgUpto m t c t.length = imgOf m t := by
  subst h; unfold imgUpto imgOf; rw [List.take_of_length_le (Nat.le_refl _)]
theorem imgUpto_le (m : List ((Int × Int) × Int)) (t : List (Int × Int)) (c : Int × Int) (j : Nat) : (imgUpto m t c j).length ≤ j :=
  Nat.le_trans (List.length_filterMap_le _ _) (by rw [List.length_take]; omega)
theorem imagesUpto_le (g : Grid) (k : Nat) : (imagesUpto g k).length ≤ k := Nat.le_trans (List.length_filter_le _ _) (by simp)
theorem toL_len (g : Grid) (k : Nat) : (toL g k).length = g.cells.length := by unfold toL fromL; simp
theorem toL_get (g : Grid) (k j : Nat) (h : j < (fromL g).length) : (toL g k)[j]?.getD (0, 0) = linMap g.shape k ((fromL g)[j]?.getD (0, 0)) := by unfold toL; simp [h]
theorem atUpto_succ (l : List (Int × Int)) (c : Int × Int) (k : Nat) : atUpto l c (k + 1) = atUpto l c k ++ [(subP (l[k]?.getD (0, 0)) c, (k : Int))] := by
  unfold atUpto; rw [List.range_succ]; simp
theorem imagesUpto_succ (g : Grid) (k : Nat) : imagesUpto g (k + 1) = imagesUpto g k ++ (if (imgL g k).length = g.cells.length then [imgL g k] else []) := by
  unfold imagesUpto; rw [List.range_succ]; simp
  split <;> simp_all
end Go.Proofs.Ytjiacdihfbbfjaa
