/- The reference's list of moves, in plain Lean. No walk here. -/
import Derived.Test.YtjiacdihfbbfjaaRInto
import Derived.Test.YtjiacdihfbbfjaaRImg
namespace Go.Proofs.Ytjiacdihfbbfjaa
open Go.RowKit

theorem posL_cons (x : List Int) (r : List (List Int)) (p : List Int) : posL (x :: r) p = if lessL x p then posL r p + 1 else 0 := by
  unfold posL; rw [List.takeWhile_cons]; split <;> simp
theorem insL_less {x : List Int} {r : List (List Int)} {p : List Int} (h : lessL x p = true) : insL (x :: r) p = x :: insL r p := by
  have hp : posL (x :: r) p = posL r p + 1 := by rw [posL_cons, if_pos h]
  unfold insL
  have hf : foundL (x :: r) p = foundL r p := by unfold foundL; rw [hp]; simp
  rw [hf, hp]
  split
  · rfl
  · unfold insAt; simp
theorem insL_not {x : List Int} {r : List (List Int)} {p : List Int} (h : lessL x p = false) : insL (x :: r) p = if eqL x p then x :: r else p :: x :: r := by
  have hp : posL (x :: r) p = 0 := by rw [posL_cons, if_neg (by simp [h])]
  have hf : foundL (x :: r) p = eqL x p := by unfold foundL; rw [hp]; simp
  unfold insL
  rw [hf, hp]
  rfl
theorem into_true (p : List Int) : ∀ (r : List (List Int)) (acc : List (List Int)), (∀ x ∈ r, x ≠ p) → r.foldl (intoStep p) (acc, true) = (acc ++ r, true)
  | [], acc, _ => by simp
  | x :: r, acc, h => by
    have hx : eqL x p = false := by have := h x (by simp); simp [eqL, this]
    rw [List.foldl_cons]
    have : intoStep p (acc, true) x = (acc ++ [x], true) := by unfold intoStep; simp [hx]
    rw [this, into_true p r _ (fun y hy => h y (by simp [hy]))]
    simp
theorem into_false (p : List Int) : ∀ (r : List (List Int)) (acc : List (List Int)), incrLL r → (if (r.foldl (intoStep p) (acc, false)).2 then (r.foldl (intoStep p) (acc, false)).1 else (r.foldl (intoStep p) (acc, false)).1 ++ [p]) = acc ++ insL r p
  | [], acc, _ => by simp [insL, foundL, posL, insAt]
  | x :: r, acc, hs => by
    have hs' := List.pairwise_cons.1 hs
    rw [List.foldl_cons]
    cases hl : lessL x p
    · rw [insL_not hl]
      have hr : ∀ y ∈ r, y ≠ p := by
        rintro y hy rfl
        have := hs'.1 y hy; rw [hl] at this; cases this
      cases he : eqL x p
      · have : intoStep p (acc, false) x = (acc ++ [p] ++ [x], true) := by unfold intoStep; simp [hl, he]
        rw [this, into_true p r _ hr]; simp
      · have : intoStep p (acc, false) x = (acc ++ [p], true) := by unfold intoStep; simp [hl, he]
        rw [this, into_true p r _ hr]
        have hxp : x = p := by simpa [eqL] using he
        simp [hxp]
    · rw [insL_less hl]
      have he : eqL x p = false := by
        cases h : eqL x p
        · rfl
        · have hxp : x = p := by simpa [eqL] using h
          subst hxp; rw [lessL_irrefl] at hl; cases hl
      have : intoStep p (acc, false) x = (acc ++ [x], false) := by unfold intoStep; simp [hl, he]
      rw [this, into_false p r _ hs'.2]
      simp
theorem intoL_eq {ll : List (List Int)} (hs : incrLL ll) (p : List Int) : intoL ll p = insL ll p := by
  have := into_false p ll [] hs
  unfold intoL intoUpto
  rw [List.take_of_length_le (Nat.le_refl _)]
  simpa using this

def addImg (g : Grid) (k j : Nat) (out : List (List Int)) : List (List Int) := match refImg g k j with | some p => insL out p | none => out
def refRow (g : Grid) (k j : Nat) (out : List (List Int)) : List (List Int) := (List.range j).foldl (fun o i => addImg g k i o) out
def refUpto (g : Grid) (k : Nat) : List (List Int) := (List.range k).foldl (fun o i => refRow g i g.cells.length o) []
def refMovesL (g : Grid) : List (List Int) := refUpto g (linMany g.shape)
theorem refRow_succ (g : Grid) (k j : Nat) (out : List (List Int)) : refRow g k (j + 1) out = addImg g k j (refRow g k j out) := by unfold refRow; rw [List.range_succ, List.foldl_append]; rfl
theorem refUpto_succ (g : Grid) (k : Nat) : refUpto g (k + 1) = refRow g k g.cells.length (refUpto g k) := by unfold refUpto; rw [List.range_succ, List.foldl_append]; rfl
theorem addImg_incr {g : Grid} {k j : Nat} {out : List (List Int)} (h : incrLL out) : incrLL (addImg g k j out) := by
  unfold addImg; split
  · exact insL_incr h _
  · exact h
theorem addImg_len (g : Grid) (k j : Nat) (out : List (List Int)) : (addImg g k j out).length ≤ out.length + 1 := by
  unfold addImg; split
  · exact insL_len _ _
  · omega
theorem refRow_incr {g : Grid} {k : Nat} {out : List (List Int)} (h : incrLL out) : ∀ j, incrLL (refRow g k j out)
  | 0 => h
  | j + 1 => by rw [refRow_succ]; exact addImg_incr (refRow_incr h j)
theorem refRow_len (g : Grid) (k : Nat) (out : List (List Int)) : ∀ j, (refRow g k j out).length ≤ out.length + j
  | 0 => Nat.le_refl _
  | j + 1 => by rw [refRow_succ]; have := addImg_len g k j (refRow g k j out); have := refRow_len g k out j; omega
theorem refUpto_incr (g : Grid) : ∀ k, incrLL (refUpto g k)
  | 0 => List.Pairwise.nil
  | k + 1 => by rw [refUpto_succ]; exact refRow_incr (refUpto_incr g k) _
theorem refUpto_len (g : Grid) : ∀ k, (refUpto g k).length ≤ k * g.cells.length
  | 0 => by simp [refUpto]
  | k + 1 => by rw [refUpto_succ, Nat.succ_mul]; have := refRow_len g k (refUpto g k) g.cells.length; have := refUpto_len g k; omega
def refOut (g : Grid) : List (List Int) := if checkErr g = 0 then refMovesL g else []
end Go.Proofs.Ytjiacdihfbbfjaa
