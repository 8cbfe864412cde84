/- A row of places of the call's own, under way. -/
import Derived.Test.YtjiacdihfbbfjaaPlc
import Derived.Test.YtjiacdihfbbfjaaCorner
namespace Go.Proofs.Ytjiacdihfbbfjaa
open Go.RowKit

/-- Block B is a row of n places, the first of which are l. -/
structure PRow (w : World) (B n : Nat) (l : List (Int × Int)) : Prop where
  le : l.length ≤ n
  has : ∃ cs, Box w B cs 98 ∧ cs.size = n * 2 ∧ ∀ i, i < l.length → cs[i * 2]? = some (.int .i64 (l[i]?.getD (0, 0)).1) ∧ cs[i * 2 + 1]? = some (.int .i64 (l[i]?.getD (0, 0)).2)

theorem PRow.lt {w : World} {B n : Nat} {l : List (Int × Int)} (h : PRow w B n l) : B < w.heap.size := let ⟨_, h, _⟩ := h.has; h.lt
theorem PRow.of_block {w w' : World} {B n : Nat} {l : List (Int × Int)} (h : PRow w B n l) (hb : w'.heap[B]? = w.heap[B]?) : PRow w' B n l :=
  ⟨h.le, let ⟨cs, h1, h2⟩ := h.has; ⟨cs, hb.trans h1, h2⟩⟩
theorem PRow.places {w : World} {B n : Nat} {l : List (Int × Int)} (h : PRow w B n l) (hl : l.length = n) (hm : n ≤ maxLen) : Places w (some ⟨B, 0, none⟩) n n l := by
  obtain ⟨cs, h1, h2, h3⟩ := h.has
  have key : ∀ b o, (some ⟨B, 0, none⟩ : Option Addr) = some ⟨b, o, none⟩ → B = b ∧ 0 = o := fun b o e => by simpa using e
  refine ⟨hl, Nat.le_refl _, hm, fun _ => ⟨B, 0, rfl, h1.lt⟩, fun b o e i hi => ?_, fun b o e i hi => ?_⟩
  · obtain ⟨rfl, rfl⟩ := key b o e
    rw [Nat.zero_add, h1.cell]; exact (h3 i (by omega)).1
  · obtain ⟨rfl, rfl⟩ := key b o e
    rw [Nat.zero_add, h1.cell]; exact (h3 i (by omega)).2
theorem PRow.made (w : World) (cs : Array Value) (n : Nat) (h : cs.size = n * 2) : PRow (w.alloc (.cells cs 98)) w.heap.size n [] := ⟨by simp, cs, Box.new w cs _, h, by simp⟩
/-- l[k] = (x, y), at the first free place. -/
theorem PRow.push {w : World} {B n k : Nat} {l : List (Int × Int)} (h : PRow w B n l) (hk : l.length = k) (hlt : k < n) (p : Int × Int) :
    PRow ((w.setCell ⟨B, k * 2, none⟩ (.int .i64 p.1)).setCell ⟨B, k * 2 + 1, none⟩ (.int .i64 p.2)) B n (l ++ [p]) := by
  obtain ⟨cs, h1, h2, h3⟩ := h.has
  refine ⟨by simp; omega, _, (h1.set _ _).set _ _, by simp [h2], fun i hi => ?_⟩
  simp only [List.length_append, List.length_cons, List.length_nil] at hi
  by_cases hik : i = k
  · subst hik
    have e : (l ++ [p])[i]?.getD (0, 0) = p := by rw [List.getElem?_append_right (by omega), hk]; simp
    rw [e]
    constructor
    · rw [Array.getElem?_setIfInBounds_ne (by omega), Array.getElem?_setIfInBounds_self_of_lt (by omega)]
    · rw [Array.getElem?_setIfInBounds_self_of_lt (by simp; omega)]
  · have e : (l ++ [p])[i]?.getD (0, 0) = l[i]?.getD (0, 0) := by rw [List.getElem?_append_left (by omega)]
    rw [e]
    have := h3 i (by omega)
    constructor
    · rw [Array.getElem?_setIfInBounds_ne (by omega), Array.getElem?_setIfInBounds_ne (by omega)]; exact this.1
    · rw [Array.getElem?_setIfInBounds_ne (by omega), Array.getElem?_setIfInBounds_ne (by omega)]; exact this.2
theorem PRow.free {w : World} {B n : Nat} {l : List (Int × Int)} (h : PRow w B n l) {k : Nat} (hk : k < n) :
    ∃ u v, w.cell? ⟨B, k * 2, none⟩ = some u ∧ w.cell? ⟨B, k * 2 + 1, none⟩ = some v ∧ w.frozen? ⟨B, k * 2, none⟩ = false ∧ w.frozen? ⟨B, k * 2 + 1, none⟩ = false := by
  obtain ⟨cs, h1, h2, _⟩ := h.has
  exact ⟨cs[k * 2]'(by omega), cs[k * 2 + 1]'(by omega), by rw [h1.cell, Array.getElem?_eq_getElem], by rw [h1.cell, Array.getElem?_eq_getElem], h1.frozen _, h1.frozen _⟩
theorem PRow.below {w w' : World} {B n : Nat} {l : List (Int × Int)} (h : PRow w B n l) (hb : Below w.heap.size w w') : PRow w' B n l := h.of_block (hb.block _ h.lt)
end Go.Proofs.Ytjiacdihfbbfjaa
