/- The pairs, one by one. Plain Lean, no walk here. -/
import Derived.Test.YtjiacdihfbbfjaaTouM
namespace Go.Proofs.Ytjiacdihfbbfjaa
open Go.RowKit

theorem pairs_split (g : Grid) (k : Nat) : ∀ n, k < n → ∃ r, pairsF g n = pairsF g k ++ (pairRow (nbRow g k g.cells.length) k ++ r)
  | 0, h => by omega
  | n + 1, h => by
    rw [pairsF_succ]
    by_cases e : k = n
    · subst e; exact ⟨[], by simp⟩
    · obtain ⟨r, hr⟩ := pairs_split g k n (by omega)
      rw [hr]
      exact ⟨r ++ pairRow (nbRow g n g.cells.length) n, by simp⟩
theorem pairRow_append (a b : List Int) (c : Nat) : pairRow (a ++ b) c = pairRow a c ++ pairRow b c := by unfold pairRow; rw [List.filter_append, List.map_append]
theorem pairs_at {g : Grid} {k n j : Nat} (hk : k < n) {b : Int} (hj : j < (nbRow g k g.cells.length).length) (hb : (nbRow g k g.cells.length)[j]?.getD 0 = b) (hkb : (k : Int) < b) :
    (pairsF g k).length + (pairRow ((nbRow g k g.cells.length).take j) k).length < (pairsF g n).length ∧ (pairsF g n)[(pairsF g k).length + (pairRow ((nbRow g k g.cells.length).take j) k).length]?.getD [] = [(k : Int), b] := by
  obtain ⟨r, hr⟩ := pairs_split g k n hk
  have e : nbRow g k g.cells.length = (nbRow g k g.cells.length).take j ++ b :: (nbRow g k g.cells.length).drop (j + 1) := by
    conv => lhs; rw [← List.take_append_drop j (nbRow g k g.cells.length)]
    rw [getD_drop _ _ hj, hb]
  have e2 : pairRow (nbRow g k g.cells.length) k = pairRow ((nbRow g k g.cells.length).take j) k ++ ([(k : Int), b] :: pairRow ((nbRow g k g.cells.length).drop (j + 1)) k) := by
    conv => lhs; rw [e]
    rw [pairRow_append]
    congr 1
    unfold pairRow
    rw [List.filter_cons, if_pos (by simpa using hkb)]
    rfl
  rw [hr, e2]
  constructor
  · simp only [List.length_append, List.length_cons]; omega
  · rw [List.getElem?_append_right (by omega), Nat.add_sub_cancel_left, List.append_assoc, List.getElem?_append_right (by omega), Nat.sub_self]
    rfl
theorem pairRow_succ {l : List Int} {j c : Nat} (hj : j < l.length) {b : Int} (hb : l[j]?.getD 0 = b) : (pairRow (l.take (j + 1)) c).length = (pairRow (l.take j) c).length + (if (c : Int) < b then 1 else 0) := by
  rw [pairRow_take l c hj, hb, List.length_append]
  split <;> rfl
theorem near_len (g : Grid) (c : Nat) : (nearRow g c).length = (nbRow g c g.cells.length).length + 1 := by unfold nearRow; rw [sortI_len, List.length_append]; rfl
theorem near_in (g : Grid) (c : Nat) : inL (nearRow g c) c = true := List.contains_iff_mem.2 (mem_nearRow.2 (.inr rfl))
theorem near_mem {g : Grid} {c : Nat} {b : Int} (h : b ∈ nearRow g c) (hne : b ≠ c) : inL (nbRow g c g.cells.length) b = true := List.contains_iff_mem.2 ((mem_nearRow.1 h).resolve_right hne)
theorem nearF_get (g : Grid) {c k : Nat} (h : c < k) : (nearF g k)[c]?.getD [] = nearRow g c := by unfold nearF; simp [h]
theorem cellsF_get {c k : Nat} (h : c < k) : (cellsF k)[c]?.getD [] = [(c : Int)] := by unfold cellsF; simp [h]
theorem ints_get {c k : Nat} (h : c < k) : (ints k)[c]?.getD 0 = c := by unfold ints; simp [h]
theorem nb_ne {g : Grid} {c k : Nat} {b : Int} (h : b ∈ nbRow g c k) : b ≠ c := by
  intro e
  obtain ⟨q, _, e2, hb⟩ := mem_nbRow.1 h
  obtain rfl : c = q := by omega
  rw [besides_irrefl] at hb; cases hb
end Go.Proofs.Ytjiacdihfbbfjaa
