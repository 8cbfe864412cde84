/- A permutation that exchanges two lists: what it does. Plain Lean, no walk here. -/
import Derived.Test.YtjiacdihfbbfjaaRefD
namespace Go.Proofs.Ytjiacdihfbbfjaa
open Go.RowKit

theorem swapAt_none {a b : List Int} {i : Int} : ∀ {k : Nat}, (∀ m, m < k → a[m]?.getD 0 ≠ i ∧ b[m]?.getD 0 ≠ i) → swapAt a b i k = i
  | 0, _ => rfl
  | k + 1, h => by
    obtain ⟨h1, h2⟩ := h k (by omega)
    show swapStep a b i (swapAt a b i k) k = i
    unfold swapStep
    rw [if_neg h2, if_neg h1]
    exact swapAt_none fun m hm => h m (by omega)
theorem swapAt_a {a b : List Int} {i : Int} {m : Nat} : ∀ {k : Nat}, m < k → a[m]?.getD 0 = i → (∀ j, j < k → b[j]?.getD 0 ≠ i) → (∀ j, j < k → a[j]?.getD 0 = i → j = m) → swapAt a b i k = b[m]?.getD 0
  | 0, h, _, _, _ => by omega
  | k + 1, h, e, hb, ha => by
    show swapStep a b i (swapAt a b i k) k = _
    unfold swapStep
    rw [if_neg (hb k (by omega))]
    by_cases hk : k = m
    · subst hk; rw [if_pos e]
    · rw [if_neg (fun h2 => hk (ha k (by omega) h2))]
      exact swapAt_a (by omega) e (fun j hj => hb j (by omega)) (fun j hj => ha j (by omega))
theorem swapAt_b {a b : List Int} {i : Int} {m : Nat} : ∀ {k : Nat}, m < k → b[m]?.getD 0 = i → (∀ j, j < k → a[j]?.getD 0 ≠ i) → (∀ j, j < k → b[j]?.getD 0 = i → j = m) → swapAt a b i k = a[m]?.getD 0
  | 0, h, _, _, _ => by omega
  | k + 1, h, e, ha, hb => by
    show swapStep a b i (swapAt a b i k) k = _
    unfold swapStep
    by_cases hk : k = m
    · subst hk; rw [if_pos e]
    · rw [if_neg (fun h2 => hk (hb k (by omega) h2)), if_neg (ha k (by omega))]
      exact swapAt_b (by omega) e (fun j hj => ha j (by omega)) (fun j hj => hb j (by omega))
theorem nodup_at {l : List Int} (h : l.Nodup) {i j : Nat} (hi : i < l.length) (hj : j < l.length) (e : l[i]?.getD 0 = l[j]?.getD 0) : i = j := by
  rw [List.getElem?_eq_getElem hi, List.getElem?_eq_getElem hj] at e
  simp only [Option.getD_some] at e
  have hp := List.pairwise_iff_getElem.1 h
  rcases Nat.lt_trichotomy i j with h3 | h3 | h3
  · exact absurd e (hp i j hi hj h3)
  · exact h3
  · exact absurd e.symm (hp j i hj hi h3)
theorem mem_at {l : List Int} {x : Int} (h : x ∈ l) : ∃ i, i < l.length ∧ l[i]?.getD 0 = x := by
  obtain ⟨i, hi, e⟩ := List.mem_iff_getElem.1 h
  exact ⟨i, hi, by rw [List.getElem?_eq_getElem hi]; exact e⟩
/-- Two lists that can be exchanged. -/
structure Pair (n : Nat) (a b : List Int) : Prop where
  len : a.length = b.length
  da : diffL a n = true
  db : diffL b n = true
  ap : apartL a b = true
theorem diffL_mem {l : List Int} {n : Int} (h : diffL l n = true) : (∀ x ∈ l, 0 ≤ x ∧ x < n) ∧ l.Nodup := by
  unfold diffL at h; simpa using h
theorem apartL_ne {a b : List Int} (h : apartL a b = true) {x : Int} (ha : x ∈ a) (hb : x ∈ b) : False := by
  unfold apartL at h; have := of_decide_eq_true h; exact this x ha hb
theorem Pair.atA {n : Nat} {a b : List Int} (h : Pair n a b) {m : Nat} (hm : m < a.length) : swapAt a b (a[m]?.getD 0) a.length = b[m]?.getD 0 := by
  refine swapAt_a hm rfl (fun j hj e => ?_) (fun j hj e => nodup_at (diffL_mem h.da).2 hj hm e)
  exact apartL_ne h.ap (getD_mem a m hm) (e ▸ getD_mem b j (by rw [← h.len]; exact hj))
theorem Pair.atB {n : Nat} {a b : List Int} (h : Pair n a b) {m : Nat} (hm : m < a.length) : swapAt a b (b[m]?.getD 0) a.length = a[m]?.getD 0 := by
  have hl := h.len
  refine swapAt_b hm rfl (fun j hj e => ?_) (fun j hj e => nodup_at (diffL_mem h.db).2 (by omega) (by omega) e)
  exact apartL_ne h.ap (getD_mem a j hj) (e ▸ getD_mem b m (by omega))
theorem Pair.out {n : Nat} {a b : List Int} (h : Pair n a b) {i : Int} (ha : i ∉ a) (hb : i ∉ b) : swapAt a b i a.length = i := by
  have hl := h.len
  exact swapAt_none fun m hm => ⟨fun e => ha (e ▸ getD_mem a m hm), fun e => hb (e ▸ getD_mem b m (by omega))⟩
/-- What the statement asks of one number. -/
theorem Pair.asked {n : Nat} {a b : List Int} (h : Pair n a b) {c : Nat} (hc : c < n) : ∃ t : Nat, t < n ∧ swapAt a b c a.length = t ∧ swapAt a b t a.length = c ∧ ((c : Int) ∉ a → (c : Int) ∉ b → t = c) := by
  have hl := h.len
  by_cases ha : (c : Int) ∈ a
  · obtain ⟨m, hm, e⟩ := mem_at ha
    have hb := (diffL_mem h.db).1 _ (getD_mem b m (by omega))
    refine ⟨(b[m]?.getD 0).toNat, by omega, ?_, ?_, fun h1 => absurd ha h1⟩
    · rw [← e, h.atA hm]; omega
    · rw [show (((b[m]?.getD 0).toNat : Nat) : Int) = b[m]?.getD 0 by omega, h.atB hm]; exact e
  · by_cases hb : (c : Int) ∈ b
    · obtain ⟨m, hm, e⟩ := mem_at hb
      have hb' := (diffL_mem h.da).1 _ (getD_mem a m (by omega))
      refine ⟨(a[m]?.getD 0).toNat, by omega, ?_, ?_, fun _ h1 => absurd hb h1⟩
      · rw [← e, h.atB (by omega)]; omega
      · rw [show (((a[m]?.getD 0).toNat : Nat) : Int) = a[m]?.getD 0 by omega, h.atA (by omega)]; exact e
    · exact ⟨c, hc, h.out ha hb, h.out ha hb, fun _ _ => rfl⟩
theorem swapL_get {n : Nat} {a b : List Int} {i : Nat} (hi : i < n) : (swapL n a b)[i]?.getD 0 = swapAt a b i a.length := by unfold swapL; simp [hi]
end Go.Proofs.Ytjiacdihfbbfjaa
