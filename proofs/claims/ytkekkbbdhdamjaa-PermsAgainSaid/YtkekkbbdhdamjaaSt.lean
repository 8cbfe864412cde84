/- Plain words on slices of structs: each element is k cells. No program in sight. -/
import Derived.Test.YtkekkbbdhdamjaaBase
namespace Go.Proofs.Ytkekkbbdhdamjaa
open Go.RowKit

/-- The slice value with address a, length n and capacity c holds the structs l, each of k cells. -/
structure SL {α : Type} (enc : α → List Value) (k : Nat) (w : World) (a : Option Addr) (n c : Nat) (l : List α) : Prop where
  len : l.length = n
  cap : n ≤ c
  mx : c ≤ maxLen
  at' : 0 < n → ∃ b o, a = some ⟨b, o, none⟩ ∧ b < w.heap.size
  cell : ∀ b o, a = some ⟨b, o, none⟩ → ∀ i x, l[i]? = some x → ∀ j v, (enc x)[j]? = some v → w.cell? ⟨b, o + i * k + j, none⟩ = some v

section
variable {α : Type} {enc : α → List Value} {k : Nat} {w w' : World} {a : Option Addr} {n c : Nat} {l : List α}
theorem SL.lt (h : SL enc k w a n c l) {i : Nat} {x : α} (hx : l[i]? = some x) : i < n := by
  rw [← h.len]; exact (List.getElem?_eq_some_iff.1 hx).1
theorem SL.get (h : SL enc k w a n c l) {i : Nat} (hi : i < n) : ∃ x, l[i]? = some x := ⟨_, List.getElem?_eq_getElem (by rw [h.len]; exact hi)⟩
theorem SL.below (h : SL enc k w a n c l) (hb : Below w.heap.size w w') : SL enc k w' a n c l where
  len := h.len
  cap := h.cap
  mx := h.mx
  at' := fun hn => let ⟨b, o, e, hl⟩ := h.at' hn; ⟨b, o, e, Nat.lt_of_lt_of_le hl hb.size⟩
  cell := fun b o e i x hx j v hv => by
    obtain ⟨b', o', e', hl⟩ := h.at' (by have := h.lt hx; omega)
    rw [e] at e'
    obtain ⟨rfl, rfl⟩ : b = b' ∧ o = o' := by simpa using e'
    rw [hb.cell (p := ⟨b, o + i * k + j, none⟩) hl]
    exact h.cell b o e i x hx j v hv
theorem SL.drewN (h : SL enc k w a n c l) (q : Nat) : SL enc k (w.drewN q) a n c l := h.below (Below.drewN0 w q)
theorem SL.nil (enc : α → List Value) (k : Nat) (w : World) : SL enc k w none 0 0 [] := ⟨rfl, Nat.le_refl _, by simp [maxLen], fun h => absurd h (by omega), fun _ _ e => by cases e⟩
theorem SL.nil' (enc : α → List Value) (k : Nat) (w : World) (a : Option Addr) (c : Nat) (hc : c ≤ maxLen) : SL enc k w a 0 c [] := ⟨rfl, Nat.zero_le _, hc, fun h => absurd h (by omega), fun _ _ _ i x hx => by simp at hx⟩
theorem SL.grown {row : Option Nat} (h : SL enc k w a n c l) (hg : w.grownBy w' row) (hne : 0 < n → (Value.slice a n c).ownBlock ≠ row) : SL enc k w' a n c l where
  len := h.len
  cap := h.cap
  mx := h.mx
  at' := fun hn => let ⟨b, o, e, hl⟩ := h.at' hn; ⟨b, o, e, Nat.lt_of_lt_of_le hl hg.size⟩
  cell := fun b o e i x hx j v hv => by
    have hi := h.lt hx
    obtain ⟨b', o', e', hl⟩ := h.at' (by omega)
    rw [e] at e'
    obtain ⟨rfl, rfl⟩ : b = b' ∧ o = o' := by simpa using e'
    have hne' : some b ≠ row := by
      have := hne (by omega)
      subst e; simpa [Value.ownBlock] using this
    exact (World.cell?_of_block (w := w) (hg.block b hl hne')).trans (h.cell b o e i x hx j v hv)
theorem SL.setOther (h : SL enc k w a n c l) {p : Addr} (u : Value) (hne : 0 < n → (Value.slice a n c).ownBlock ≠ some p.block) : SL enc k (w.setCell p u) a n c l := h.grown (grownBy_setCell w p u) hne
/-- A part of a slice, cut by its ends. -/
theorem SL.part {b o : Nat} (h : SL enc k w (some ⟨b, o, none⟩) n c l) {i m d : Nat} (hm : i + m ≤ n) (hd : m ≤ d) (hdc : d ≤ c) : SL enc k w (some ⟨b, o + i * k, none⟩) m d ((l.drop i).take m) where
  len := by rw [List.length_take, List.length_drop, h.len]; omega
  cap := hd
  mx := Nat.le_trans hdc h.mx
  at' := fun hm' => by
    obtain ⟨b', o', e', hl⟩ := h.at' (by omega)
    obtain ⟨rfl, rfl⟩ : b = b' ∧ o = o' := by simpa using e'
    exact ⟨b, _, rfl, hl⟩
  cell := fun b' o' e i' x hx j v hv => by
    obtain ⟨rfl, rfl⟩ : b = b' ∧ o + i * k = o' := by simpa using e
    have hx2 : l[i + i']? = some x := by
      rw [List.getElem?_take] at hx
      split at hx
      · rw [List.getElem?_drop] at hx; exact hx
      · cases hx
    have := h.cell b o rfl (i + i') x hx2 j v hv
    rw [Nat.add_mul, ← Nat.add_assoc] at this
    exact this

/-! ### rows of the call's own -/
theorem flat_get (hk : ∀ x, (enc x).length = k) : ∀ (l : List α) (i : Nat) (x : α), l[i]? = some x → ∀ j, j < k → (l.flatMap enc)[i * k + j]? = (enc x)[j]?
  | [], i, x, h, j, hj => by simp at h
  | y :: l, 0, x, h, j, hj => by
    simp only [List.getElem?_cons_zero, Option.some.injEq] at h
    subst h
    rw [List.flatMap_cons, Nat.zero_mul, Nat.zero_add, List.getElem?_append_left (by rw [hk]; exact hj)]
  | y :: l, i + 1, x, h, j, hj => by
    rw [List.flatMap_cons, List.getElem?_append_right (by rw [hk, Nat.add_mul]; omega), hk]
    have := flat_get hk l i x (by simpa using h) j hj
    rw [show (i + 1) * k + j - k = i * k + j by rw [Nat.add_mul]; omega]
    exact this
theorem flat_len (hk : ∀ x, (enc x).length = k) (l : List α) : (l.flatMap enc).length = l.length * k := by
  induction l with
  | nil => simp
  | cons x l ih => rw [List.flatMap_cons, List.length_append, hk, ih, List.length_cons, Nat.add_mul]; omega
theorem flat_snoc (l : List α) (x : α) : (l ++ [x]).flatMap enc = l.flatMap enc ++ enc x := by simp
/-- The slice value v holds the structs l and its block is one of those from base on. -/
def OwnSL (enc : α → List Value) (k : Nat) (w : World) (base : Nat) (e : TypeId) (v : Value) (l : List α) : Prop := w.ownsRow base e k v l.length (l.flatMap enc)
variable {base base' : Nat} {e : TypeId} {v : Value}
theorem OwnSL.sl (h : OwnSL enc k w base e v l) (hk : ∀ x, (enc x).length = k) : ∃ a c, v = .slice a l.length c ∧ SL enc k w a l.length c l := by
  unfold OwnSL at h
  rcases h.2 with ⟨rfl, h0⟩ | ⟨g, cap, cur, rfl, _, hg, h1, h2, _⟩
  · have : l = [] := List.eq_nil_of_length_eq_zero h0
    subst this
    exact ⟨none, 0, rfl, SL.nil enc k w⟩
  · refine ⟨_, cap, rfl, rfl, h1, h2, fun _ => ⟨g, 0, rfl, (Array.getElem?_eq_some_iff.1 hg).1⟩, fun b o eq i x hx j v hv => ?_⟩
    obtain ⟨rfl, rfl⟩ : g = b ∧ 0 = o := by simpa using eq
    have hi := (List.getElem?_eq_some_iff.1 hx).1
    have hj : j < k := by rw [← hk x]; exact (List.getElem?_eq_some_iff.1 hv).1
    have hlt : i * k + j < l.length * k := by
      calc i * k + j < i * k + k := by omega
        _ = (i + 1) * k := by rw [Nat.add_mul, Nat.one_mul]
        _ ≤ l.length * k := Nat.mul_le_mul_right _ hi
    have := h.cellAt (i * k + j) hlt
    rw [Nat.zero_add, this, flat_get hk l i x hx j hj, hv]
theorem OwnSL.below (h : OwnSL enc k w base e v l) (hb : Below w.heap.size w w') : OwnSL enc k w' base e v l := ownsRow_below' h hb
theorem OwnSL.drewN (h : OwnSL enc k w base e v l) (q : Nat) : OwnSL enc k (w.drewN q) base e v l := h.below (Below.drewN0 w q)
theorem OwnSL.mono (h : OwnSL enc k w base e v l) (hb : base' ≤ base) : OwnSL enc k w base' e v l := ownsRow_mono' h hb
theorem OwnSL.made0 (enc : α → List Value) (k : Nat) (w : World) (e : TypeId) (base : Nat) (hb : base ≤ w.heap.size) : OwnSL enc k (w.alloc (.cells #[] e)) base e (.slice (some ⟨w.heap.size, 0, none⟩) 0 0) [] := World.ownsRow_made w #[] 0 hb (by simp [maxLen]) (by simp)
theorem OwnSL.nil (enc : α → List Value) (k : Nat) (w : World) (e : TypeId) (base : Nat) : OwnSL enc k w base e (.slice none 0 0) [] := World.ownsRow_nil w base e k
theorem OwnSL.grown {row : Option Nat} (h : OwnSL enc k w base e v l) (hg : w.grownBy w' row) (hne : v.ownBlock = none ∨ v.ownBlock ≠ row) : OwnSL enc k w' base e v l := World.ownsRow.kept h hg hne
theorem OwnSL.lt (h : OwnSL enc k w base e v l) : ∀ q, v.ownBlock = some q → base ≤ q ∧ q < w.heap.size := World.ownsRow.lt h
theorem OwnSL.snoc {x : α} (h : w.ownsRow base e k v (l.length + 1) (l.flatMap enc ++ enc x)) : OwnSL enc k w base e v (l ++ [x]) := by
  unfold OwnSL; rw [flat_snoc, List.length_append]; exact h
theorem OwnSL.setOther (h : OwnSL enc k w base e v l) {p : Addr} (u : Value) (hne : v.ownBlock ≠ some p.block) : OwnSL enc k (w.setCell p u) base e v l := ownsRow_setCell_other h hne u
/-- Result of a function that returns a slice of structs of its own and leaves all that was there. -/
def RetSL (enc : α → List Value) (k : Nat) (w : World) (E : TypeId) (l : List α) (e : Ending) (w' : World) : Prop := ∃ v, e = .returned v ∧ OwnSL enc k w' w.heap.size E v l ∧ Below w.heap.size w w'
end
end Go.Proofs.Ytkekkbbdhdamjaa
