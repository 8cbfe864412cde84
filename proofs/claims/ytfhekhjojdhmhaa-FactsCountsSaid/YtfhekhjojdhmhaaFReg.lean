/- A region that makes two rows of 1024 numbers, in whatever order: plain words. -/
import Derived.Test.YtfhekhjojdhmhaaFVal
import Derived.Test.YtfhekhjojdhmhaaFPnt
import Derived.Deep.RegionHeld3
namespace Go.Proofs.Ytfhekhjojdhmhaa
open Go.RowKit

theorem wp_post {P : Program} {c : Code} {Q : Exit → Act → World → Prop} {a : Act} {w : World} (R : Act → Act → World → Prop) (h : c.wp P (fun e a' w' => e = .normal ∧ R a a' w') a w) (hq : ∀ a' w', R a a' w' → Q .normal a' w') : c.wp P Q a w :=
  wp_mono h (by rintro e a' w' ⟨rfl, h⟩; exact hq _ _ h)
/-- Where the two rows lie, if they are made. -/
structure Two (wv W : World) (x y : Option Nat) : Prop where
  below : Below wv.heap.size wv W
  fst : ∀ b, x = some b → wv.heap.size ≤ b ∧ b < W.heap.size ∧ W.there b 0 1024
  snd : ∀ b, y = some b → wv.heap.size ≤ b ∧ b < W.heap.size ∧ W.there b 0 1024
  ne : ∀ b c, x = some b → y = some c → b ≠ c
theorem there_below {w w' : World} {b o n : Nat} (h : w.there b o n) (hb : Below w.heap.size w w') (hl : b < w.heap.size) : w'.there b o n := fun j hj => by
  obtain ⟨h1, h2⟩ := h j hj
  refine ⟨by rw [hb.cell (p := ⟨b, o + j, none⟩) hl]; exact h1, ?_⟩
  have := hb.block b hl
  unfold World.frozen? at h2 ⊢
  simp only at h2 ⊢
  rw [this]; exact h2
variable {wv W W' : World} {x y : Option Nat}
theorem Two.start (wv : World) : Two wv wv.drew none none := ⟨(Below.refl _ _).drew, fun b h => (by cases h), fun b h => (by cases h), fun b c h => (by cases h)⟩
theorem Two.call (h : Two wv W x y) (hb : Below W.heap.size W W') : Two wv W' x y :=
  ⟨h.below.on hb, fun b e => let ⟨h1, h2, h3⟩ := h.fst b e; ⟨h1, Nat.lt_of_lt_of_le h2 hb.size, there_below h3 hb h2⟩, fun b e => let ⟨h1, h2, h3⟩ := h.snd b e; ⟨h1, Nat.lt_of_lt_of_le h2 hb.size, there_below h3 hb h2⟩, h.ne⟩
theorem there_new (W : World) : (W.alloc (.cells Try.zeroCells70 70)).there W.heap.size 0 1024 := by
  have := (Box.new W Try.zeroCells70 70).there
  rw [zero70] at this; exact this
theorem Two.first (h : Two wv W none y) : Two wv (W.alloc (.cells Try.zeroCells70 70)) (some W.heap.size) y := by
  have hc := h.call (W' := W.alloc (.cells Try.zeroCells70 70)) ((Below.refl _ _).alloc (Nat.le_refl _) _)
  exact ⟨hc.below, fun b e => by cases e; exact ⟨h.below.size, by simp, there_new W⟩, hc.snd, fun b c e1 e2 => by cases e1; have := (h.snd c e2).2.1; omega⟩
theorem Two.second (h : Two wv W x none) : Two wv (W.alloc (.cells Try.zeroCells70 70)) x (some W.heap.size) := by
  have hc := h.call (W' := W.alloc (.cells Try.zeroCells70 70)) ((Below.refl _ _).alloc (Nat.le_refl _) _)
  exact ⟨hc.below, hc.fst, fun b e => by cases e; exact ⟨h.below.size, by simp, there_new W⟩, fun b c e1 e2 => by cases e2; have := (h.fst b e1).2.1; omega⟩
/-- Both rows are there. -/
structure Fin2 (wv W : World) (b c : Nat) (A B : List Value) : Prop where
  below : Below wv.heap.size wv W
  ra : W.rangeAt b 0 A
  rb : W.rangeAt c 0 B
  lb : wv.heap.size ≤ b ∧ b < W.heap.size
  lc : wv.heap.size ≤ c ∧ c < W.heap.size
theorem Two.fin {b c : Nat} (h : Two wv W (some b) (some c)) {A B : List Value} (hA : A.length = 1024) (hB : B.length = 1024) : Fin2 wv ((W.setCells b 0 A).setCells c 0 B) b c A B := by
  obtain ⟨b1, b2, b3⟩ := h.fst b rfl
  obtain ⟨c1, c2, c3⟩ := h.snd c rfl
  have hne := h.ne b c rfl rfl
  refine ⟨below_setCells c1 _ _ _ (below_setCells b1 _ _ _ h.below), World.rangeAt_setCells_apart (World.rangeAt_setCells_same _ _ _ _ (by rw [hA]; exact b3)) _ _ _ (.inl hne), World.rangeAt_setCells_same _ _ _ _ (by rw [hB]; exact World.there_setCells c3 _ _ _), ⟨b1, by rw [size_setCells, size_setCells]; exact b2⟩, ⟨c1, by rw [size_setCells, size_setCells]; exact c2⟩⟩
end Go.Proofs.Ytfhekhjojdhmhaa
