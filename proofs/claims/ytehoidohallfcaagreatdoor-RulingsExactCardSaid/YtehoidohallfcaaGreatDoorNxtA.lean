/- The memory of the search for places. -/
import Derived.Test.YtehoidohallfcaaGreatDoorAddA
import Derived.Test.YtehoidohallfcaaGreatDoorNxtM
import Derived.Test.YtehoidohallfcaaGreatDoorShelf
import Derived.WalkKit
import Derived.WalkSpells
import Derived.WalkLawsBesides
import Derived.Deep.LoopGhost
import Derived.Deep.QuietTactic
import Derived.BigQuiet
import Derived.StillTailTactics
import Derived.Lib.Hide
import Derived.Outline
import Derived.Lib.QuietBelow
namespace Go.Proofs.YtehoidohallfcaaGreatDoor
open Go.RowKit

/-! ### rows of lists, each in memory that is new -/
def ElemB (w : World) (base : Nat) (row : Option Nat) (u : Value) (l : List Int) : Prop := ∃ a n c, u = .slice a n c ∧ Ints w a n c l ∧ (0 < n → u.ownBlock ≠ row ∧ ∀ b, u.ownBlock = some b → base ≤ b)
inductive ElemsB (w : World) (base : Nat) (row : Option Nat) : List Value → List (List Int) → Prop
  | nil : ElemsB w base row [] []
  | cons {u l us ls} : ElemB w base row u l → ElemsB w base row us ls → ElemsB w base row (u :: us) (l :: ls)
theorem ElemsB.snoc {w : World} {base : Nat} {row : Option Nat} {us : List Value} {ls : List (List Int)} (h : ElemsB w base row us ls) {u : Value} {l : List Int} (hu : ElemB w base row u l) : ElemsB w base row (us ++ [u]) (ls ++ [l]) := by
  induction h with
  | nil => exact .cons hu .nil
  | cons h1 _ ih => exact .cons h1 ih
theorem ElemsB.mono {w w' : World} {base : Nat} {row row' : Option Nat} {us : List Value} {ls : List (List Int)} (h : ElemsB w base row us ls) (hf : ∀ u l, ElemB w base row u l → ElemB w' base row' u l) : ElemsB w' base row' us ls := by
  induction h with
  | nil => exact .nil
  | cons h1 _ ih => exact .cons (hf _ _ h1) ih
theorem ElemsB.elems {w : World} {base : Nat} {row : Option Nat} {us : List Value} {ls : List (List Int)} (h : ElemsB w base row us ls) : Elems w row us ls := by
  induction h with
  | nil => exact .nil
  | cons h1 _ ih =>
    obtain ⟨a, n, c, e, hI, ho⟩ := h1
    exact .cons ⟨a, n, c, e, hI, fun hn => (ho hn).1⟩ ih
def RowsB (w : World) (base : Nat) (e : TypeId) (v : Value) (ll : List (List Int)) : Prop := ∃ us, w.ownsRow base e 1 v ll.length us ∧ ElemsB w base v.ownBlock us ll
theorem RowsB.nil (w : World) (base : Nat) (e : TypeId) : RowsB w base e (.slice none 0 0) [] := ⟨[], World.ownsRow_nil w base e 1, .nil⟩
theorem RowsB.rows {w : World} {base : Nat} {e : TypeId} {v : Value} {ll : List (List Int)} (h : RowsB w base e v ll) : OwnRows w base e v ll := let ⟨us, h1, h2⟩ := h; ⟨us, h1, h2.elems⟩
theorem RowsB.lt {w : World} {base : Nat} {e : TypeId} {v : Value} {ll : List (List Int)} (h : RowsB w base e v ll) : ∀ k, v.ownBlock = some k → base ≤ k ∧ k < w.heap.size := let ⟨_, h1, _⟩ := h; h1.lt
theorem ElemB.below {w w' : World} {base : Nat} {row : Option Nat} {u : Value} {l : List Int} (h : ElemB w base row u l) (hb : Below w.heap.size w w') : ElemB w' base row u l :=
  let ⟨a, n, c, e, hI, ho⟩ := h; ⟨a, n, c, e, hI.below hb, ho⟩
theorem RowsB.below {w w' : World} {base : Nat} {e : TypeId} {v : Value} {ll : List (List Int)} (h : RowsB w base e v ll) (hb : Below w.heap.size w w') : RowsB w' base e v ll :=
  let ⟨us, h1, h2⟩ := h; ⟨us, ownsRow_below' h1 hb, h2.mono fun _ _ hu => hu.below hb⟩
theorem RowsB.set {w : World} {base : Nat} {e : TypeId} {v : Value} {ll : List (List Int)} (h : RowsB w base e v ll) {p : Addr} (hp : p.block < base) (u : Value) : RowsB (w.setCell p u) base e v ll := by
  have hlt := h.lt
  obtain ⟨us, h1, h2⟩ := h
  refine ⟨us, ownsRow_setCell_other h1 (fun e => by have := (hlt _ e).1; omega) u, h2.mono fun x l ⟨a, n, c, e, hI, ho⟩ => ⟨a, n, c, e, hI.setOther u (fun hn e2 => ?_), ho⟩⟩
  subst e
  have := (ho hn).2 _ e2
  omega
theorem RowsB.push {w w' : World} {base : Nat} {e : TypeId} {v v' : Value} {ll : List (List Int)} {us : List Value} {l : List Int} {a : Option Addr} {n c : Nat}
    (hE : ElemsB w base v.ownBlock us ll) (hown' : w'.ownsRow base e 1 v' (ll.length + 1) (us ++ [.slice a n c])) (hg : w.grownBy w' v.ownBlock)
    (hfresh : v'.ownBlock = v.ownBlock ∨ v'.ownBlock = some w.heap.size)
    (hI : Ints w a n c l) (hne : 0 < n → (Value.slice a n c).ownBlock ≠ v.ownBlock ∧ ∀ b, (Value.slice a n c).ownBlock = some b → base ≤ b) :
    RowsB w' base e v' (ll ++ [l]) := by
  have key : ∀ a n c l, Ints w a n c l → (0 < n → (Value.slice a n c).ownBlock ≠ v.ownBlock ∧ ∀ b, (Value.slice a n c).ownBlock = some b → base ≤ b) → ElemB w' base v'.ownBlock (.slice a n c) l := by
    intro a n c l hI hne
    refine ⟨a, n, c, rfl, hI.grown hg (fun h => (hne h).1), fun hn => ⟨?_, (hne hn).2⟩⟩
    obtain ⟨b, o, rfl, hl⟩ := hI.at' hn
    rcases hfresh with h | h
    · rw [h]; exact (hne hn).1
    · intro hh
      rw [h] at hh
      simp [Value.ownBlock] at hh
      omega
  exact ⟨us ++ [.slice a n c], by simpa using hown', ElemsB.snoc (hE.mono fun u l' ⟨a', n', c', e1, h1, h2⟩ => by subst e1; exact key _ _ _ _ h1 h2) (key _ _ _ _ hI hne)⟩
theorem clone_any (b o n c : Nat) (l : List Int) (w : World) (h : Ints w (some ⟨b, o, none⟩) n c l) (hn : n ≤ 1000000) : Calls Tryz.prog 41 #[.slice (some ⟨b, o, none⟩) n c] w fun e w' => ∃ v', e = .returned v' ∧ OwnInts w' w.heap.size 3 v' l ∧ Below w.heap.size w w' := by
  refine (Tryz.slices_Clone_int b o n c l w (by rw [h.len]; exact Nat.le_refl _) (by omega) (fun j hj => by rw [h.len] at hj; rw [h.cell b o rfl j hj, List.getD_eq_getElem?_getD])).mono ?_
  rintro e w' ⟨v', rfl, h1, _, h2⟩
  refine ⟨v', rfl, ?_, h2⟩
  unfold OwnInts
  rw [h.len]
  rw [List.take_of_length_le (by rw [h.len]; exact Nat.le_refl _)] at h1
  exact h1

/-! ### the search's memory -/
def capN (B : Nat) : Array Value := #[.pointer (some ⟨B + 1, 0, none⟩), .pointer (some ⟨B + 2, 0, none⟩), .pointer (some ⟨B + 4, 0, none⟩), .pointer (some ⟨B, 0, none⟩), .pointer (some ⟨B + 5, 0, none⟩)]
structure NxW (w W0 : World) (B : Nat) (sl so : Value) (m : Nat) (v : Value) (ll : List (List Int)) (pl : List Int) : Prop where
  b0 : Box w B #[sl] 26
  b1 : Box w (B + 1) #[so] 22
  b2 : Box w (B + 2) #[v] 106
  b3 : Box w (B + 3) (tA pl) 3
  b4 : Box w (B + 4) #[.slice (some ⟨B + 3, 0, none⟩) m m] 22
  b5 : Box w (B + 5) #[.func (.func 117) #[] (capN B)] 203
  rows : RowsB w (B + 6) 22 v ll
  len : pl.length = m
  bel : Below B W0 w
section
variable {w w' W0 : World} {B m : Nat} {sl so v : Value} {ll : List (List Int)} {pl : List Int}
theorem NxW.below (h : NxW w W0 B sl so m v ll pl) (hb : Below w.heap.size w w') : NxW w' W0 B sl so m v ll pl where
  b0 := h.b0.below hb
  b1 := h.b1.below hb
  b2 := h.b2.below hb
  b3 := h.b3.below hb
  b4 := h.b4.below hb
  b5 := h.b5.below hb
  rows := h.rows.below hb
  len := h.len
  bel := h.bel.trans (hb.mono (by have := h.b0.lt; omega))
/-- A place is set. -/
theorem NxW.set (h : NxW w W0 B sl so m v ll pl) (i : Nat) (x : Int) : NxW (w.setCell ⟨B + 3, i, none⟩ (.int .i64 x)) W0 B sl so m v ll (pl.set i x) where
  b0 := h.b0.setOther _ (by simp)
  b1 := h.b1.setOther _ (by simp)
  b2 := h.b2.setOther _ (by simp)
  b3 := by have := h.b3.set i (.int .i64 x); rw [tA_set] at this; exact this
  b4 := h.b4.setOther _ (by simp)
  b5 := h.b5.setOther _ (by simp)
  rows := h.rows.set (by simp) _
  len := by rw [List.length_set]; exact h.len
  bel := h.bel.setCell (by simp) _
theorem NxW.ints (h : NxW w W0 B sl so m v ll pl) (hm : m ≤ 1000000) : Ints w (some ⟨B + 3, 0, none⟩) m m pl where
  len := h.len
  cap := Nat.le_refl _
  mx := by unfold maxLen; omega
  at' := fun _ => ⟨_, _, rfl, h.b3.lt⟩
  cell := fun b o e i hi => by
    injection e with e
    injection e with e1 e2
    subst e1 e2
    rw [Nat.zero_add, h.b3.cell i, tA_get (by rw [h.len]; exact hi), List.getD_eq_getElem?_getD]
/-- Places are found. -/
theorem NxW.push (h : NxW w W0 B sl so m v ll pl) {w1 w2 : World} {v' : Value} {us : List Value} {a : Option Addr} {n c : Nat} (hb : Below w.heap.size w w1) (hE : ElemsB w1 (B + 6) v.ownBlock us ll)
    (hown' : w2.ownsRow (B + 6) 22 1 v' (ll.length + 1) (us ++ [.slice a n c])) (hg : w1.grownBy w2 v.ownBlock) (hfresh : v'.ownBlock = v.ownBlock ∨ v'.ownBlock = some w1.heap.size)
    (hI : Ints w1 a n c pl) (hne : 0 < n → ∀ b, (Value.slice a n c).ownBlock = some b → w.heap.size ≤ b) :
    NxW (w2.setCell ⟨B + 2, 0, none⟩ v') W0 B sl so m v' (ll ++ [pl]) pl := by
  have hlt := h.rows.lt
  have hB : B + 5 < w.heap.size := h.b5.lt
  have hs := hb.size
  have hv : ∀ j, j ≤ 5 → v.ownBlock ≠ some (B + j) := fun j hj e => by have := (hlt _ e).1; omega
  have h1 := h.below hb
  have hR : RowsB w2 (B + 6) 22 v' (ll ++ [pl]) := RowsB.push hE hown' hg hfresh hI (fun hn => ⟨fun e => by
    obtain ⟨b, o, rfl, _⟩ := hI.at' hn
    have h2 := hne hn b rfl
    have h3 := (hlt b (by rw [← e]; rfl)).2
    omega, fun b e => by have := hne hn b e; omega⟩)
  exact {
    b0 := (h1.b0.grown hg (hv 0 (by omega))).setOther _ (by simp)
    b1 := (h1.b1.grown hg (hv 1 (by omega))).setOther _ (by simp)
    b2 := by have := (h1.b2.grown hg (hv 2 (by omega))).set 0 v'; simpa using this
    b3 := (h1.b3.grown hg (hv 3 (by omega))).setOther _ (by simp)
    b4 := (h1.b4.grown hg (hv 4 (by omega))).setOther _ (by simp)
    b5 := (h1.b5.grown hg (hv 5 (by omega))).setOther _ (by simp)
    rows := hR.set (by simp) _
    len := h.len
    bel := (h1.bel.grown hg (by omega) (fun b e => by have := (hlt b e).1; omega)).setCell (by simp) _ }
theorem NxW.far (h : NxW w W0 B sl so m v ll pl) (hg : w.grownBy w' v.ownBlock) : w'.cell? ⟨B + 2, 0, none⟩ = some v ∧ w'.frozen? ⟨B + 2, 0, none⟩ = false ∧ B + 2 < w'.heap.size := by
  have hb := h.b2.grown hg fun e => by have := (h.rows.lt _ e).1; omega
  exact ⟨hb.cell 0, hb.frozen 0, hb.lt⟩
end
end Go.Proofs.YtehoidohallfcaaGreatDoor
