/- ref.Orbits: what its loops compute, and lists of ints that are written in place. Plain words. -/
import Derived.Test.YtkekkbbdhdamjaaPOr
import Derived.WalkKit
import Derived.WalkSpells
import Derived.WalkLawsBesides
import Derived.Deep.LoopGhost
import Derived.Deep.QuietTactic
import Derived.BigQuiet
import Derived.StillTailTactics
import Derived.Lib.Hide
import Derived.Outline
import Derived.Lib.QuietBelow
namespace Go.Proofs.Ytkekkbbdhdamjaa
open Go.RowKit

theorem ownsRow_set {w : World} {base : Nat} {e : TypeId} {k g n c : Nat} {xs : List Value} (h : w.ownsRow base e k (.slice (some ⟨g, 0, none⟩) n c) n xs) (i : Nat) (v : Value) (_hi : i < n * k) :
    (w.setCell ⟨g, i, none⟩ v).ownsRow base e k (.slice (some ⟨g, 0, none⟩) n c) n (xs.set i v) := by
  refine ⟨by rw [List.length_set]; exact h.1, ?_⟩
  rcases h.2 with ⟨h1, _⟩ | ⟨g', cap, cur, e1, hb, hg, hnc, hcm, hcs, ht⟩
  · cases h1
  · obtain ⟨rfl, rfl⟩ : g = g' ∧ c = cap := by injection e1 with a _ b; injection a with a; injection a with a; exact ⟨a, b⟩
    refine .inr ⟨g, c, cur.setIfInBounds i v, rfl, hb, (show Box w g cur e from hg).set i v, hnc, hcm, by simp [hcs], ?_⟩
    rw [← ht, Array.toList_setIfInBounds, List.take_set]
theorem ownInts_set {w : World} {base b n c : Nat} {e : TypeId} {l : List Int} (h : OwnInts w base e (.slice (some ⟨b, 0, none⟩) n c) l) (hn : l.length = n) {x : Nat} (hx : x < n) (v : Int) : OwnInts (w.setCell ⟨b, x, none⟩ (.int .i64 v)) base e (.slice (some ⟨b, 0, none⟩) n c) (l.set x v) := by
  unfold OwnInts at h ⊢
  rw [List.length_set, List.map_set, hn]
  rw [hn] at h
  exact ownsRow_set h x _ (by omega)
theorem own_spot {w : World} {base n c : Nat} {e : TypeId} {a : Option Addr} {l : List Int} (h : OwnInts w base e (.slice a n c) l) (hn : l.length = n) (h0 : 0 < n) : ∃ b, a = some ⟨b, 0, none⟩ ∧ base ≤ b ∧ b < w.heap.size ∧ ∀ i, w.frozen? ⟨b, i, none⟩ = false := by
  unfold OwnInts at h
  rcases h.2 with ⟨e1, h1⟩ | ⟨g', cap, cur, e1, hb, hg, hnc, hcm, hcs, ht⟩
  · omega
  · injection e1 with e1 _ _
    subst e1
    have hx : Box w g' cur e := hg
    exact ⟨g', rfl, hb, hx.lt, hx.frozen⟩
theorem own_ints {w : World} {base n c : Nat} {e : TypeId} {a : Option Addr} {l : List Int} (h : OwnInts w base e (.slice a n c) l) (hn : l.length = n) : Ints w a n c l := by
  obtain ⟨a', c', e1, hI⟩ := h.ints
  injection e1 with x y z
  subst x z
  rw [hn] at hI; exact hI

section
variable {n N i : Nat} {gens : List (List Int)} {l : List Int}
/-- One step of the passing on. -/
theorem LInv.stepS (hg : ∀ g ∈ gens, okPerm g n) (h : LInv n gens l) {g : List Int} (hm : g ∈ gens) {x a b m : Nat} (hx : x < n) (ha : l[x]? = some (a : Int)) (hb : l[ap g x]? = some (b : Int)) (hne : a ≠ b) (hmm : (m = a ∧ a < b) ∨ (m = b ∧ b < a)) :
    LInv n gens ((l.set x (m : Int)).set (ap g x) (m : Int)) ∧ sumL ((l.set x (m : Int)).set (ap g x) (m : Int)) < sumL l := by
  have hj : ap g x < n := (hg g hm).lt hx
  obtain ⟨a', ha', hax, hca⟩ := h.el x hx
  obtain ⟨b', hb', hbj, hcb⟩ := h.el _ hj
  obtain rfl : a = a' := by rw [ha] at ha'; injection ha' with e; omega
  obtain rfl : b = b' := by rw [hb] at hb'; injection hb' with e; omega
  have hxj : x ≠ ap g x := fun e => by
    rw [← e, ha] at hb; injection hb with hb; omega
  have c1 : Conn gens x (ap g x) := .step hm .refl
  have c2 : Conn gens (ap g x) x := Conn.back hg hm hx
  have hb2 : (l.set x (m : Int))[ap g x]? = some (b : Int) := by rw [List.getElem?_set_ne hxj]; exact hb
  have hmx : m ≤ x ∨ m = b := by omega
  rcases hmm with ⟨rfl, hlt⟩ | ⟨rfl, hlt⟩
  · have h1 := h.set hg hx hax hca
    refine ⟨h1.set hg hj (by omega) (c2.trans hca), ?_⟩
    exact Nat.lt_of_lt_of_le (sumL_set hb2 (by omega) (by omega)) (sumL_set_le ha (by omega) (by omega))
  · have h1 := h.set hg hx (m := m) (by omega) (c1.trans hcb)
    refine ⟨h1.set hg hj hbj hcb, ?_⟩
    exact Nat.lt_of_le_of_lt (sumL_set_le hb2 (by omega) (by omega)) (sumL_set ha (by omega) (by omega))
/-- What one pass has found so far: nothing has changed and the first k generators pass on nothing, or the sum is less. -/
def Pass (N : Nat) (gens : List (List Int)) (l0 : List Int) (k x : Nat) (ch : Bool) (l : List Int) : Prop :=
  (ch = false ∧ l = l0 ∧ ∀ (i : Nat) (g : List Int), gens[i]? = some g → ∀ y, y < N → (i < k ∨ i = k ∧ y < x) → l[y]? = l[ap g y]?) ∨ (ch = true ∧ sumL l < sumL l0)
theorem Pass.zero : Pass N gens l 0 0 false l := .inl ⟨rfl, rfl, fun i g _ y _ h => by omega⟩
theorem Pass.next {l0 : List Int} {k : Nat} {ch : Bool} (h : Pass N gens l0 k N ch l) : Pass N gens l0 (k + 1) 0 ch l := by
  rcases h with ⟨h1, h2, h3⟩ | h
  · exact .inl ⟨h1, h2, fun i g hg y hy hc => h3 i g hg y hy (by omega)⟩
  · exact .inr h
theorem Pass.same {l0 : List Int} {k x : Nat} {ch : Bool} {g : List Int} (h : Pass N gens l0 k x ch l) (hg : gens[k]? = some g) (he : l[x]? = l[ap g x]?) : Pass N gens l0 k (x + 1) ch l := by
  rcases h with ⟨h1, h2, h3⟩ | h
  · refine .inl ⟨h1, h2, fun i g' hg' y hy hc => ?_⟩
    by_cases e : i = k ∧ y = x
    · obtain ⟨rfl, rfl⟩ := e
      rw [hg] at hg'; injection hg' with hg'; subst hg'; exact he
    · exact h3 i g' hg' y hy (by omega)
  · exact .inr h
theorem Pass.less {l0 l1 : List Int} {k x y : Nat} {ch : Bool} (h : Pass N gens l0 k x ch l) (hs : sumL l1 < sumL l) : Pass N gens l0 k y true l1 := by
  rcases h with ⟨_, rfl, _⟩ | ⟨_, h⟩
  · exact .inr ⟨rfl, hs⟩
  · exact .inr ⟨rfl, by omega⟩
/-- Nothing more is passed on. -/
def Still (N : Nat) (gens : List (List Int)) (l : List Int) : Prop := ∀ g ∈ gens, ∀ x, x < N → l[x]? = l[ap g x]?
theorem Pass.still {l0 : List Int} {k x : Nat} (h : Pass N gens l0 k x false l) (hk : gens.length ≤ k) : Still N gens l := by
  rcases h with ⟨_, _, h3⟩ | ⟨h, _⟩
  · intro g hg y hy
    obtain ⟨i, hi, e⟩ := List.getElem_of_mem hg
    exact h3 i g (by rw [List.getElem?_eq_getElem hi, e]) y hy (by omega)
  · cases h

/-- The numbers whose least is i, so far. -/
def rowP (l : List Int) (i p : Nat) : List Int := ((List.range p).filter fun j => decide (l[j]? = some (i : Int))).map Int.ofNat
theorem rowP_succ (l : List Int) (i p : Nat) : rowP l i (p + 1) = rowP l i p ++ if l[p]? = some (i : Int) then [(p : Int)] else [] := by
  unfold rowP
  rw [List.range_succ, List.filter_append, List.map_append]
  by_cases h : l[p]? = some (i : Int) <;> simp [h]
theorem rowP_le (l : List Int) (i p : Nat) : (rowP l i p).length ≤ p := by
  unfold rowP
  rw [List.length_map]
  have := List.length_filter_le (fun j => decide (l[j]? = some (i : Int))) (List.range p)
  simpa using this
theorem rowP_orb (hg : ∀ g ∈ gens, okPerm g N) (h : LInv N gens l) (hs : Still N gens l) (hi : i < N) : orbsTo N gens (i + 1) = if 0 < (rowP l i N).length then orbsTo N gens i ++ [rowP l i N] else orbsTo N gens i := by
  have key : ∀ j, j < N → (l[j]? = some (i : Int) ↔ firstB N gens i = true ∧ Conn gens i j) := fun j hj => h.final hg hs hj hi
  rw [orbsTo_succ]
  cases hf : firstB N gens i
  · have e : rowP l i N = [] := by
      unfold rowP
      rw [List.map_eq_nil_iff, List.filter_eq_nil_iff]
      intro j hj hc
      have := (key j (List.mem_range.1 hj)).1 (of_decide_eq_true hc)
      rw [hf] at this; cases this.1
    rw [e]; simp
  · have e : rowP l i N = orbL N gens i := by
      unfold rowP orbL
      congr 1
      apply List.filter_congr
      intro j hj
      rw [Bool.eq_iff_iff, decide_eq_true_eq, connB_iff hg hi, key j (List.mem_range.1 hj), hf]
      simp
    have hp : 0 < (orbL N gens i).length := List.length_pos_of_mem ((mem_orbL hg hi (i : Int)).2 ⟨i, rfl, .refl⟩)
    rw [e, if_pos hp]; simp
end
end Go.Proofs.Ytkekkbbdhdamjaa
