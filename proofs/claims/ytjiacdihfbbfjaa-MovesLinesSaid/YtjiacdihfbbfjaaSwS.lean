/- The sets of moves.Swaps in memory; the closure that asks them. -/
import Derived.Test.YtjiacdihfbbfjaaSwF
import Derived.WalkKit
import Derived.WalkSpells
import Derived.WalkLawsBesides
import Derived.Deep.LoopGhost
import Derived.Deep.QuietTactic
import Derived.BigQuiet
import Derived.StillTailTactics
import Derived.Lib.Hide
import Derived.Outline
import Derived.Lib.QuietBelow
namespace Go.Proofs.Ytjiacdihfbbfjaa
open Go.RowKit

def flags (n : Nat) (l : List Int) : Array Value := ((List.range n).map fun (i : Nat) => Value.bool (inL l (i : Int))).toArray
theorem flags_size (n : Nat) (l : List Int) : (flags n l).size = n := by unfold flags; simp
theorem flags_get (n : Nat) (l : List Int) {i : Nat} (h : i < n) : (flags n l)[i]? = some (.bool (inL l (i : Int))) := by unfold flags; simp [h]
theorem flags_nil (n : Nat) : flags n [] = madeCells #[.bool false] n := by
  apply Array.ext
  · rw [flags_size, size_madeCells]
  · intro i h1 h2
    rw [flags_size] at h1
    have := flags_get n [] h1
    rw [Array.getElem?_eq_getElem (by rw [flags_size]; exact h1)] at this
    injection this with this
    rw [this]
    simp [madeCells, inL, Nat.mod_one]
theorem flags_set (n : Nat) (l : List Int) {c : Nat} (h : c < n) : (flags n l).setIfInBounds c (.bool true) = flags n (l ++ [(c : Int)]) := by
  apply Array.ext_getElem?
  intro i
  by_cases hi : i < n
  · rw [flags_get n _ hi]
    by_cases hc : c = i
    · subst hc
      rw [Array.getElem?_setIfInBounds_self_of_lt (by rw [flags_size]; exact h)]
      simp [inL]
    · rw [Array.getElem?_setIfInBounds_ne hc, flags_get n _ hi]
      simp [inL]; omega
  · rw [Array.getElem?_eq_none (by simp [flags_size]; omega), Array.getElem?_eq_none (by rw [flags_size]; omega)]
/-- Block S is a row of m slices of bools; the first k of them are the sets of the first lists. -/
structure Sets (w : World) (S m n : Nat) (ll : List (List Int)) (k : Nat) : Prop where
  has : ∃ cs, Box w S cs 45 ∧ cs.size = m ∧ ∀ j, j < k → ∃ b, cs[j]? = some (.slice (some ⟨b, 0, none⟩) n n) ∧ Box w b (flags n (ll[j]?.getD [])) 4 ∧ S ≠ b
theorem Sets.kept {w w' : World} {S m n : Nat} {ll : List (List Int)} {k : Nat} (h : Sets w S m n ll k) (hk : ∀ q, q < w.heap.size → w'.heap[q]? = w.heap[q]?) : Sets w' S m n ll k := by
  obtain ⟨cs, h1, h2, h3⟩ := h.has
  refine ⟨cs, (hk S h1.lt).trans h1, h2, fun j hj => ?_⟩
  obtain ⟨b, e1, e2, e3⟩ := h3 j hj
  exact ⟨b, e1, (hk b e2.lt).trans e2, e3⟩
theorem Sets.lt {w : World} {S m n : Nat} {ll : List (List Int)} {k : Nat} (h : Sets w S m n ll k) : S < w.heap.size := let ⟨_, h1, _⟩ := h.has; h1.lt
theorem Sets.made (w : World) (cs : Array Value) (m n : Nat) (ll : List (List Int)) (h : cs.size = m) : Sets (w.alloc (.cells cs 45)) w.heap.size m n ll 0 := ⟨cs, Box.new _ _ _, h, fun j hj => absurd hj (by omega)⟩

set_option maxRecDepth 10000 in
set_option maxHeartbeats 1000000 in
theorem swaps1_any (S m n k i bs bi : Nat) (ll : List (List Int)) (c : Int) (w : World) (h : Sets w S m n ll k) (hi : i < k) (hm : k ≤ m) (hs : Box w bs #[.slice (some ⟨S, 0, none⟩) m m] 73) (hb : Box w bi #[.int .i64 i] 3) (hc : 0 ≤ c ∧ c < n) :
    Calls Try.prog 65 #[.int .i64 c, .pointer (some ⟨bs, 0, none⟩), .pointer (some ⟨bi, 0, none⟩)] w fun e w' => e = .returned (.bool (inL (ll[i]?.getD []) c)) ∧ ∃ k, w' = w.drewN k := by
  obtain ⟨cs, h1, h2, h3⟩ := h.has
  obtain ⟨b, e1, e2, e3⟩ := h3 i hi
  obtain ⟨C, rfl⟩ : ∃ C : Nat, c = (C : Int) := ⟨c.toNat, by omega⟩
  have d0 : w.cell? ⟨bs, 0, none⟩ = some (.slice (some ⟨S, 0, none⟩) m m) := by simpa using hs.cell 0
  have d1 : w.cell? ⟨bi, 0, none⟩ = some (.int .i64 i) := by simpa using hb.cell 0
  have d2 : w.cell? ⟨S, i, none⟩ = some (.slice (some ⟨b, 0, none⟩) n n) := by rw [h1.cell]; exact e1
  have d3 : w.cell? ⟨b, C, none⟩ = some (.bool (inL (ll[i]?.getD []) (C : Int))) := by rw [e2.cell]; exact flags_get n _ (by omega)
  have k0 : (i : Int) < (m : Int) := by omega
  clear h1 h2 h3 e1 e2 h hs hb
  go_enter Try.func65, Try.ntmps65
  go_wp2_with fail
  go_ret
  exact ⟨rfl, 0, rfl⟩
end Go.Proofs.Ytjiacdihfbbfjaa
