/- Rows of ints that a call makes by make and fills: what they hold meanwhile. -/
import Derived.Test.YtkekkbbdhdamjaaPMem
import Derived.WalkKit
import Derived.WalkSpells
import Derived.WalkLawsBesides
import Derived.Deep.LoopGhost
import Derived.Deep.QuietTactic
import Derived.BigQuiet
import Derived.StillTailTactics
import Derived.Lib.Hide
import Derived.Outline
import Derived.Lib.QuietBelow
namespace Go.Proofs.Ytkekkbbdhdamjaa
open Go.RowKit

def arrI (n : Nat) (l : List Int) : Array Value := ((List.range n).map fun (i : Nat) => Value.int .i64 (l[i]?.getD 0)).toArray
theorem arrI_size (n : Nat) (l : List Int) : (arrI n l).size = n := by unfold arrI; simp
theorem arrI_get (n : Nat) (l : List Int) {i : Nat} (h : i < n) : (arrI n l)[i]? = some (.int .i64 (l[i]?.getD 0)) := by unfold arrI; simp [h]
theorem arrI_nil (n : Nat) : madeCells #[.int .i64 0] n = arrI n [] := by
  apply Array.ext
  · rw [arrI_size, size_madeCells]
  · intro i h1 h2
    rw [arrI_size] at h2
    have := arrI_get n [] h2
    rw [Array.getElem?_eq_getElem (by rw [arrI_size]; exact h2)] at this
    injection this with this
    rw [this]
    simp [madeCells, Nat.mod_one]
theorem arrI_set (n : Nat) (l : List Int) (x : Int) {k : Nat} (hk : l.length = k) (h : k < n) : (arrI n l).setIfInBounds k (.int .i64 x) = arrI n (l ++ [x]) := by
  subst hk
  apply Array.ext_getElem?
  intro i
  by_cases hi : i < n
  · rw [arrI_get n _ hi]
    by_cases hc : l.length = i
    · subst hc
      rw [Array.getElem?_setIfInBounds_self_of_lt (by rw [arrI_size]; exact h)]
      simp
    · rw [Array.getElem?_setIfInBounds_ne hc, arrI_get n _ hi]
      by_cases hl : i < l.length
      · rw [List.getElem?_append_left hl]
      · rw [List.getElem?_append_right (by omega), List.getElem?_eq_none (by omega), List.getElem?_eq_none (by simp; omega)]
  · rw [Array.getElem?_eq_none (by simp [arrI_size]; omega), Array.getElem?_eq_none (by rw [arrI_size]; omega)]
theorem arrI_full {n : Nat} {l : List Int} (h : l.length = n) : (arrI n l).toList = l.map (Value.int .i64) := by
  subst h
  unfold arrI
  apply List.ext_getElem?
  intro i
  by_cases hi : i < l.length
  · simp [hi]
  · rw [List.getElem?_eq_none (by simp; omega), List.getElem?_eq_none (by simp; omega)]
/-- A block made by the call is a row of its own. -/
theorem own_of_box {w : World} {B base n : Nat} {cs : Array Value} {t : TypeId} {l : List Int} (h : Box w B cs t) (hl : l.length = n) (hc : cs.toList = l.map (Value.int .i64)) (hb : base ≤ B) (hn : n ≤ 1000000) : OwnInts w base t (.slice (some ⟨B, 0, none⟩) n n) l := by
  unfold OwnInts
  refine ⟨by simp, .inr ⟨B, n, cs, by rw [hl], hb, h, by omega, by unfold maxLen; omega, ?_, ?_⟩⟩
  · have := congrArg List.length hc
    simpa [hl] using this
  · rw [hc, hl, Nat.mul_one, ← hl]; exact List.take_of_length_le (by simp)
theorem own_arr {w : World} {B base n : Nat} {t : TypeId} {l : List Int} (h : Box w B (arrI n l) t) (hl : l.length = n) (hb : base ≤ B) (hn : n ≤ 1000000) : OwnInts w base t (.slice (some ⟨B, 0, none⟩) n n) l := own_of_box h hl (arrI_full hl) hb hn

/-- The inverse while it is made. -/
def invArr (n : Nat) (l : List Int) : Array Value := ((List.range n).map fun (j : Nat) => Value.int .i64 (if (j : Int) ∈ l then ((l.findIdx fun x => x == (j : Int)) : Nat) else 0)).toArray
theorem invArr_size (n : Nat) (l : List Int) : (invArr n l).size = n := by unfold invArr; simp
theorem invArr_get (n : Nat) (l : List Int) {i : Nat} (h : i < n) : (invArr n l)[i]? = some (.int .i64 (if (i : Int) ∈ l then ((l.findIdx fun x => x == (i : Int)) : Nat) else 0)) := by unfold invArr; simp [h]
theorem invArr_nil (n : Nat) : madeCells #[.int .i64 0] n = invArr n [] := by
  rw [arrI_nil]
  unfold arrI invArr
  simp
theorem invArr_set (n : Nat) {l : List Int} {c k : Nat} (hk : l.length = k) (hn : (c : Int) ∉ l) (h : c < n) : (invArr n l).setIfInBounds c (.int .i64 k) = invArr n (l ++ [(c : Int)]) := by
  subst hk
  apply Array.ext_getElem?
  intro i
  by_cases hi : i < n
  · rw [invArr_get n _ hi]
    by_cases hc : c = i
    · subst hc
      rw [Array.getElem?_setIfInBounds_self_of_lt (by rw [invArr_size]; exact h), if_pos (by simp)]
      have : (l ++ [(c : Int)]).findIdx (fun x => x == (c : Int)) = l.length := by
        rw [List.findIdx_append, if_neg]
        · simp
        · intro hlt
          have h2 := List.findIdx_getElem (w := hlt)
          simp only [beq_iff_eq] at h2
          exact hn (h2 ▸ List.getElem_mem hlt)
      rw [this]
    · rw [Array.getElem?_setIfInBounds_ne hc, invArr_get n _ hi]
      by_cases hm : (i : Int) ∈ l
      · rw [if_pos hm, if_pos (List.mem_append_left _ hm), List.findIdx_append, if_pos (List.findIdx_lt_length_of_exists ⟨_, hm, by simp⟩)]
      · rw [if_neg hm, if_neg (by simp; exact ⟨hm, by omega⟩)]
  · rw [Array.getElem?_eq_none (by simp [invArr_size]; omega), Array.getElem?_eq_none (by rw [invArr_size]; omega)]
theorem invArr_full {n : Nat} {p : List Int} (h : okPerm p n) : (invArr n p).toList = (invP p n).map (Value.int .i64) := by
  unfold invArr invP mkP
  rw [List.map_map]
  apply List.map_congr_left
  intro j hj
  obtain ⟨i, hi, e⟩ := h.surj (List.mem_range.1 hj)
  rw [if_pos]
  · rfl
  · rw [← e]; exact List.mem_of_getElem? (h.get hi).1
end Go.Proofs.Ytkekkbbdhdamjaa
