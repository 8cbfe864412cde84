/- The search over groups, step by step. Plain words. -/
import Derived.Test.YtehoidohallfcaaGreatDoorPlM
namespace Go.Proofs.YtehoidohallfcaaGreatDoor

def segP (iv : Iv) (f : Nat) (pl : List Int) (done : Nat) (fr : Int) (g : Nat) : List (List Int) := if g = 0 then [] else match grpP iv pl g fr iv.length with
  | none => []
  | some (lo, hi, many) => if hi < lo then [] else if lateP iv pl g lo iv.length then [] else nextP iv f (setP pl g ((done : Int) + 1) iv.length) (done + many) (lo + 1)
def segTo (iv : Iv) (f : Nat) (pl : List Int) (done : Nat) (fr : Int) (g : Nat) : List (List Int) := (List.range g).flatMap (segP iv f pl done fr)
section
variable {iv : Iv} {f done g : Nat} {pl : List Int} {fr : Int}
theorem nextP_done (h : done = iv.length) : nextP iv (f + 1) pl done fr = [pl] := by unfold nextP; rw [if_pos h]
theorem nextP_seg (h : done ≠ iv.length) : nextP iv (f + 1) pl done fr = segTo iv f pl done fr (2 ^ iv.length) := by
  unfold nextP; rw [if_neg h]; rfl
theorem segTo_one : segTo iv f pl done fr 1 = [] := by simp [segTo, segP]
theorem segTo_succ (g : Nat) : segTo iv f pl done fr (g + 1) = segTo iv f pl done fr g ++ segP iv f pl done fr g := by
  unfold segTo; rw [List.range_succ, List.flatMap_append]; simp
theorem segTo_le {n : Nat} (h : g ≤ n) : (segTo iv f pl done fr g).length ≤ (segTo iv f pl done fr n).length := by
  induction n with
  | zero => obtain rfl : g = 0 := by omega
            exact Nat.le_refl _
  | succ n ih =>
    by_cases e : g = n + 1
    · subst e; exact Nat.le_refl _
    · rw [segTo_succ, List.length_append]; have := ih (by omega); omega
theorem grp_none {i n : Nat} (h : grpP iv pl g fr i = none) (hn : i ≤ n) : grpP iv pl g fr n = none := by
  induction n with
  | zero => obtain rfl : i = 0 := by omega
            exact h
  | succ n ih =>
    by_cases e : i = n + 1
    · subst e; exact h
    · unfold grpP; rw [ih (by omega)]
variable {lo hi : Int} {many i : Nat}
theorem grp_skip (h : grpP iv pl g fr i = some (lo, hi, many)) (hb : g.testBit i = false) : grpP iv pl g fr (i + 1) = some (lo, hi, many) := by unfold grpP; rw [h]; simp [hb]
theorem grp_stop (h : grpP iv pl g fr i = some (lo, hi, many)) (hb : g.testBit i = true) (hp : pl.getD i 0 ≠ 0) : grpP iv pl g fr (i + 1) = none := by unfold grpP; rw [h]; simp only [hb, if_true]; rw [if_pos hp]
theorem grp_take (h : grpP iv pl g fr i = some (lo, hi, many)) (hb : g.testBit i = true) (hp : pl.getD i 0 = 0) : grpP iv pl g fr (i + 1) = some (max lo (ivLo iv i), min hi (ivHi iv i), many + 1) := by unfold grpP; rw [h]; simp only [hb, if_true]; rw [if_neg (fun h => h hp)]
theorem seg_none (h : grpP iv pl g fr iv.length = none) : segP iv f pl done fr g = [] := by unfold segP; rw [h]; simp
theorem seg_empty (h : grpP iv pl g fr iv.length = some (lo, hi, many)) (hl : hi < lo) : segP iv f pl done fr g = [] := by unfold segP; rw [h]; simp [hl]
theorem seg_late (h : grpP iv pl g fr iv.length = some (lo, hi, many)) (hl : ¬ hi < lo) (ht : lateP iv pl g lo iv.length = true) : segP iv f pl done fr g = [] := by unfold segP; rw [h]; simp only [ht, if_true, if_neg hl]; simp
theorem seg_next (hg : g ≠ 0) (h : grpP iv pl g fr iv.length = some (lo, hi, many)) (hl : ¬ hi < lo) (ht : lateP iv pl g lo iv.length = false) : segP iv f pl done fr g = nextP iv f (setP pl g ((done : Int) + 1) iv.length) (done + many) (lo + 1) := by unfold segP; rw [h]; simp only [ht, if_neg hl, if_neg hg]; rfl
theorem late_succ (k : Nat) : lateP iv pl g lo (k + 1) = (lateP iv pl g lo k || (!g.testBit k && (decide (pl.getD k 0 = 0) && decide (ivHi iv k ≤ lo)))) := by
  unfold lateP; rw [List.range_succ, List.any_append]; simp
theorem late_zero : lateP iv pl g lo 0 = false := by simp [lateP]
variable {v : Int} {k : Nat}
theorem setP_skip (hb : g.testBit k = false) : setP pl g v (k + 1) = setP pl g v k := by
  apply List.ext_getElem?
  intro i
  by_cases h : i < pl.length
  · rw [setP_get h, setP_get h]
    by_cases e : i = k
    · subst e; rw [hb]; simp
    · rw [show decide (i < k + 1) = decide (i < k) by rw [decide_eq_decide]; omega]
  · rw [List.getElem?_eq_none (by rw [setP_len]; omega), List.getElem?_eq_none (by rw [setP_len]; omega)]
theorem setP_put (hb : g.testBit k = true) : (setP pl g v k).set k v = setP pl g v (k + 1) := by
  apply List.ext_getElem?
  intro i
  by_cases h : i < pl.length
  · rw [setP_get h]
    by_cases e : i = k
    · subst e
      rw [List.getElem?_set_self (by rw [setP_len]; exact h), hb]; simp
    · rw [List.getElem?_set_ne (Ne.symm e), setP_get h, show decide (i < k + 1) = decide (i < k) by rw [decide_eq_decide]; omega]
  · rw [List.getElem?_eq_none (by rw [List.length_set, setP_len]; omega), List.getElem?_eq_none (by rw [setP_len]; omega)]
/-- Striking the group's places again. -/
def unP' (pl : List Int) (g : Nat) (v : Int) (m k : Nat) : List Int := setP (setP pl g v m) g 0 k
theorem unset {n : Nat} (hl : pl.length = n) (hf : ∀ i, i < n → g.testBit i = true → pl.getD i 0 = 0) : setP (setP pl g v n) g 0 n = pl := by
  apply List.ext_getElem?
  intro i
  by_cases h : i < pl.length
  · rw [setP_get (by rw [setP_len]; exact h), setP_getD h]
    rw [show decide (i < n) = true by simp; omega]
    have e : pl[i]? = some (pl.getD i 0) := by rw [List.getD_eq_getElem?_getD, List.getElem?_eq_getElem h]; rfl
    rw [e]
    cases hb : g.testBit i
    · simp
    · rw [hf i (by omega) hb]; simp
  · rw [List.getElem?_eq_none (by rw [setP_len, setP_len]; omega), List.getElem?_eq_none (by omega)]
/-- How many are placed then. -/
theorem placed {m : Nat} (hl : pl.length = m) (hd : done = ((List.range m).filter (isP pl)).length) (hG : Grp iv pl g fr m lo hi many) : done + many = ((List.range m).filter (isP (setP pl g ((done : Int) + 1) m))).length := by
  rw [hd, hG.many, Nat.add_comm, ← filter_or]
  · congr 1
    apply List.filter_congr
    intro x hx
    rw [isP_set hl (List.mem_range.1 hx)]
  · intro x hx h1 h2
    have := hG.free x (List.mem_range.1 hx) h1
    unfold isP at h2
    simp only [decide_eq_true_eq] at h2
    exact h2 this
theorem placed_le (pl : List Int) (m : Nat) : ((List.range m).filter (isP pl)).length ≤ m := by
  have := List.length_filter_le (isP pl) (List.range m)
  rwa [List.length_range] at this
theorem many_pos {m : Nat} (h0 : g ≠ 0) (hg : g < 2 ^ m) (hG : Grp iv pl g fr m lo hi many) : 0 < many := by
  obtain ⟨i, hi, hb⟩ := some_bit h0 hg
  rw [hG.many]
  exact List.length_pos_of_mem (List.mem_filter.2 ⟨List.mem_range.2 hi, hb⟩)
end
end Go.Proofs.YtehoidohallfcaaGreatDoor

