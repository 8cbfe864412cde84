/- What the loops of ranking.Ranking compute. Plain words. -/
import Derived.Test.YtehoidohallfcaaGreatDoorPlM
namespace Go.Proofs.YtehoidohallfcaaGreatDoor

/-! ### two lists mixed place by place -/
def mixI (f : Int → Int → Int) (b r : List Int) (c : Nat) : List Int := List.zipWith f (b.take c) (r.take c) ++ b.drop c
section
variable {f : Int → Int → Int} {b r : List Int} {c : Nat}
theorem mixI_zero : mixI f b r 0 = b := by simp [mixI]
theorem mixI_len (hb : c ≤ b.length) (hr : c ≤ r.length) : (mixI f b r c).length = b.length := by
  unfold mixI; simp; omega
theorem mixI_all (h : b.length = r.length) : mixI f b r b.length = List.zipWith f b r := by
  unfold mixI
  rw [List.take_of_length_le (Nat.le_refl _), List.take_of_length_le (by omega), List.drop_of_length_le (Nat.le_refl _), List.append_nil]
theorem mixI_get (hb : c ≤ b.length) (hr : c ≤ r.length) {x : Int} (hx : b[c]? = some x) : (mixI f b r c)[c]? = some x := by
  unfold mixI
  rw [List.getElem?_append_right (by simp; omega)]
  simp only [List.length_zipWith, List.length_take, List.getElem?_drop]
  rw [show c + (c - min (min c b.length) (min c r.length)) = c by omega]; exact hx
theorem mixI_step {x y : Int} (hx : b[c]? = some x) (hy : r[c]? = some y) : mixI f b r (c + 1) = (mixI f b r c).set c (f x y) := by
  obtain ⟨hb, eb⟩ := List.getElem?_eq_some_iff.1 hx
  obtain ⟨hr, er⟩ := List.getElem?_eq_some_iff.1 hy
  unfold mixI
  rw [List.take_succ_eq_append_getElem hb, List.take_succ_eq_append_getElem hr, List.zipWith_append (by simp; omega), List.set_append_right _ _ (by simp; omega)]
  simp only [List.length_zipWith, List.length_take, List.zipWith_cons_cons, List.zipWith_nil_left, List.append_assoc, List.cons_append, List.nil_append]
  rw [show c - min (min c b.length) (min c r.length) = 0 by omega, List.drop_eq_getElem_cons hb, List.set_cons_zero, eb, er]
end
/-! ### the best and the worst ranks -/
def mixTo (f : Int → Int → Int) (x : List (List Int)) (k : Nat) : List Int := (x.take k).foldl (fun b t => List.zipWith f b (rankL t)) (rankL (x.headD []))
theorem mixTo_zero (f : Int → Int → Int) (x : List (List Int)) : mixTo f x 0 = rankL (x.headD []) := rfl
theorem mixTo_step {f : Int → Int → Int} {x : List (List Int)} {k : Nat} {t : List Int} (h : x[k]? = some t) : mixTo f x (k + 1) = List.zipWith f (mixTo f x k) (rankL t) := by
  obtain ⟨hk, e⟩ := List.getElem?_eq_some_iff.1 h
  unfold mixTo
  rw [List.take_succ_eq_append_getElem hk, List.foldl_append, e]; rfl
theorem mixTo_len {f : Int → Int → Int} {x : List (List Int)} {n : Nat} (h0 : x ≠ []) (h : ∀ t ∈ x, t.length = n) (k : Nat) : (mixTo f x k).length = n :=
  fold_len (by rw [rank_len, head_len h0 h]) fun t ht => h t (List.mem_of_mem_take ht)
theorem mixTo_best (x : List (List Int)) : mixTo min x x.length = bestL x := by unfold mixTo bestL; rw [List.take_length]
theorem mixTo_worst (x : List (List Int)) : mixTo max x x.length = worstL x := by unfold mixTo worstL; rw [List.take_length]
/-! ### pairs that are not decided -/
def rowTo (x : List (List Int)) (a b : Nat) : List (Int × Int) := ((List.range' (a + 1) (b - (a + 1))).filter (undB x a)).map fun (b : Nat) => ((a : Int), (b : Int))
def undTo (x : List (List Int)) (n a : Nat) : List (Int × Int) := (List.range a).flatMap fun a => undRow x a n
theorem undTo_zero (x : List (List Int)) (n : Nat) : undTo x n 0 = [] := rfl
theorem rowTo_zero (x : List (List Int)) (a : Nat) : rowTo x a (a + 1) = [] := by simp [rowTo]
theorem rowTo_step {x : List (List Int)} {a b : Nat} (h : a < b) : rowTo x a (b + 1) = rowTo x a b ++ if undB x a b then [((a : Int), (b : Int))] else [] := by
  unfold rowTo
  rw [show b + 1 - (a + 1) = (b - (a + 1)) + 1 by omega, List.range'_concat, List.filter_append, List.map_append]
  rw [show a + 1 + 1 * (b - (a + 1)) = b by omega]
  by_cases e : undB x a b <;> simp [e]
theorem undTo_step (x : List (List Int)) (n a : Nat) : undTo x n (a + 1) = undTo x n a ++ rowTo x a n := by
  unfold undTo rowTo undRow
  rw [List.range_succ, List.flatMap_append]; simp
theorem undTo_all (x : List (List Int)) (n : Nat) : undTo x n n = undL x n := rfl
theorem undTo_len (x : List (List Int)) (n : Nat) (a b : Nat) (h : b ≤ n) : (undTo x n a).length ≤ a * n ∧ (rowTo x a b).length ≤ n := by
  constructor
  · induction a with
    | zero => simp [undTo_zero]
    | succ a ih =>
      rw [undTo_step, List.length_append, Nat.add_mul, Nat.one_mul]
      have : (rowTo x a n).length ≤ n := by
        unfold rowTo
        rw [List.length_map]
        refine Nat.le_trans (List.length_filter_le _ _) ?_
        rw [List.length_range']; omega
      omega
  · unfold rowTo
    rw [List.length_map]
    refine Nat.le_trans (List.length_filter_le _ _) ?_
    rw [List.length_range']; omega
end Go.Proofs.YtehoidohallfcaaGreatDoor

