/- Each cell is on one line of a direction. Plain Lean, no walk here. -/
import Derived.Test.YtjiacdihfbbfjaaTouM
namespace Go.Proofs.Ytjiacdihfbbfjaa
open Go.RowKit

/-- The law's number of a line. -/
def lawLine (g : Grid) (f : Int) (c : Nat) : Int := if f = 1 then rowL g c else if g.shape = 1 then cenX g c else if f = 2 then cenX g c - rowL g c else cenX g c + rowL g c
def scale (g : Grid) (f m : Int) : Int := if f = 1 ∨ g.shape = 1 then m else 2 * m
theorem scale_lt {g : Grid} {f a b : Int} (h : a < b) : scale g f a < scale g f b := by unfold scale; split <;> omega
theorem scale_lo {g : Grid} {f a : Int} (h : -16 ≤ a ∧ a ≤ 32) : -1000 < scale g f a ∧ scale g f a ≤ 1000 := by unfold scale; split <;> omega
def famF (g : Grid) (f : Int) : Nat → Option Int := if f = 1 then rowF g else if f = 2 then colF g else sumF g
theorem famL_lines {g : Grid} {f : Int} (hf : f = 1 ∨ f = 2 ∨ (f = 3 ∧ g.shape = 2)) : famL g f = linesL (famF g f) g.cells.length := by
  unfold famL famF
  rcases hf with rfl | rfl | ⟨rfl, hs⟩
  · simp
  · simp
  · simp [hs]
theorem law_scale {g : Grid} (hv : Valid g) {f : Int} (hf : f = 1 ∨ f = 2 ∨ (f = 3 ∧ g.shape = 2)) {c : Nat} (hc : c < g.cells.length) : ∃ m, famF g f c = some m ∧ (-16 ≤ m ∧ m ≤ 32) ∧ lawLine g f c = scale g f m := by
  have hb := plc_bds hv hc
  rcases hf with rfl | rfl | ⟨rfl, hs⟩
  · refine ⟨(plc g c).2, by simp [famF, rowF, numOf], by omega, ?_⟩
    unfold lawLine scale
    rw [if_pos rfl, if_pos (.inl rfl)]
    rcases hv.dims.1 with h | h
    · rw [plc_one h]
    · rw [plc_two hv h hc]
  · refine ⟨(plc g c).1, by simp [famF, colF, numOf], by omega, ?_⟩
    unfold lawLine scale
    rw [if_neg (by decide)]
    rcases hv.dims.1 with h | h
    · rw [if_pos h, if_pos (.inr h), plc_one h]
      unfold cenX; rw [if_neg (by omega)]
    · rw [if_neg (by omega), if_pos rfl, if_neg (by rintro (h1 | h1) <;> omega), plc_two hv h hc, cen_axis h]
      simp only; omega
  · refine ⟨(plc g c).1 + (plc g c).2, by simp [famF, sumF, numOf], by omega, ?_⟩
    unfold lawLine scale
    rw [if_neg (by decide), if_neg (by omega), if_neg (by decide), if_neg (by rintro (h1 | h1) <;> omega), plc_two hv hs hc, cen_axis hs]
    simp only; omega

/-! ### the lists of lines, one by one -/
def nosOf (F : Nat → Option Int) (n : Nat) : List Int := lineNos.filter fun m => grpL F n m != []
theorem linesL_nos (F : Nat → Option Int) (n : Nat) : linesL F n = (nosOf F n).map (grpL F n) := rfl
theorem nos_incr (F : Nat → Option Int) (n : Nat) : (nosOf F n).Pairwise (· < ·) := List.Pairwise.filter _ lineNos_lt
theorem nos_len (F : Nat → Option Int) (n : Nat) : (linesL F n).length = (nosOf F n).length := by rw [linesL_nos, List.length_map]
/-- The list k of the lines: it is not empty, and its cells are those with the number k. -/
theorem line_at {g : Grid} (hv : Valid g) {f : Int} (hf : f = 1 ∨ f = 2 ∨ (f = 3 ∧ g.shape = 2)) {k : Nat} (hk : k < (famL g f).length) :
    ∃ m, (nosOf (famF g f) g.cells.length)[k]?.getD 0 = m ∧ (-16 ≤ m ∧ m ≤ 32) ∧ (famL g f)[k]?.getD [] ≠ [] ∧ ∀ c ∈ (famL g f)[k]?.getD [], (0 ≤ c ∧ c < g.cells.length) ∧ lawLine g f c.toNat = scale g f m := by
  rw [famL_lines hf] at hk ⊢
  have hk2 : k < (nosOf (famF g f) g.cells.length).length := by rw [← nos_len]; exact hk
  obtain ⟨m, hm⟩ : ∃ m, (nosOf (famF g f) g.cells.length)[k] = m := ⟨_, rfl⟩
  have hmem : m ∈ nosOf (famF g f) g.cells.length := by rw [← hm]; exact List.getElem_mem hk2
  have hmem2 := List.mem_filter.1 hmem
  have hl : (linesL (famF g f) g.cells.length)[k]?.getD [] = grpL (famF g f) g.cells.length m := by
    rw [linesL_nos, List.getElem?_map, List.getElem?_eq_getElem hk2, hm]; rfl
  refine ⟨m, by rw [List.getElem?_eq_getElem hk2, hm]; rfl, mem_lineNos.1 hmem2.1, by rw [hl]; simpa using hmem2.2, fun c hc => ?_⟩
  rw [hl] at hc
  obtain ⟨q, hq, e, rfl⟩ := mem_grpL.1 hc
  obtain ⟨m', h1, _, h3⟩ := law_scale hv hf hq
  rw [e] at h1
  obtain rfl := Option.some.inj h1
  exact ⟨by omega, by rw [Int.toNat_natCast]; exact h3⟩
theorem nos_lt {F : Nat → Option Int} {n k : Nat} (hk : k + 1 < (nosOf F n).length) : (nosOf F n)[k]?.getD 0 < (nosOf F n)[k + 1]?.getD 0 := by
  have := List.pairwise_iff_getElem.1 (nos_incr F n) k (k + 1) (by omega) hk (by omega)
  rw [List.getElem?_eq_getElem hk, List.getElem?_eq_getElem (by omega)]
  simpa using this

/-! ### how many cells the lines hold -/
def sumLen (ll : List (List Int)) : Nat := (ll.map List.length).sum
theorem sumLen_snoc (ll : List (List Int)) (l : List Int) : sumLen (ll ++ [l]) = sumLen ll + l.length := by unfold sumLen; simp
theorem sumLen_take (ll : List (List Int)) {k : Nat} (h : k < ll.length) : sumLen (ll.take (k + 1)) = sumLen (ll.take k) + (ll[k]?.getD []).length := by rw [take_rows h, sumLen_snoc]
theorem sumLen_le (ll : List (List Int)) (k : Nat) : sumLen (ll.take k) ≤ sumLen ll := by
  have e : ll = ll.take k ++ ll.drop k := (List.take_append_drop k ll).symm
  conv => rhs; rw [e]
  unfold sumLen
  rw [List.map_append, List.sum_append]
  omega
theorem one_of (x : Int) : ∀ (l : List Int), l.Nodup → ((l.map fun m => if some x = some m then 1 else 0).sum : Nat) = if x ∈ l then 1 else 0
  | [], _ => by simp
  | y :: l, h => by
    have ih := one_of x l (List.nodup_cons.1 h).2
    rw [List.map_cons, List.sum_cons, ih]
    have hy := (List.nodup_cons.1 h).1
    by_cases e : x = y
    · subst e; simp [hy]
    · have e2 : ¬ (some x = some y) := fun h => e (Option.some.inj h)
      simp [e]
theorem groups_sum (F : Nat → Option Int) : ∀ n, (∀ c, c < n → ∃ m, F c = some m ∧ -16 ≤ m ∧ m ≤ 32) → (lineNos.map fun m => (grpL F n m).length).sum = n
  | 0, _ => by
    have : (lineNos.map fun m => (grpL F 0 m).length) = lineNos.map fun _ => 0 := List.map_congr_left fun m _ => by simp [grpL]
    rw [this]
    decide
  | n + 1, h => by
    have ih := groups_sum F n (fun c hc => h c (by omega))
    obtain ⟨m, hm, hb⟩ := h n (by omega)
    have e : (lineNos.map fun x => (grpL F (n + 1) x).length) = lineNos.map fun x => (grpL F n x).length + (if some m = some x then 1 else 0) := List.map_congr_left fun x _ => by
      rw [grpL_succ, List.length_append, hm]
      split <;> rfl
    rw [e]
    have hs : ∀ l : List Int, (l.map fun x => (grpL F n x).length + (if some m = some x then 1 else 0)).sum = (l.map fun x => (grpL F n x).length).sum + (l.map fun x => if some m = some x then 1 else 0).sum := by
      intro l
      induction l with
      | nil => rfl
      | cons a l ih2 => simp only [List.map_cons, List.sum_cons, ih2]; omega
    rw [hs, ih, one_of m lineNos (lineNos_lt.imp fun h => by omega), if_pos (mem_lineNos.2 hb)]
theorem filter_sum (p : Int → List Int) : ∀ l : List Int, (((l.filter fun m => p m != []).map p).map List.length).sum = (l.map fun m => (p m).length).sum
  | [] => rfl
  | a :: l => by
    have ih := filter_sum p l
    rw [List.filter_cons]
    by_cases h : p a = []
    · simp only [h, bne_self_eq_false, Bool.false_eq_true, if_false, List.map_cons, List.sum_cons, List.length_nil, Nat.zero_add]; exact ih
    · have h2 : (p a != []) = true := by simpa using h
      rw [if_pos h2]
      simp only [List.map_cons, List.sum_cons]
      rw [ih]
theorem lines_total {g : Grid} (hv : Valid g) {f : Int} (hf : f = 1 ∨ f = 2 ∨ (f = 3 ∧ g.shape = 2)) : sumLen (famL g f) = g.cells.length := by
  rw [famL_lines hf]
  unfold sumLen linesL
  rw [filter_sum]
  exact groups_sum _ _ fun c hc => by obtain ⟨m, h1, h2, _⟩ := law_scale hv hf hc; exact ⟨m, h1, h2⟩
end Go.Proofs.Ytjiacdihfbbfjaa
