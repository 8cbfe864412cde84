/- The lists of a family are increasing lists of cells; Regions of their positions. Plain Lean, no walk here. -/
import Derived.Test.YtjiacdihfbbfjaaFams
namespace Go.Proofs.Ytjiacdihfbbfjaa
open Go.RowKit

def okL (n : Nat) (l : List Int) : Prop := l.Pairwise (· < ·) ∧ ∀ c ∈ l, 0 ≤ c ∧ c < n
theorem incr_len : ∀ {l : List Int} {lo : Int} {n : Nat}, l.Pairwise (· < ·) → (∀ c ∈ l, lo ≤ c ∧ c < n) → (l.length : Int) ≤ n - lo ∨ l = []
  | [], _, _, _, _ => .inr rfl
  | [x], lo, n, _, h => by
    have := h x (List.mem_cons_self ..)
    left; simp; omega
  | x :: y :: t, lo, n, hp, h => by
    left
    have hx := h x (List.mem_cons_self ..)
    have h2 := incr_len (l := y :: t) (lo := x + 1) (n := n) (List.pairwise_cons.1 hp).2 (fun c hc => by
      have h1 := (List.pairwise_cons.1 hp).1 c hc
      have h3 := h c (List.mem_cons_of_mem _ hc)
      omega)
    rcases h2 with h2 | h2
    · simp only [List.length_cons] at h2 ⊢; omega
    · cases h2
theorem okL.len {n : Nat} {l : List Int} (h : okL n l) : l.length ≤ n := by
  rcases incr_len (lo := 0) h.1 h.2 with h2 | h2
  · omega
  · rw [h2]; simp
theorem range_incr (p : Nat → Bool) (k : Nat) : (((List.range k).filter p).map fun (c : Nat) => (c : Int)).Pairwise (· < ·) :=
  List.Pairwise.map _ (fun a b h => by omega) (List.Pairwise.filter _ (List.pairwise_lt_range (n := k)))
theorem grpL_ok (f : Nat → Option Int) (k : Nat) (n : Int) : okL k (grpL f k n) :=
  ⟨range_incr _ _, fun c hc => by obtain ⟨q, h1, _, rfl⟩ := mem_grpL.1 hc; omega⟩
theorem nbRow_ok (g : Grid) (a k : Nat) : okL k (nbRow g a k) := ⟨nbRow_incr g a k, fun c hc => by obtain ⟨q, h1, rfl, _⟩ := mem_nbRow.1 hc; omega⟩
theorem linesL_ok {f : Nat → Option Int} {k : Nat} {l : List Int} (h : l ∈ linesL f k) : okL k l := by
  unfold linesL at h
  obtain ⟨n, _, rfl⟩ := List.mem_map.1 h
  exact grpL_ok _ _ _
theorem linesL_few (f : Nat → Option Int) (k : Nat) : (linesL f k).length ≤ 49 := by
  unfold linesL
  rw [List.length_map]
  exact Nat.le_trans (List.length_filter_le _ _) (by simp [lineNos])
theorem fam_ok {g : Grid} {f : Int} {l : List Int} (hl : l ∈ famL g f) : okL g.cells.length l := by
  unfold famL at hl
  split at hl
  · unfold cellsF at hl
    obtain ⟨c, hc, rfl⟩ := List.mem_map.1 hl
    have := List.mem_range.1 hc
    exact ⟨by simp, fun x hx => by rw [List.mem_singleton.1 hx]; omega⟩
  split at hl
  · exact linesL_ok hl
  split at hl
  · exact linesL_ok hl
  split at hl
  · split at hl
    · exact linesL_ok hl
    · unfold diagL at hl
      split at hl
      · unfold two at hl
        rcases List.mem_append.1 hl with hl | hl
        · split at hl
          · cases hl
          · rw [List.mem_singleton.1 hl]; exact grpL_ok _ _ _
        · split at hl
          · cases hl
          · rw [List.mem_singleton.1 hl]; exact grpL_ok _ _ _
      · cases hl
  split at hl
  · unfold nbL nbUpto at hl
    obtain ⟨c, _, rfl⟩ := List.mem_map.1 hl
    exact nbRow_ok _ _ _
  split at hl
  · unfold nearF at hl
    obtain ⟨c, hc, rfl⟩ := List.mem_map.1 hl
    have hcn := List.mem_range.1 hc
    refine ⟨nearRow_lt g c, fun x hx => ?_⟩
    rcases mem_nearRow.1 hx with h | rfl
    · exact (nbRow_ok g c _).2 x h
    · omega
  split at hl
  · unfold pairsF at hl
    obtain ⟨c, hc, hl⟩ := List.mem_flatMap.1 hl
    have hcn := List.mem_range.1 hc
    unfold pairRow at hl
    obtain ⟨b, hb, rfl⟩ := List.mem_map.1 hl
    obtain ⟨hb, hcb⟩ := List.mem_filter.1 hb
    have hbb := (nbRow_ok g c _).2 b hb
    have hcb : (c : Int) < b := by simpa using hcb
    exact ⟨by simp; omega, fun x hx => by
      rcases List.mem_cons.1 hx with rfl | hx
      · omega
      · rw [List.mem_singleton.1 hx]; exact hbb⟩
  split at hl
  · rw [List.mem_singleton.1 hl]
    exact ⟨ints_incr _, fun x hx => mem_ints.1 hx⟩
  · cases hl
theorem fam_few {g : Grid} (h : g.cells.length ≤ 256) (f : Int) : (famL g f).length ≤ 70000 := by
  unfold famL
  split
  · rw [cellsF_len]; omega
  split
  · have := linesL_few (rowF g) g.cells.length; omega
  split
  · have := linesL_few (colF g) g.cells.length; omega
  split
  · split
    · have := linesL_few (sumF g) g.cells.length; omega
    · unfold diagL two
      split
      · rw [List.length_append]; split <;> split <;> simp
      · simp
  split
  · rw [nbL_len]; omega
  split
  · rw [nearF_len]; omega
  split
  · have h1 := pairsF_len g g.cells.length
    have h2 : g.cells.length * g.cells.length ≤ 256 * 256 := Nat.mul_le_mul h h
    omega
  split
  · simp
  · simp

/-! ### Regions of positions -/
def posnsOf (g : Grid) (l : List Int) : List Int := l.map fun c => g.cells[c.toNat]?.getD 0
theorem posnsOf_take (g : Grid) (l : List Int) {k : Nat} (h : k < l.length) : posnsOf g (l.take (k + 1)) = posnsOf g (l.take k) ++ [g.cells[(l[k]?.getD 0).toNat]?.getD 0] := by unfold posnsOf; rw [take_getD l k h]; simp
theorem posnsOf_len (g : Grid) (l : List Int) : (posnsOf g l).length = l.length := by unfold posnsOf; simp
theorem idx_pos {g : Grid} (hv : Valid g) {c : Int} (h : 0 ≤ c ∧ c < g.cells.length) : inL g.cells (g.cells[c.toNat]?.getD 0) = true ∧ idxL g.cells (g.cells[c.toNat]?.getD 0) = c := by
  have hlt : c.toNat < g.cells.length := by omega
  refine ⟨List.contains_iff_mem.2 (getD_mem _ _ hlt), ?_⟩
  have hp := List.pairwise_iff_getElem.1 hv.incr
  rw [idxL_hit hlt (fun hm => ?_) rfl]
  · omega
  · obtain ⟨j, hj, e⟩ := List.mem_take_iff_getElem.1 hm
    have hj := Nat.lt_min.1 hj
    rw [List.getElem?_eq_getElem hlt] at e
    simp only [Option.getD_some] at e
    have := hp j c.toNat (by omega) hlt hj.1
    omega
theorem idxs_pos {g : Grid} (hv : Valid g) {l : List Int} (h : okL g.cells.length l) : idxs g.cells (posnsOf g l) = l := by
  unfold idxs posnsOf
  rw [List.map_map]
  conv => rhs; rw [← List.map_id l]
  exact List.map_congr_left fun c hc => (idx_pos hv (h.2 c hc)).2
theorem regOk_pos {g : Grid} (hv : Valid g) {l : List Int} (h : okL g.cells.length l) : regOk g.cells (posnsOf g l) = decide (l ≠ []) := by
  unfold regOk
  have h1 : (posnsOf g l).all (inL g.cells) = true := List.all_eq_true.2 fun x hx => by
    unfold posnsOf at hx
    obtain ⟨c, hc, rfl⟩ := List.mem_map.1 hx
    exact (idx_pos hv (h.2 c hc)).1
  have h2 : (idxs g.cells (posnsOf g l)).Nodup := by rw [idxs_pos hv h]; exact h.1.imp (fun h => by omega)
  rw [h1, decide_eq_true h2]
  simp only [Bool.true_and]
  have e : (posnsOf g l ≠ []) ↔ (l ≠ []) := by unfold posnsOf; simp
  exact decide_eq_decide.2 e
def emptyUpto (m : Nat) (ll : List (List Int)) (k : Nat) : Bool := decide (64 < m) || (ll.take k).any fun l => decide (l = [])
theorem emptyUpto_zero (m : Nat) (ll : List (List Int)) : emptyUpto m ll 0 = decide (64 < m) := by unfold emptyUpto; simp
theorem emptyUpto_succ (m : Nat) (ll : List (List Int)) {k : Nat} (h : k < ll.length) : emptyUpto m ll (k + 1) = (emptyUpto m ll k || decide (ll[k]?.getD [] = [])) := by
  unfold emptyUpto; rw [take_rows h, List.any_append, Bool.or_assoc]; simp
theorem trip {g : Grid} (hv : Valid g) (he : checkErr g = 0) {ll : List (List Int)} (hok : ∀ l ∈ ll, okL g.cells.length l) :
    (emptyUpto ll.length ll ll.length = true → regErr g (ll.map (posnsOf g)) = 130 ∧ regOut g (ll.map (posnsOf g)) = []) ∧ (emptyUpto ll.length ll ll.length = false → regErr g (ll.map (posnsOf g)) = 0 ∧ regOut g (ll.map (posnsOf g)) = ll) := by
  have hall : regAll g (ll.map (posnsOf g)) = !emptyUpto ll.length ll ll.length := by
    unfold regAll emptyUpto
    rw [decide_eq_true he, List.length_map, List.take_of_length_le (Nat.le_refl _), Bool.true_and, Bool.not_or]
    have e1 : decide (ll.length ≤ 64) = !decide (64 < ll.length) := by
      by_cases h : ll.length ≤ 64
      · rw [decide_eq_true h, decide_eq_false (show ¬ 64 < ll.length by omega)]; rfl
      · rw [decide_eq_false h, decide_eq_true (show 64 < ll.length by omega)]; rfl
    rw [e1]
    congr 1
    rw [List.all_map, List.not_any_eq_all_not, Bool.eq_iff_iff, List.all_eq_true, List.all_eq_true]
    constructor
    · intro h l hl
      have := h l hl
      simp only [Function.comp] at this
      rw [regOk_pos hv (hok l hl)] at this
      simpa using this
    · intro h l hl
      simp only [Function.comp]
      rw [regOk_pos hv (hok l hl)]
      have := h l hl
      simpa using this
  have hmap : (ll.map (posnsOf g)).map (idxs g.cells) = ll := by
    rw [List.map_map]
    conv => rhs; rw [← List.map_id ll]
    exact List.map_congr_left fun l hl => idxs_pos hv (hok l hl)
  unfold regErr regOut
  rw [hall]
  constructor
  · intro h; rw [h]; exact ⟨rfl, rfl⟩
  · intro h; rw [h]; exact ⟨rfl, hmap⟩
end Go.Proofs.Ytjiacdihfbbfjaa

