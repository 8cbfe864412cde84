/- What moves.Moves returns: the plain model. No walk here. -/
import Derived.Test.YtjiacdihfbbfjaaInsG
import Derived.Test.YtjiacdihfbbfjaaBsf
import Derived.Test.YtjiacdihfbbfjaaImgM
import Derived.Test.YtjiacdihfbbfjaaGCheck
namespace Go.Proofs.Ytjiacdihfbbfjaa
open Go.RowKit

def insL (ll : List (List Int)) (p : List Int) : List (List Int) := if foundL ll p then ll else insAt ll (posL ll p) p
def sortedL (l : List (List Int)) : List (List Int) := l.foldl insL []
theorem sortedL_snoc (l : List (List Int)) (p : List Int) : sortedL (l ++ [p]) = insL (sortedL l) p := by unfold sortedL; rw [List.foldl_append]; rfl
theorem pos_before : ∀ {ll : List (List Int)} {p : List Int} {j : Nat}, j < posL ll p → lessL (ll[j]?.getD []) p = true
  | [], p, j, h => by simp [posL] at h
  | x :: r, p, j, h => by
    unfold posL at h
    rw [List.takeWhile_cons] at h
    cases hx : lessL x p
    · rw [hx] at h; simp at h
    · rw [hx] at h
      cases j with
      | zero => simpa using hx
      | succ j =>
        have := pos_before (ll := r) (p := p) (j := j) (by unfold posL; simpa using h)
        simpa using this
theorem pos_at {ll : List (List Int)} {p : List Int} (h : posL ll p < ll.length) : lessL (ll[posL ll p]?.getD []) p = false := by
  induction ll with
  | nil => simp at h
  | cons x r ih =>
    unfold posL at *
    rw [List.takeWhile_cons] at *
    cases hx : lessL x p
    · simp [hx]
    · simp only [hx, if_true, List.length_cons] at *
      simpa using ih (by omega)
theorem foundL_mem {ll : List (List Int)} {p : List Int} (h : foundL ll p = true) : p ∈ ll := by
  unfold foundL at h
  simp only [Bool.and_eq_true, decide_eq_true_eq] at h
  obtain ⟨h1, h2⟩ := h
  unfold eqL at h2
  rw [decide_eq_true_eq, List.getElem?_eq_getElem h1] at h2
  rw [← h2]; exact List.getElem_mem h1
theorem incr_pos {ll : List (List Int)} (hs : incrLL ll) {p : List Int} (hf : foundL ll p = false) {j : Nat} (hj : posL ll p ≤ j) (hl : j < ll.length) : lessL p ll[j] = true := by
  have h0 : posL ll p < ll.length := by omega
  have h1 := pos_at h0
  rw [List.getElem?_eq_getElem h0] at h1
  simp only [Option.getD_some] at h1
  have h2 : ll[posL ll p] ≠ p := by
    intro e
    unfold foundL at hf
    rw [List.getElem?_eq_getElem h0] at hf
    simp [h0, e, eqL] at hf
  have h3 : lessL p ll[posL ll p] = true := by
    cases h : lessL p ll[posL ll p]
    · exact absurd (lessL_total _ _ h1 h) h2
    · rfl
  by_cases e : j = posL ll p
  · subst e; exact h3
  · exact lessL_trans h3 (List.pairwise_iff_getElem.1 hs _ j h0 hl (by omega))
theorem mem_insAt {α : Type} {l : List α} {i : Nat} {x y : α} : y ∈ insAt l i x ↔ y ∈ l ∨ y = x := by
  unfold insAt
  have h : y ∈ l ↔ y ∈ l.take i ∨ y ∈ l.drop i := by
    conv => lhs; rw [← List.take_append_drop i l]
    exact List.mem_append
  simp only [List.mem_append, List.mem_cons, h]
  constructor
  · rintro (h | h | h) <;> simp [h]
  · rintro ((h | h) | h) <;> simp [h]
theorem mem_insL {ll : List (List Int)} {p x : List Int} : x ∈ insL ll p ↔ x ∈ ll ∨ x = p := by
  unfold insL
  split
  · rename_i h
    exact ⟨.inl, fun h' => h'.elim id (fun e => by subst e; exact foundL_mem h)⟩
  · exact mem_insAt
theorem insL_incr {ll : List (List Int)} (hs : incrLL ll) (p : List Int) : incrLL (insL ll p) := by
  unfold insL
  split
  · exact hs
  · rename_i hf
    have hf : foundL ll p = false := by simpa using hf
    unfold insAt incrLL
    rw [List.pairwise_append]
    refine ⟨List.Pairwise.sublist (List.take_sublist _ _) hs, List.pairwise_cons.2 ⟨fun y hy => ?_, List.Pairwise.sublist (List.drop_sublist _ _) hs⟩, fun x hx y hy => ?_⟩
    · obtain ⟨j, hj, rfl⟩ := List.mem_iff_getElem.1 hy
      rw [List.getElem_drop]
      exact incr_pos hs hf (by omega) _
    · obtain ⟨i, hi, rfl⟩ := List.mem_iff_getElem.1 hx
      simp only [List.length_take] at hi
      rw [List.getElem_take]
      have hb := pos_before (ll := ll) (p := p) (j := i) (by omega)
      rw [List.getElem?_eq_getElem (by omega)] at hb
      rcases List.mem_cons.1 hy with rfl | hy
      · exact hb
      · obtain ⟨j, hj, rfl⟩ := List.mem_iff_getElem.1 hy
        rw [List.getElem_drop]
        exact lessL_trans hb (incr_pos hs hf (by omega) _)
theorem insL_len (ll : List (List Int)) (p : List Int) : (insL ll p).length ≤ ll.length + 1 := by
  unfold insL
  split
  · omega
  · rw [insAt_len _ _ _ (posL_le _ _)]; exact Nat.le_refl _
theorem fold_incr (l : List (List Int)) : ∀ ll, incrLL ll → incrLL (l.foldl insL ll) := by
  induction l with
  | nil => intro ll h; exact h
  | cons p r ih => intro ll h; exact ih _ (insL_incr h p)
theorem sortedL_incr (l : List (List Int)) : incrLL (sortedL l) := fold_incr l [] List.Pairwise.nil
theorem mem_fold (l : List (List Int)) : ∀ ll x, x ∈ l.foldl insL ll ↔ x ∈ ll ∨ x ∈ l := by
  induction l with
  | nil => intro ll x; simp
  | cons p r ih => intro ll x; rw [List.foldl_cons, ih, mem_insL]; simp only [List.mem_cons, or_assoc]
theorem mem_sortedL (l : List (List Int)) (x : List Int) : x ∈ sortedL l ↔ x ∈ l := by unfold sortedL; rw [mem_fold]; simp
theorem sortedL_len (l : List (List Int)) : (sortedL l).length ≤ l.length := by
  have key : ∀ (l ll : List (List Int)), (l.foldl insL ll).length ≤ ll.length + l.length := by
    intro l
    induction l with
    | nil => intro ll; simp
    | cons p r ih => intro ll; have h1 := ih (insL ll p); have h2 := insL_len ll p; simp only [List.foldl_cons, List.length_cons]; omega
  have := key l []; simpa [sortedL] using this
/-- Two strictly increasing lists with the same elements are one. -/
theorem incrLL_ext : ∀ {a b : List (List Int)}, incrLL a → incrLL b → (∀ x, x ∈ a ↔ x ∈ b) → a = b
  | [], [], _, _, _ => rfl
  | [], y :: b, _, _, h => by have := (h y).2 (by simp); simp at this
  | x :: a, [], _, _, h => by have := (h x).1 (by simp); simp at this
  | x :: a, y :: b, ha, hb, h => by
    unfold incrLL at *
    rw [List.pairwise_cons] at ha hb
    have hxy : x = y := by
      rcases List.mem_cons.1 ((h x).1 (by simp)) with e | e
      · exact e
      · rcases List.mem_cons.1 ((h y).2 (by simp)) with e' | e'
        · exact e'.symm
        · have h1 := lessL_trans (ha.1 y e') (hb.1 x e); rw [lessL_irrefl] at h1; cases h1
    subst hxy
    congr 1
    refine incrLL_ext ha.2 hb.2 fun z => ⟨fun hz => ?_, fun hz => ?_⟩
    · rcases List.mem_cons.1 ((h z).1 (by simp [hz])) with e | e
      · subst e; have := ha.1 z hz; rw [lessL_irrefl] at this; cases this
      · exact e
    · rcases List.mem_cons.1 ((h z).2 (by simp [hz])) with e | e
      · subst e; have := hb.1 z hz; rw [lessL_irrefl] at this; cases this
      · exact e

/-! ### valid grids -/
structure Valid (g : Grid) : Prop where
  dims : okDims g.shape g.w g.h
  holes : okHoles g.holes (g.w * g.h)
  few : (g.holes.length : Int) < g.w * g.h
  cells : g.cells = cellsUpto (g.w * g.h).toNat g.holes
theorem checkErr_cases (g : Grid) : (checkErr g = 0 ∧ Valid g) ∨ (checkErr g = 130 ∧ ¬ Valid g) := by
  unfold checkErr
  cases h : makeL g.shape g.w g.h g.holes with
  | none =>
    refine .inr ⟨rfl, fun hv => ?_⟩
    unfold makeL at h
    rw [if_pos ⟨hv.dims, hv.holes, hv.few⟩] at h
    cases h
  | some x =>
    unfold makeL at h
    split at h
    · rename_i hh
      injection h with h
      subst h
      simp only
      cases he : eqL (cellsUpto (g.w * g.h).toNat g.holes) g.cells
      · exact .inr ⟨rfl, fun hv => by rw [← hv.cells] at he; simp [eqL] at he⟩
      · exact .inl ⟨rfl, hh.1, hh.2.1, hh.2.2, by simpa [eqL, eq_comm] using he⟩
    · cases h
theorem valid_make {s w h : Int} {holes : List Int} {g : Grid} (hg : makeL s w h holes = some g) : Valid g ∧ g.shape = s ∧ g.w = w ∧ g.h = h ∧ g.holes = holes := by
  unfold makeL at hg
  split at hg
  · rename_i hh
    injection hg with hg
    subst hg
    exact ⟨⟨hh.1, hh.2.1, hh.2.2, rfl⟩, rfl, rfl, rfl, rfl⟩
  · cases hg
theorem Valid.area {g : Grid} (h : Valid g) : 1 ≤ g.w * g.h ∧ g.w * g.h ≤ 256 := by
  obtain ⟨_, h1, h2, h3, h4⟩ := h.dims
  have a := Int.mul_le_mul h2 h4 (by omega) (by omega)
  have b := Int.mul_le_mul h1 h3 (by omega) (by omega)
  omega
theorem Valid.mem {g : Grid} (h : Valid g) {x : Int} (hx : x ∈ g.cells) : 0 ≤ x ∧ x < g.w * g.h := by
  rw [h.cells] at hx
  unfold cellsUpto at hx
  have := mem_ints.1 (List.mem_filter.1 hx).1
  have := h.area
  omega
theorem Valid.incr {g : Grid} (h : Valid g) : g.cells.Pairwise (· < ·) := by
  rw [h.cells]; exact (ints_incr _).filter _
theorem Valid.pos {g : Grid} (h : Valid g) : 0 < g.cells.length := by
  have h1 := h.area
  have h2 := (cells_nil_iff (A := (g.w * g.h).toNat) (l := g.holes) (by rw [show (((g.w * g.h).toNat : Nat) : Int) = g.w * g.h by omega]; exact h.holes))
  have h3 := h.few
  rw [h.cells]
  apply Nat.pos_of_ne_zero
  intro e
  exact (h2.1 (List.eq_nil_of_length_eq_zero e)) (by omega)
theorem Valid.len {g : Grid} (h : Valid g) : g.cells.length ≤ 256 := by
  have h1 := cellsUpto_le (g.w * g.h).toNat g.holes
  have h2 := h.area
  rw [h.cells]; omega
theorem placeOf_inj {g : Grid} {x y : Int} (h : placeOf g x = placeOf g y) : x = y := by
  unfold placeOf at h
  have e1 := Int.emod_add_mul_ediv x g.w
  have e2 := Int.emod_add_mul_ediv y g.w
  split at h <;> simp only [Prod.mk.injEq] at h
  · obtain ⟨h1, h2⟩ := h
    rw [h2] at h1 e1
    omega
  · obtain ⟨h1, h2⟩ := h
    rw [h2, h1] at e1
    omega
theorem Valid.nodup {g : Grid} (h : Valid g) : (fromL g).Nodup := by
  unfold fromL
  refine List.Pairwise.map _ (fun a b (hab : a < b) e => ?_) h.incr
  have := placeOf_inj e
  omega
def movesL (g : Grid) : List (List Int) := sortedL (imagesL g)
end Go.Proofs.Ytjiacdihfbbfjaa
