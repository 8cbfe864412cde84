/- The moves are a group of permutations that keep distances; they do not change with the border. Plain Lean, no walk here. -/
import Derived.Test.YtjiacdihfbbfjaaMovEq2
import Derived.Test.YtjiacdihfbbfjaaPRow
import Derived.Test.YtjiacdihfbbfjaaSwpM
namespace Go.Proofs.Ytjiacdihfbbfjaa
open Go.RowKit

/-! ### the linear maps -/
def normD (s x y : Int) : Int := if s = 2 then x * x + x * y + y * y else x * x + y * y
theorem turns_sub (j : Nat) (p q : Int × Int) : subP (turns j p) (turns j q) = turns j (subP p q) := by
  induction j with
  | zero => rfl
  | succ j ih => simp only [turns, ← ih]; unfold turned subP; simp only [Prod.mk.injEq]; omega
theorem turns_norm (j : Nat) (p : Int × Int) : normD 2 (turns j p).1 (turns j p).2 = normD 2 p.1 p.2 := by
  induction j with
  | zero => rfl
  | succ j ih => rw [← ih]; simp only [turns, turned, normD, if_true]; generalize turns j p = q; grind
theorem lin_sub {s : Int} (k : Nat) (p q : Int × Int) : subP (linMap s k p) (linMap s k q) = linMap s k (subP p q) := by
  unfold linMap
  split
  · unfold sqMap subP; split <;> (refine Prod.ext ?_ ?_ <;> simp only <;> omega)
  · unfold hexMap; rw [turns_sub]; congr 1; split <;> rfl
theorem lin_norm {s : Int} (hs : s = 1 ∨ s = 2) (k : Nat) (p : Int × Int) : normD s (linMap s k p).1 (linMap s k p).2 = normD s p.1 p.2 := by
  rcases hs with rfl | rfl
  · unfold linMap normD sqMap; simp only [if_true, if_neg (show ¬ (1 : Int) = 2 by decide)]; split <;> grind
  · unfold linMap hexMap; simp only [if_neg (show ¬ (2 : Int) = 1 by decide)]
    rw [turns_norm]
    split
    · simp only [normD, if_true]; grind
    · rfl
theorem turns_rep (j : Nat) (p : Int × Int) : turns j p = (p.1 * (turns j (1, 0)).1 + p.2 * (turns j (0, 1)).1, p.1 * (turns j (1, 0)).2 + p.2 * (turns j (0, 1)).2) := by
  induction j with
  | zero => simp [turns]
  | succ j ih => rw [turns, ih]; simp only [turns, turned]; generalize turns j (1, 0) = a; generalize turns j (0, 1) = b; refine Prod.ext ?_ ?_ <;> simp only <;> grind
theorem lin_rep (s : Int) (k : Nat) (p : Int × Int) : linMap s k p = (p.1 * (linMap s k (1, 0)).1 + p.2 * (linMap s k (0, 1)).1, p.1 * (linMap s k (1, 0)).2 + p.2 * (linMap s k (0, 1)).2) := by
  unfold linMap
  split
  · unfold sqMap; split <;> (refine Prod.ext ?_ ?_ <;> simp only <;> omega)
  · unfold hexMap
    split
    · rw [turns_rep (k % 6) (p.2, p.1)]
      simp only
      refine Prod.ext ?_ ?_ <;> simp only <;> omega
    · exact turns_rep _ _
def basis2 (f h : Int × Int → Int × Int) : Bool := decide (f (1, 0) = h (1, 0) ∧ f (0, 1) = h (0, 1))
theorem lin_comp_sq : ∀ i, i < 8 → ∀ j, j < 8 → ∃ r, r < 8 ∧ basis2 (fun p => linMap 1 i (linMap 1 j p)) (linMap 1 r) = true := by decide +kernel
theorem lin_comp_hex : ∀ i, i < 12 → ∀ j, j < 12 → ∃ r, r < 12 ∧ basis2 (fun p => linMap 2 i (linMap 2 j p)) (linMap 2 r) = true := by decide +kernel
theorem lin_inv_sq : ∀ j, j < 8 → ∃ r, r < 8 ∧ basis2 (fun p => linMap 1 r (linMap 1 j p)) id = true := by decide +kernel
theorem lin_inv_hex : ∀ j, j < 12 → ∃ r, r < 12 ∧ basis2 (fun p => linMap 2 r (linMap 2 j p)) id = true := by decide +kernel
theorem lin_two {s : Int} {i j : Nat} {h : Int × Int → Int × Int} (hh : ∀ p, h p = (p.1 * (h (1, 0)).1 + p.2 * (h (0, 1)).1, p.1 * (h (1, 0)).2 + p.2 * (h (0, 1)).2)) (hb : basis2 (fun p => linMap s i (linMap s j p)) h = true) (p : Int × Int) : linMap s i (linMap s j p) = h p := by
  unfold basis2 at hb
  obtain ⟨h1, h2⟩ := of_decide_eq_true hb
  rw [hh p, ← h1, ← h2]
  simp only
  rw [lin_rep s i (linMap s j p), lin_rep s i (linMap s j (1, 0)), lin_rep s i (linMap s j (0, 1)), lin_rep s j p]
  generalize linMap s i (1, 0) = a; generalize linMap s i (0, 1) = b
  generalize linMap s j (1, 0) = c; generalize linMap s j (0, 1) = d
  refine Prod.ext ?_ ?_ <;> simp only <;> grind
theorem lin_comp {s : Int} (hs : s = 1 ∨ s = 2) {i j : Nat} (hi : i < linMany s) (hj : j < linMany s) : ∃ r, r < linMany s ∧ ∀ p, linMap s i (linMap s j p) = linMap s r p := by
  rcases hs with rfl | rfl
  · obtain ⟨r, hr, hb⟩ := lin_comp_sq i hi j hj
    exact ⟨r, hr, lin_two (lin_rep _ _) hb⟩
  · obtain ⟨r, hr, hb⟩ := lin_comp_hex i hi j hj
    exact ⟨r, hr, lin_two (lin_rep _ _) hb⟩
theorem id_rep (p : Int × Int) : id p = (p.1 * (id ((1, 0) : Int × Int)).1 + p.2 * (id ((0, 1) : Int × Int)).1, p.1 * (id ((1, 0) : Int × Int)).2 + p.2 * (id ((0, 1) : Int × Int)).2) := by
  refine Prod.ext ?_ ?_ <;> simp
theorem lin_inv {s : Int} (hs : s = 1 ∨ s = 2) {j : Nat} (hj : j < linMany s) : ∃ r, r < linMany s ∧ ∀ p, linMap s r (linMap s j p) = p := by
  rcases hs with rfl | rfl
  · obtain ⟨r, hr, hb⟩ := lin_inv_sq j hj
    exact ⟨r, hr, lin_two (h := id) id_rep hb⟩
  · obtain ⟨r, hr, hb⟩ := lin_inv_hex j hj
    exact ⟨r, hr, lin_two (h := id) id_rep hb⟩
theorem lin_addP {s : Int} (k : Nat) (p t : Int × Int) : linMap s k (addP p t) = addP (linMap s k p) (linMap s k t) := by
  have h := lin_sub (s := s) k (addP p t) t
  have e : subP (addP p t) t = p := by unfold subP addP; refine Prod.ext ?_ ?_ <;> simp only <;> omega
  rw [e] at h
  rw [← h]
  unfold subP addP
  refine Prod.ext ?_ ?_ <;> simp only <;> omega
theorem lin_zero (s : Int) (p : Int × Int) : linMap s 0 p = p := by
  unfold linMap; split <;> rfl
theorem linMany_pos (s : Int) : 0 < linMany s := by unfold linMany; split <;> omega

/-! ### distances -/
def distL (g : Grid) (i k : Nat) : Int := normD g.shape ((plc g k).1 - (plc g i).1) ((plc g k).2 - (plc g i).2)
theorem mv_dist {g : Grid} (hv : Valid g) {p : List Int} (hp : p ∈ movesL g) : p.length = g.cells.length ∧ ∀ i, i < g.cells.length → ∃ a : Nat, a < g.cells.length ∧ p[i]?.getD 0 = a ∧ ∀ k, k < g.cells.length → ∀ b : Nat, p[k]?.getD 0 = b → distL g a b = distL g i k := by
  obtain ⟨m, hm, t, h⟩ := (mem_movesL hv p).1 hp
  refine ⟨h.1, fun i hi => ?_⟩
  obtain ⟨a, h1, h2, h3⟩ := h.2 i hi
  refine ⟨a, h1, h2, fun k hk b hb => ?_⟩
  obtain ⟨b', h4, h5, h6⟩ := h.2 k hk
  obtain rfl : b' = b := by omega
  unfold distL
  rw [h3, h6]
  have e := lin_sub (s := g.shape) m (plc g k) (plc g i)
  have n := lin_norm hv.dims.1 m (subP (plc g k) (plc g i))
  rw [← e] at n
  unfold subP at n
  unfold addP
  simp only at n ⊢
  rw [← n]
  congr 1 <;> omega

/-! ### permutations -/
structure PermL (n : Nat) (p : List Int) : Prop where
  len : p.length = n
  mem : ∀ x ∈ p, 0 ≤ x ∧ x < (n : Int)
  nd : p.Nodup
theorem PermL.at {n : Nat} {p : List Int} (h : PermL n p) {i : Nat} (hi : i < n) : ∃ a : Nat, a < n ∧ p[i]?.getD 0 = a := by
  have := h.mem _ (getD_mem p i (by rw [h.len]; exact hi))
  exact ⟨(p[i]?.getD 0).toNat, by omega, by omega⟩
theorem PermL.inj {n : Nat} {p : List Int} (h : PermL n p) {i j : Nat} (hi : i < n) (hj : j < n) (e : p[i]?.getD 0 = p[j]?.getD 0) : i = j :=
  nodup_at h.nd (by rw [h.len]; exact hi) (by rw [h.len]; exact hj) e
theorem PermL.surj {n : Nat} {p : List Int} (h : PermL n p) {q : Nat} (hq : q < n) : ∃ i, i < n ∧ p[i]?.getD 0 = q := by
  by_cases hm : (q : Int) ∈ p
  · obtain ⟨i, hi, e⟩ := List.mem_iff_getElem.1 hm
    exact ⟨i, by rw [← h.len]; exact hi, by rw [List.getElem?_eq_getElem hi]; exact e⟩
  · have := nodup_le n ((q : Int) :: p) (List.nodup_cons.2 ⟨hm, h.nd⟩) (fun x hx => by
      rcases List.mem_cons.1 hx with rfl | hx
      · omega
      · exact h.mem x hx)
    simp only [List.length_cons, h.len] at this
    omega
theorem ints_get (n : Nat) {i : Nat} (hi : i < n) : (ints n)[i]?.getD 0 = i := by unfold ints; simp [hi]
theorem ints_perm (n : Nat) : PermL n (ints n) := ⟨ints_len n, fun x hx => by have := mem_ints.1 hx; omega, (ints_incr n).imp (fun h => by omega)⟩
theorem ext_getD {a b : List Int} {n : Nat} (ha : a.length = n) (hb : b.length = n) (h : ∀ i, i < n → a[i]?.getD 0 = b[i]?.getD 0) : a = b := by
  apply List.ext_getElem (by omega)
  intro i h1 h2
  have := h i (by omega)
  rw [List.getElem?_eq_getElem h1, List.getElem?_eq_getElem h2] at this
  exact this
theorem mv_perm {g : Grid} (hv : Valid g) {p : List Int} (hp : p ∈ movesL g) : PermL g.cells.length p := by
  obtain ⟨m, hm, t, h⟩ := (mem_movesL hv p).1 hp
  refine ⟨h.1, fun x hx => ?_, mv_nodup hv (fun e => lin_inj _ _ e) h⟩
  obtain ⟨i, hi, rfl⟩ := List.mem_iff_getElem.1 hx
  obtain ⟨q, h1, h2, _⟩ := h.2 i (by rw [← h.1]; exact hi)
  rw [List.getElem?_eq_getElem hi] at h2
  simp only [Option.getD_some] at h2
  omega
/-- b is the inverse of p. -/
def InvL (n : Nat) (p b : List Int) : Prop := b.length = n ∧ ∀ i, i < n → ∀ a : Nat, p[i]?.getD 0 = a → b[a]?.getD 0 = i
theorem mv_inv {g : Grid} (hv : Valid g) {p b : List Int} (hp : p ∈ movesL g) (hb : InvL g.cells.length p b) : b ∈ movesL g := by
  have hP := mv_perm hv hp
  obtain ⟨m, hm, t, h⟩ := (mem_movesL hv p).1 hp
  obtain ⟨r, hr, hi⟩ := lin_inv hv.dims.1 hm
  refine (mem_movesL hv b).2 ⟨r, hr, subP (0, 0) (linMap g.shape r t), hb.1, fun q hq => ?_⟩
  obtain ⟨i, h1, h2⟩ := hP.surj hq
  obtain ⟨a, h3, h4, h5⟩ := h.2 i h1
  obtain rfl : a = q := by omega
  refine ⟨i, h1, hb.2 i h1 a h2, ?_⟩
  rw [h5, lin_addP, hi]
  unfold addP subP
  refine Prod.ext ?_ ?_ <;> simp only <;> omega
def CompL (n : Nat) (p q c : List Int) : Prop := c.length = n ∧ ∀ i, i < n → ∀ a : Nat, p[i]?.getD 0 = a → c[i]?.getD 0 = q[a]?.getD 0
theorem mv_comp {g : Grid} (hv : Valid g) {p q c : List Int} (hp : p ∈ movesL g) (hq : q ∈ movesL g) (hc : CompL g.cells.length p q c) : c ∈ movesL g := by
  obtain ⟨m, hm, t, h⟩ := (mem_movesL hv p).1 hp
  obtain ⟨m', hm', t', h'⟩ := (mem_movesL hv q).1 hq
  obtain ⟨r, hr, hi⟩ := lin_comp hv.dims.1 hm' hm
  refine (mem_movesL hv c).2 ⟨r, hr, addP (linMap g.shape m' t) t', hc.1, fun i h1 => ?_⟩
  obtain ⟨a, h3, h4, h5⟩ := h.2 i h1
  obtain ⟨b, h6, h7, h8⟩ := h'.2 a h3
  refine ⟨b, h6, by rw [hc.2 i h1 a h4, h7], ?_⟩
  rw [h8, h5, lin_addP, ← hi]
  unfold addP
  refine Prod.ext ?_ ?_ <;> simp only <;> omega
theorem mv_one {g : Grid} (hv : Valid g) : ints g.cells.length ∈ movesL g := by
  refine (mem_movesL hv _).2 ⟨0, linMany_pos _, (0, 0), ints_len _, fun i hi => ⟨i, hi, ints_get _ hi, ?_⟩⟩
  rw [lin_zero]; unfold addP; refine Prod.ext ?_ ?_ <;> simp only <;> omega
theorem less_split : ∀ {x y : List Int}, lessL x y = true → x.length = y.length → ∃ i, i < x.length ∧ x[i]?.getD 0 < y[i]?.getD 0 ∧ ∀ j, j < i → x[j]?.getD 0 = y[j]?.getD 0
  | [], [], h, _ => by simp [lessL] at h
  | [], _ :: _, _, h => by simp at h
  | _ :: _, [], _, h => by simp at h
  | a :: x, b :: y, h, hl => by
    unfold lessL at h
    by_cases h2 : a = b
    · rw [if_pos h2] at h
      obtain ⟨i, k1, k2, k3⟩ := less_split (x := x) (y := y) h (by simpa using hl)
      refine ⟨i + 1, by simpa using k1, by simpa using k2, fun j hj => ?_⟩
      cases j with
      | zero => simp; exact h2
      | succ j => simpa using k3 j (by omega)
    · rw [if_neg h2] at h
      exact ⟨0, by simp, by simpa using h, fun j hj => by omega⟩
theorem one_least {n : Nat} {p : List Int} (hp : PermL n p) : lessL p (ints n) = false := by
  cases hl : lessL p (ints n) with
  | false => rfl
  | true =>
    obtain ⟨i, h1, h2, h3⟩ := less_split hl (by rw [hp.len, ints_len])
    rw [hp.len] at h1
    obtain ⟨a, ha, e⟩ := hp.at h1
    rw [ints_get n h1] at h2
    have e2 := h3 a (by omega)
    rw [ints_get n ha] at e2
    have := hp.inj ha h1 (by omega)
    omega
theorem mv_first {g : Grid} (hv : Valid g) : 0 < (movesL g).length ∧ (movesL g)[0]?.getD [] = ints g.cells.length := by
  have hm := mv_one hv
  obtain ⟨j, hj, e⟩ := List.mem_iff_getElem.1 hm
  refine ⟨by omega, ?_⟩
  by_cases h0 : j = 0
  · subst h0; rw [List.getElem?_eq_getElem hj]; exact e
  · have h1 := List.pairwise_iff_getElem.1 (sortedL_incr (imagesL g)) 0 j (by unfold movesL at hj; omega) hj (by omega)
    have e' : (sortedL (imagesL g))[j]'hj = ints g.cells.length := e
    rw [e'] at h1
    have h2 := one_least (mv_perm hv (p := (movesL g)[0]'(by omega)) (List.getElem_mem _))
    unfold movesL at h2
    rw [h2] at h1; cases h1

/-! ### the border -/
theorem mv_shift {g g' : Grid} {T : Int × Int} (hs : g'.shape = g.shape) (hl : g'.cells.length = g.cells.length) (hp : ∀ i, i < g.cells.length → plc g' i = addP (plc g i) T) {k : Nat} {t : Int × Int} {p : List Int} (h : MvBy g (linMap g.shape k) t p) :
    MvBy g' (linMap g'.shape k) (addP t (subP T (linMap g.shape k T))) p := by
  refine ⟨by rw [hl]; exact h.1, fun i hi => ?_⟩
  rw [hl] at hi
  obtain ⟨q, h1, h2, h3⟩ := h.2 i hi
  refine ⟨q, by rw [hl]; exact h1, h2, ?_⟩
  rw [hp q h1, hp i hi, hs, lin_addP, h3]
  unfold addP subP
  refine Prod.ext ?_ ?_ <;> simp only <;> omega
theorem moves_shift {g g' : Grid} (hv : Valid g) (hv' : Valid g') {T : Int × Int} (hs : g'.shape = g.shape) (hl : g'.cells.length = g.cells.length) (hp : ∀ i, i < g.cells.length → plc g' i = addP (plc g i) T) : movesL g' = movesL g := by
  refine incrLL_ext (sortedL_incr _) (sortedL_incr _) fun p => ?_
  rw [mem_movesL hv', mem_movesL hv]
  constructor
  · rintro ⟨k, hk, t, h⟩
    exact ⟨k, by rw [← hs]; exact hk, _, mv_shift (T := subP (0, 0) T) hs.symm hl.symm (fun i hi => by
      rw [hp i (by omega)]; unfold addP subP; refine Prod.ext ?_ ?_ <;> simp only <;> omega) h⟩
  · rintro ⟨k, hk, t, h⟩
    exact ⟨k, by rw [hs]; exact hk, _, mv_shift hs hl hp h⟩
end Go.Proofs.Ytjiacdihfbbfjaa
