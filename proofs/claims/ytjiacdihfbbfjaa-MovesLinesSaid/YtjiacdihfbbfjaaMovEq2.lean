/- The program's images are the moves; so the program's list of moves is the reference's. No walk here. -/
import Derived.Test.YtjiacdihfbbfjaaMovEq
import Derived.Test.YtjiacdihfbbfjaaMov
namespace Go.Proofs.Ytjiacdihfbbfjaa
open Go.RowKit

theorem corner_fold : ∀ (r : List (Int × Int)) (c : Int × Int), ((r.foldl cornerStep c).1 ≤ c.1 ∧ (r.foldl cornerStep c).2 ≤ c.2 ∧ ∀ x ∈ r, (r.foldl cornerStep c).1 ≤ x.1 ∧ (r.foldl cornerStep c).2 ≤ x.2) ∧
    ((r.foldl cornerStep c).1 = c.1 ∨ ∃ x ∈ r, x.1 = (r.foldl cornerStep c).1) ∧ ((r.foldl cornerStep c).2 = c.2 ∨ ∃ x ∈ r, x.2 = (r.foldl cornerStep c).2)
  | [], c => ⟨⟨Int.le_refl _, Int.le_refl _, by simp⟩, .inl rfl, .inl rfl⟩
  | y :: r, c => by
    obtain ⟨⟨h1, h2, h3⟩, h4, h5⟩ := corner_fold r (cornerStep c y)
    rw [List.foldl_cons]
    generalize r.foldl cornerStep (cornerStep c y) = d at *
    unfold cornerStep at h1 h2 h4 h5
    simp only at h1 h2 h4 h5
    have k : d.1 ≤ c.1 ∧ d.1 ≤ y.1 ∧ d.2 ≤ c.2 ∧ d.2 ≤ y.2 := by clear h4 h5; omega
    clear h1 h2
    refine ⟨⟨k.1, k.2.2.1, fun x hx => ?_⟩, ?_, ?_⟩
    · rcases List.mem_cons.1 hx with rfl | hx
      · exact ⟨k.2.1, k.2.2.2⟩
      · exact h3 x hx
    · clear h5
      rcases h4 with h | ⟨x, hx, e⟩
      · by_cases hc : c.1 ≤ y.1
        · exact .inl (by omega)
        · exact .inr ⟨y, List.mem_cons_self .., by omega⟩
      · exact .inr ⟨x, List.mem_cons_of_mem _ hx, e⟩
    · clear h4
      rcases h5 with h | ⟨x, hx, e⟩
      · by_cases hc : c.2 ≤ y.2
        · exact .inl (by omega)
        · exact .inr ⟨y, List.mem_cons_self .., by omega⟩
      · exact .inr ⟨x, List.mem_cons_of_mem _ hx, e⟩
theorem corner_spec {l : List (Int × Int)} (hne : l ≠ []) : (∀ x ∈ l, (cornerL l).1 ≤ x.1 ∧ (cornerL l).2 ≤ x.2) ∧ (∃ x ∈ l, x.1 = (cornerL l).1) ∧ (∃ x ∈ l, x.2 = (cornerL l).2) := by
  cases l with
  | nil => exact absurd rfl hne
  | cons y r =>
    obtain ⟨⟨h1, h2, h3⟩, h4, h5⟩ := corner_fold (y :: r) y
    unfold cornerL
    simp only [List.headD_cons]
    refine ⟨h3, ?_, ?_⟩
    · rcases h4 with h | h
      · exact ⟨y, List.mem_cons_self .., h.symm⟩
      · exact h
    · rcases h5 with h | h
      · exact ⟨y, List.mem_cons_self .., h.symm⟩
      · exact h
theorem corner_shift {l m : List (Int × Int)} (t : Int × Int) (hl : l ≠ []) (hm : m ≠ []) (h1 : ∀ x ∈ l, addP x t ∈ m) (h2 : ∀ y ∈ m, ∃ x ∈ l, addP x t = y) : cornerL m = addP (cornerL l) t := by
  obtain ⟨a1, ⟨x1, a2, a3⟩, ⟨x2, a4, a5⟩⟩ := corner_spec hl
  obtain ⟨b1, ⟨y1, b2, b3⟩, ⟨y2, b4, b5⟩⟩ := corner_spec hm
  obtain ⟨z1, c1, c2⟩ := h2 y1 b2
  obtain ⟨z2, c3, c4⟩ := h2 y2 b4
  have d1 := b1 _ (h1 x1 a2)
  have d2 := b1 _ (h1 x2 a4)
  have d3 := a1 z1 c1
  have d4 := a1 z2 c3
  rw [← c2] at b3
  rw [← c4] at b5
  unfold addP at *
  simp only at *
  exact Prod.ext (by simp only; omega) (by simp only; omega)

theorem lookP_mem {l : List ((Int × Int) × Int)} {k : Int × Int} {i : Int} (h : lookP l k = some i) : (k, i) ∈ l := by
  unfold lookP at h
  cases hf : l.find? (fun x => x.1 == k) with
  | none => rw [hf] at h; simp at h
  | some x =>
    rw [hf] at h
    simp only [Option.map_some, Option.some.injEq] at h
    have h1 := List.mem_of_find?_eq_some hf
    have h2 := List.find?_some hf
    simp only [beq_iff_eq] at h2
    rw [← h, ← h2]; exact h1
theorem atUpto_apart {l : List (Int × Int)} (hn : l.Nodup) (c : Int × Int) : ∀ {k : Nat}, k ≤ l.length → (atUpto l c k).Pairwise (fun x y => x.1 ≠ y.1)
  | 0, _ => by simp [atUpto]
  | k + 1, h => by
    rw [atUpto_succ, List.pairwise_append]
    refine ⟨atUpto_apart hn c (by omega), by simp, fun x hx y hy => ?_⟩
    rw [List.mem_singleton.1 hy]
    exact atUpto_ne hn c (by omega) x hx
theorem mem_atL {g : Grid} {x : (Int × Int) × Int} : x ∈ atL g ↔ ∃ q : Nat, q < g.cells.length ∧ x = (subP (plc g q) (cornerL (fromL g)), (q : Int)) := by
  unfold atL atUpto
  simp only [List.mem_map, List.mem_range]
  constructor
  · rintro ⟨q, hq, rfl⟩; exact ⟨q, hq, by rw [from_plc g hq]; rfl⟩
  · rintro ⟨q, hq, rfl⟩; exact ⟨q, hq, by rw [from_plc g hq]; rfl⟩
theorem look_iff {g : Grid} (hv : Valid g) (key : Int × Int) (v : Int) : lookP (atL g) key = some v ↔ ∃ q : Nat, q < g.cells.length ∧ v = q ∧ subP (plc g q) (cornerL (fromL g)) = key := by
  constructor
  · intro h
    obtain ⟨q, hq, e⟩ := mem_atL.1 (lookP_mem h)
    simp only [Prod.mk.injEq] at e
    exact ⟨q, hq, e.2, e.1.symm⟩
  · rintro ⟨q, hq, rfl, rfl⟩
    have hm : (subP (plc g q) (cornerL (fromL g)), (q : Int)) ∈ atL g := mem_atL.2 ⟨q, hq, rfl⟩
    exact lookP_some (atUpto_apart hv.nodup _ (by rw [from_len]; exact Nat.le_refl _)) hm
theorem filterMap_all {α β : Type} {f : α → Option β} : ∀ {l : List α}, (l.filterMap f).length = l.length → ∀ i (h : i < l.length), f l[i] = (l.filterMap f)[i]?
  | [], _, i, h => by simp at h
  | a :: r, hl, i, h => by
    cases hf : f a with
    | none =>
      rw [List.filterMap_cons_none hf] at hl
      have := List.length_filterMap_le f r
      simp at hl; omega
    | some b =>
      rw [List.filterMap_cons_some hf] at hl ⊢
      cases i with
      | zero => simpa using hf
      | succ i => simpa using filterMap_all (l := r) (by simpa using hl) i (by simpa using h)
theorem filterMap_eq {α β : Type} {f : α → Option β} : ∀ {l : List α} {p : List β}, p.length = l.length → (∀ i (h : i < l.length), f l[i] = p[i]?) → l.filterMap f = p
  | [], [], _, _ => rfl
  | [], _ :: _, h, _ => by simp at h
  | _ :: _, [], h, _ => by simp at h
  | a :: r, b :: p, hl, h => by
    have h0 := h 0 (by simp)
    simp at h0
    rw [List.filterMap_cons_some h0, filterMap_eq (l := r) (p := p) (by simpa using hl) (fun i hi => by have := h (i + 1) (by simpa using hi); simpa using this)]

theorem nodup_le : ∀ (N : Nat) (l : List Int), l.Nodup → (∀ x ∈ l, 0 ≤ x ∧ x < (N : Int)) → l.length ≤ N
  | 0, [], _, _ => Nat.le_refl _
  | 0, x :: l, _, h => by have := h x (by simp); omega
  | N + 1, l, hn, h => by
    by_cases hm : (N : Int) ∈ l
    · have h1 := List.length_erase_of_mem hm
      have h2 := nodup_le N (l.erase (N : Int)) (hn.erase _) (fun x hx => by
        have hx' := (List.Nodup.mem_erase_iff hn).1 hx
        have := h x hx'.2
        have := hx'.1
        omega)
      have : 0 < l.length := List.length_pos_of_mem hm
      omega
    · have := nodup_le N l hn (fun x hx => by
        have := h x hx
        have : x ≠ N := fun e => hm (e ▸ hx)
        omega)
      omega
theorem mv_nodup {g : Grid} (hv : Valid g) {L : Int × Int → Int × Int} (hL : ∀ {p q}, L p = L q → p = q) {t : Int × Int} {p : List Int} (h : MvBy g L t p) : p.Nodup := by
  rw [List.Nodup, List.pairwise_iff_getElem]
  intro i j hi hj hij e
  rw [h.1] at hi hj
  obtain ⟨q, h1, h2, h3⟩ := h.2 i hi
  obtain ⟨q', h1', h2', h3'⟩ := h.2 j hj
  rw [List.getElem?_eq_getElem (by rw [h.1]; exact hi)] at h2
  rw [List.getElem?_eq_getElem (by rw [h.1]; exact hj)] at h2'
  simp only [Option.getD_some] at h2 h2'
  have : q = q' := by omega
  subst this
  rw [h3] at h3'
  unfold addP at h3'
  simp only [Prod.mk.injEq] at h3'
  have := plc_inj hv hi hj (hL (Prod.ext (by omega) (by omega)))
  omega
theorem mv_surj {g : Grid} (hv : Valid g) {L : Int × Int → Int × Int} (hL : ∀ {p q}, L p = L q → p = q) {t : Int × Int} {p : List Int} (h : MvBy g L t p) {q : Nat} (hq : q < g.cells.length) : ∃ i, i < g.cells.length ∧ p[i]?.getD 0 = q := by
  have hn := mv_nodup hv hL h
  by_cases hm : (q : Int) ∈ p
  · obtain ⟨i, hi, e⟩ := List.mem_iff_getElem.1 hm
    exact ⟨i, by rw [← h.1]; exact hi, by rw [List.getElem?_eq_getElem hi]; exact e⟩
  · have := nodup_le g.cells.length ((q : Int) :: p) (List.nodup_cons.2 ⟨hm, hn⟩) (fun x hx => by
      rcases List.mem_cons.1 hx with rfl | hx
      · omega
      · obtain ⟨i, hi, rfl⟩ := List.mem_iff_getElem.1 hx
        obtain ⟨q', h1, h2, _⟩ := h.2 i (by rw [← h.1]; exact hi)
        rw [List.getElem?_eq_getElem hi] at h2
        simp only [Option.getD_some] at h2
        omega)
    simp only [List.length_cons, h.1] at this
    omega
theorem to_get (g : Grid) (k : Nat) {i : Nat} (h : i < (toL g k).length) : (toL g k)[i] = linMap g.shape k (plc g i) := by
  have hi : i < (fromL g).length := by rw [toL_len] at h; rw [from_len]; exact h
  have h1 := toL_get g k i hi
  rw [List.getElem?_eq_getElem h, from_plc g (by rw [from_len] at hi; exact hi)] at h1
  simpa using h1
theorem img_iff {g : Grid} (hv : Valid g) {k : Nat} (p : List Int) : (imgL g k = p ∧ p.length = g.cells.length) ↔ ∃ t, MvBy g (linMap g.shape k) t p := by
  have hto : (toL g k).length = g.cells.length := toL_len g k
  constructor
  · rintro ⟨rfl, hl⟩
    have hall := filterMap_all (f := fun p => lookP (atL g) (subP p (cornerL (toL g k)))) (l := toL g k) (by rw [hto]; exact hl)
    refine ⟨subP (cornerL (fromL g)) (cornerL (toL g k)), hl, fun i hi => ?_⟩
    have h1 := hall i (by rw [hto]; exact hi)
    rw [to_get g k (by rw [hto]; exact hi)] at h1
    have h2 : (imgL g k)[i]? = some ((imgL g k)[i]?.getD 0) := by rw [List.getElem?_eq_getElem (by omega)]; rfl
    have h1' : lookP (atL g) (subP (linMap g.shape k (plc g i)) (cornerL (toL g k))) = (imgL g k)[i]? := h1
    rw [h2] at h1'
    obtain ⟨q, hq, e1, e2⟩ := (look_iff hv _ _).1 h1'
    refine ⟨q, hq, e1, ?_⟩
    unfold subP at e2
    simp only [Prod.mk.injEq] at e2
    unfold addP subP
    exact Prod.ext (by simp only; omega) (by simp only; omega)
  · rintro ⟨t, h⟩
    have hL : ∀ {p q}, linMap g.shape k p = linMap g.shape k q → p = q := fun e => lin_inj _ _ e
    have hpos := hv.pos
    have hcor : cornerL (fromL g) = addP (cornerL (toL g k)) t := by
      refine corner_shift t (by intro e; rw [e] at hto; simp at hto; omega) (by intro e; have := from_len g; rw [e] at this; simp at this; omega) (fun x hx => ?_) (fun y hy => ?_)
      · obtain ⟨i, hi, rfl⟩ := List.mem_iff_getElem.1 hx
        obtain ⟨q, h1, _, h3⟩ := h.2 i (by rw [← hto]; exact hi)
        rw [to_get g k hi, ← h3, ← from_plc g h1]
        exact getP_mem _ _ (by rw [from_len]; exact h1)
      · obtain ⟨q, hq, rfl⟩ := List.mem_iff_getElem.1 hy
        rw [from_len] at hq
        obtain ⟨i, hi, e⟩ := mv_surj hv hL h hq
        obtain ⟨q', h1, h2, h3⟩ := h.2 i hi
        have hqq : q' = q := by omega
        subst hqq
        refine ⟨linMap g.shape k (plc g i), ?_, ?_⟩
        · rw [← to_get g k (by rw [hto]; exact hi)]; exact List.getElem_mem _
        · rw [← h3, ← from_plc g hq, List.getElem?_eq_getElem (by rw [from_len]; exact hq)]; rfl
    refine ⟨?_, h.1⟩
    unfold imgL imgOf
    refine filterMap_eq (by rw [hto]; exact h.1) (fun i hi => ?_)
    have hi' : i < g.cells.length := by rw [← hto]; exact hi
    obtain ⟨q, h1, h2, h3⟩ := h.2 i hi'
    rw [to_get g k hi]
    have hpi : p[i]? = some (q : Int) := by rw [← h2, List.getElem?_eq_getElem (by rw [h.1]; exact hi')]; rfl
    rw [hpi]
    refine (look_iff hv _ _).2 ⟨q, h1, rfl, ?_⟩
    rw [h3, hcor]
    unfold subP addP
    exact Prod.ext (by simp only; omega) (by simp only; omega)

theorem mem_movesL {g : Grid} (hv : Valid g) (p : List Int) : p ∈ movesL g ↔ ∃ k, k < linMany g.shape ∧ ∃ t, MvBy g (linMap g.shape k) t p := by
  unfold movesL
  rw [mem_sortedL]
  unfold imagesL imagesUpto
  simp only [List.mem_filter, List.mem_map, List.mem_range, beq_iff_eq]
  constructor
  · rintro ⟨⟨k, hk, rfl⟩, hl⟩; exact ⟨k, hk, (img_iff hv _).1 ⟨rfl, hl⟩⟩
  · rintro ⟨k, hk, h⟩
    obtain ⟨e, hl⟩ := (img_iff hv p).2 h
    exact ⟨⟨k, hk, e⟩, hl⟩
theorem mem_refRow {g : Grid} {k : Nat} {out : List (List Int)} {p : List Int} : ∀ j, p ∈ refRow g k j out ↔ p ∈ out ∨ ∃ i, i < j ∧ refImg g k i = some p
  | 0 => by simp [refRow]
  | j + 1 => by
    rw [refRow_succ]
    unfold addImg
    have ih := mem_refRow (g := g) (k := k) (out := out) (p := p) j
    cases hj : refImg g k j with
    | none =>
      simp only [ih]
      constructor
      · rintro (h | ⟨i, h1, h2⟩)
        · exact .inl h
        · exact .inr ⟨i, by omega, h2⟩
      · rintro (h | ⟨i, h1, h2⟩)
        · exact .inl h
        · by_cases e : i = j
          · subst e; rw [hj] at h2; cases h2
          · exact .inr ⟨i, by omega, h2⟩
    | some q =>
      simp only [mem_insL, ih]
      constructor
      · rintro ((h | ⟨i, h1, h2⟩) | rfl)
        · exact .inl h
        · exact .inr ⟨i, by omega, h2⟩
        · exact .inr ⟨j, by omega, hj⟩
      · rintro (h | ⟨i, h1, h2⟩)
        · exact .inl (.inl h)
        · by_cases e : i = j
          · subst e; rw [hj] at h2; injection h2 with h2; exact .inr h2.symm
          · exact .inl (.inr ⟨i, by omega, h2⟩)
theorem mem_refUpto {g : Grid} {p : List Int} : ∀ k, p ∈ refUpto g k ↔ ∃ i, i < k ∧ ∃ j, j < g.cells.length ∧ refImg g i j = some p
  | 0 => by simp [refUpto]
  | k + 1 => by
    rw [refUpto_succ, mem_refRow, mem_refUpto k]
    constructor
    · rintro (⟨i, h1, h2⟩ | ⟨j, h1, h2⟩)
      · exact ⟨i, by omega, h2⟩
      · exact ⟨k, by omega, j, h1, h2⟩
    · rintro ⟨i, h1, j, h2, h3⟩
      by_cases e : i = k
      · subst e; exact .inr ⟨j, h2, h3⟩
      · exact .inl ⟨i, by omega, j, h2, h3⟩
theorem mem_refMovesL {g : Grid} (hv : Valid g) (p : List Int) : p ∈ refMovesL g ↔ ∃ k, k < linMany g.shape ∧ ∃ t, MvBy g (refLin g.shape k) t p := by
  unfold refMovesL
  rw [mem_refUpto]
  constructor
  · rintro ⟨k, hk, j, hj, h⟩; exact ⟨k, hk, _, (refImg_iff hv k j p).1 h⟩
  · rintro ⟨k, hk, t, h⟩
    obtain ⟨q, h1, h2, h3⟩ := h.2 0 hv.pos
    refine ⟨k, hk, q, h1, (refImg_iff hv k q p).2 ?_⟩
    have e : ((plc g q).1 - (refLin g.shape k (plc g 0)).1, (plc g q).2 - (refLin g.shape k (plc g 0)).2) = t := by
      rw [h3]; unfold addP; exact Prod.ext (by simp only; omega) (by simp only; omega)
    rw [e]; exact h
/-- THE TWO LISTS OF MOVES ARE ONE. -/
theorem moves_eq {g : Grid} (hv : Valid g) : movesL g = refMovesL g := by
  refine incrLL_ext (sortedL_incr _) (refUpto_incr g _) fun p => ?_
  have hs := hv.dims.1
  rw [mem_movesL hv, mem_refMovesL hv]
  constructor
  · rintro ⟨k, hk, t, h⟩
    obtain ⟨k', hk', e⟩ := lin_ref hs k hk
    exact ⟨k', hk', t, by rw [← e]; exact h⟩
  · rintro ⟨k, hk, t, h⟩
    obtain ⟨k', hk', e⟩ := ref_lin hs k hk
    exact ⟨k', hk', t, by rw [e]; exact h⟩
theorem movesOut_eq (g : Grid) : movesOut g = refOut g := by
  unfold movesOut refOut
  rcases checkErr_cases g with ⟨he, hv⟩ | ⟨he, _⟩
  · rw [if_pos he, if_pos he, moves_eq hv]
  · rw [if_neg (by omega), if_neg (by omega)]
end Go.Proofs.Ytjiacdihfbbfjaa
