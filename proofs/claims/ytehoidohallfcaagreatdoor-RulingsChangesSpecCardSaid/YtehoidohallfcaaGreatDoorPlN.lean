/- What RulingsExact says, in plain words. -/
import Derived.Test.YtehoidohallfcaaGreatDoorPlM
namespace Go.Proofs.YtehoidohallfcaaGreatDoor
section
variable {G : Type} {s : Sh} {l : List Rs} {fs : List (Ft G)} {d : Int}
def plTo (t : List Int) (x : Int) (k : Nat) : Int := (((t.take k).filter fun y => decide (y < x)).length : Int) + 1
theorem plTo_0 (t : List Int) (x : Int) : plTo t x 0 = 1 := by simp [plTo]
theorem plTo_step {t : List Int} {x y : Int} {k : Nat} (h : t[k]? = some y) : plTo t x (k + 1) = if y < x then plTo t x k + 1 else plTo t x k := by
 obtain ⟨hk, e⟩ := List.getElem?_eq_some_iff.1 h
 unfold plTo
 rw [List.take_succ_eq_append_getElem hk, e, List.filter_append, List.length_append]
 by_cases hy : y < x
 · rw [if_pos hy]; simp [hy]
 · rw [if_neg hy]; simp [hy]
theorem plTo_all (t : List Int) (x : Int) {k : Nat} (h : t.length ≤ k) : plTo t x k = (lessN t x : Int) + 1 := by
 unfold plTo lessN; rw [List.take_of_length_le h]
theorem plTo_bd (t : List Int) (x : Int) (k : Nat) : 1 ≤ plTo t x k ∧ plTo t x k ≤ k + 1 := by
 unfold plTo
 have h1 := List.length_filter_le (fun y => decide (y < x)) (t.take k)
 rw [List.length_take] at h1
 omega
theorem places_get {t : List Int} {i : Nat} {x : Int} (h : t[i]? = some x) : (placesL t)[i]? = some (plTo t x t.length) := by
 unfold placesL
 rw [List.getElem?_map, h, plTo_all t x (Nat.le_refl _)]; rfl
end
def capI (x y : Int) : Int := if x ≤ topI / y then x * y else topI
theorem times_zero {a b : Int} (h : a = 0 ∨ b = 0) : timesI a b = 0 := by
 unfold timesI
 rw [if_neg]
 · rcases h with rfl | rfl <;> simp
 · rintro ⟨h1, h2⟩
   rcases h with rfl | rfl
   · have : (0 : Int) ≤ topI / max b (-b) := Int.ediv_nonneg (by unfold topI; omega) (by omega)
     simp at h2; omega
   · exact h1 rfl
theorem times_pos {a b : Int} (_ha : a ≠ 0) (hb : b ≠ 0) : timesI a b = if decide (a < 0) ≠ decide (b < 0) then -(capI (max a (-a)) (max b (-b))) else capI (max a (-a)) (max b (-b)) := by
 unfold timesI capI
 by_cases h : max a (-a) ≤ topI / max b (-b)
 · rw [if_neg (fun h2 => by omega), if_pos h]
   by_cases h1 : a < 0
   · rw [decide_eq_true h1]
     by_cases h2 : b < 0
     · rw [decide_eq_true h2, if_neg (fun h => h rfl), show max a (-a) = -a by omega, show max b (-b) = -b by omega, Int.neg_mul_neg]
     · rw [decide_eq_false h2, if_pos (by decide), show max a (-a) = -a by omega, show max b (-b) = b by omega, Int.neg_mul, Int.neg_neg]
   · rw [decide_eq_false h1]
     by_cases h2 : b < 0
     · rw [decide_eq_true h2, if_pos (by decide), show max a (-a) = a by omega, show max b (-b) = -b by omega, Int.mul_neg, Int.neg_neg]
     · rw [decide_eq_false h2, if_neg (fun h => h rfl), show max a (-a) = a by omega, show max b (-b) = b by omega]
 · rw [if_pos ⟨hb, by omega⟩, if_neg h]
theorem cap_bd {x y : Int} (hx : 0 ≤ x) (hy : 0 < y) : 0 ≤ capI x y ∧ capI x y ≤ topI := by
 have ht : 0 ≤ topI := by unfold topI; omega
 unfold capI
 split
 · rename_i h
   exact ⟨Int.mul_nonneg hx (Int.le_of_lt hy), Int.le_trans (Int.mul_le_mul_of_nonneg_right h (Int.le_of_lt hy)) (Int.ediv_mul_le _ (by omega))⟩
 · omega
theorem over_ref (a b : Int) (hb : b ≠ 0) : overI a b = if a.tdiv b * b ≠ a ∧ decide (a < 0) ≠ decide (b < 0) then a.tdiv b - 1 else a.tdiv b := by
 unfold overI
 rw [if_neg hb]
 have h : a.tmod b ≠ 0 ↔ a.tdiv b * b ≠ a := by
  have := Int.tmod_add_tdiv_mul a b
  constructor
  · intro h1 h2; exact h1 (by omega)
  · intro h1 h2; exact h1 (by omega)
 by_cases h1 : a.tmod b ≠ 0 ∧ decide (a < 0) ≠ decide (b < 0)
 · rw [if_pos h1, if_pos ⟨h.1 h1.1, h1.2⟩]
 · rw [if_neg h1, if_neg (fun h2 => h1 ⟨h.2 h2.1, h2.2⟩)]
def atL (x : List Int) : List (List Int) → Nat
 | [] => 0
 | a :: t => if ltP a x then atL x t + 1 else 0
theorem atL_le (x : List Int) : ∀ l, atL x l ≤ l.length
 | [] => Nat.le_refl _
 | a :: t => by unfold atL; split; have := atL_le x t; simp; omega; simp
theorem atL_before {x : List Int} : ∀ {l : List (List Int)} {k : Nat} {a : List Int}, k < atL x l → l[k]? = some a → ltP a x = true
 | [], k, a, _, h => by simp at h
 | b :: t, k, a, hk, h => by
  unfold atL at hk
  split at hk
  · rename_i hb
    cases k with
    | zero => simp only [List.getElem?_cons_zero, Option.some.injEq] at h; rw [← h]; exact hb
    | succ k => exact atL_before (l := t) (k := k) (by omega) (by simpa using h)
  · omega
theorem atL_at {x : List Int} : ∀ {l : List (List Int)} {a : List Int}, l[atL x l]? = some a → ltP a x = false
 | [], a, h => by simp at h
 | b :: t, a, h => by
  unfold atL at h
  split at h
  · exact atL_at (l := t) (by simpa using h)
  · rename_i hb; simp only [List.getElem?_cons_zero, Option.some.injEq] at h; rw [← h]; simpa using hb
theorem atL_is {x : List Int} : ∀ {l : List (List Int)} {k : Nat}, (∀ i a, i < k → l[i]? = some a → ltP a x = true) → k ≤ l.length → (∀ a, l[k]? = some a → ltP a x = false) → atL x l = k
 | [], k, _, hk, _ => by simp at hk; subst hk; rfl
 | a :: t, 0, _, _, h => by unfold atL; rw [if_neg (by rw [h a rfl]; decide)]
 | a :: t, k + 1, h1, hk, h => by
  unfold atL
  rw [if_pos (h1 0 a (by omega) rfl), atL_is (l := t) (k := k) (fun i b hi hb => h1 (i + 1) b (by omega) (by simpa using hb)) (by simpa using hk) (fun b hb => h b (by simpa using hb))]
def intoL (l : List (List Int)) (x : List Int) : List (List Int) := if l[atL x l]? = some x then l else l.take (atL x l) ++ x :: l.drop (atL x l)
theorem intoL_ins (l : List (List Int)) (x : List Int) : l.take (atL x l) ++ x :: l.drop (atL x l) = insP x l :=
 (insP_at l (atL x l) (fun _ _ hi ha => atL_before hi ha) (atL_le x l) (fun _ ha => atL_at ha)).symm
theorem mem_intoL {l : List (List Int)} {x y : List Int} : y ∈ intoL l x ↔ y = x ∨ y ∈ l := by
 unfold intoL
 split
 · rename_i h
   exact ⟨.inr, fun h2 => h2.elim (fun e => e ▸ List.mem_of_getElem? h) id⟩
 · rw [intoL_ins, mem_insP]
theorem intoL_inc {l : List (List Int)} {x : List Int} (h : Inc l) : Inc (intoL l x) := by
 unfold intoL
 split
 · exact h
 · rename_i hn
   rw [intoL_ins]
   refine insP_inc h fun hx => hn ?_
   obtain ⟨k, hk, e⟩ := List.mem_iff_getElem.1 hx
   have : atL x l = k := by
    refine atL_is (fun i a hi ha => ?_) (by omega) (fun a ha => ?_)
    · obtain ⟨hi2, rfl⟩ := List.getElem?_eq_some_iff.1 ha
      rw [← e]; exact List.pairwise_iff_getElem.1 h i k hi2 hk hi
    · rw [List.getElem?_eq_getElem hk, e] at ha
      injection ha with ha; subst ha; exact ltP_irrefl _
   rw [this, List.getElem?_eq_getElem hk, e]
theorem intoL_len (l : List (List Int)) (x : List Int) : (intoL l x).length ≤ l.length + 1 := by
 unfold intoL
 split
 · omega
 · rw [intoL_ins, insP_len]; omega
def tmPut (a b : Int) (out : List Int) (t : Int) : List Int := if a ≤ t ∧ t ≤ b ∧ t ∉ out then out ++ [t] else out
def tmRow (a b lo : Int) (out : List Int) : Nat → List Int
 | 0 => out
 | d + 1 => tmPut a b (tmRow a b lo out d) (lo + (d : Int))
def tmTo (iv : Iv) (i : Nat) : Nat → List Int
 | 0 => []
 | k + 1 => tmRow (ivLo iv i) (ivHi iv i) (ivLo iv k) (tmTo iv i k) iv.length
def tmL (iv : Iv) (i : Nat) : List Int := tmTo iv i iv.length
theorem mem_tmPut {a b t y : Int} {out : List Int} : y ∈ tmPut a b out t ↔ y ∈ out ∨ y = t ∧ a ≤ t ∧ t ≤ b := by
 unfold tmPut
 split
 · rename_i h; rw [List.mem_append, List.mem_singleton]
   exact ⟨fun h2 => h2.elim .inl fun e => .inr ⟨e, h.1, h.2.1⟩, fun h2 => h2.elim .inl fun e => .inr e.1⟩
 · rename_i h
   refine ⟨.inl, fun h2 => h2.elim id fun ⟨e, h3, h4⟩ => ?_⟩
   rw [e]; exact Classical.byContradiction fun h5 => h ⟨h3, h4, h5⟩
theorem tmPut_len (a b t : Int) (out : List Int) : (tmPut a b out t).length ≤ out.length + 1 := by unfold tmPut; split <;> simp
theorem mem_tmRow {a b lo y : Int} {out : List Int} : ∀ {n : Nat}, y ∈ tmRow a b lo out n ↔ y ∈ out ∨ ∃ d : Nat, d < n ∧ y = lo + d ∧ a ≤ y ∧ y ≤ b
 | 0 => by simp [tmRow]
 | n + 1 => by
  unfold tmRow
  rw [mem_tmPut, mem_tmRow]
  constructor
  · rintro ((h | ⟨d, h1, h2⟩) | ⟨h1, h2, h3⟩)
    · exact .inl h
    · exact .inr ⟨d, by omega, h2⟩
    · exact .inr ⟨n, by omega, h1, by omega, by omega⟩
  · rintro (h | ⟨d, h1, h2, h3, h4⟩)
    · exact .inl (.inl h)
    · by_cases e : d = n
      · subst e; exact .inr ⟨h2, by omega, by omega⟩
      · exact .inl (.inr ⟨d, by omega, h2, h3, h4⟩)
theorem tmRow_len (a b lo : Int) (out : List Int) : ∀ n, (tmRow a b lo out n).length ≤ out.length + n
 | 0 => Nat.le_refl _
 | n + 1 => by unfold tmRow; have := tmRow_len a b lo out n; have := tmPut_len a b (lo + (n : Int)) (tmRow a b lo out n); omega
theorem mem_tmTo {iv : Iv} {i : Nat} {y : Int} : ∀ {n : Nat}, y ∈ tmTo iv i n ↔ (∃ k d : Nat, k < n ∧ d < iv.length ∧ y = ivLo iv k + d) ∧ ivLo iv i ≤ y ∧ y ≤ ivHi iv i
 | 0 => by simp [tmTo]
 | n + 1 => by
  unfold tmTo
  rw [mem_tmRow, mem_tmTo]
  constructor
  · rintro (⟨⟨k, d, h1, h2⟩, h3⟩ | ⟨d, h1, h2, h3⟩)
    · exact ⟨⟨k, d, by omega, h2⟩, h3⟩
    · exact ⟨⟨n, d, by omega, h1, h2⟩, h3⟩
  · rintro ⟨⟨k, d, h1, h2, h3⟩, h4⟩
    by_cases e : k = n
    · subst e; exact .inr ⟨d, h2, h3, h4⟩
    · exact .inl ⟨⟨k, d, by omega, h2, h3⟩, h4⟩
theorem tmTo_len (iv : Iv) (i : Nat) : ∀ n, (tmTo iv i n).length ≤ n * iv.length
 | 0 => by simp [tmTo]
 | n + 1 => by unfold tmTo; have := tmTo_len iv i n; have := tmRow_len (ivLo iv i) (ivHi iv i) (ivLo iv n) (tmTo iv i n) iv.length; rw [Nat.add_mul]; omega
theorem tmL_len (iv : Iv) (i : Nat) : (tmL iv i).length ≤ iv.length * iv.length := tmTo_len iv i _
def allTo (iv : Iv) : Nat → List (List Int)
 | 0 => [[]]
 | i + 1 => (allTo iv i).flatMap fun x => (tmL iv i).map fun t => x ++ [t]
theorem mem_allTo {iv : Iv} {x : List Int} : ∀ {n : Nat}, x ∈ allTo iv n ↔ x.length = n ∧ ∀ j, j < n → x.getD j 0 ∈ tmL iv j
 | 0 => by simp [allTo]
 | n + 1 => by
  unfold allTo
  rw [List.mem_flatMap]
  constructor
  · rintro ⟨y, hy, hx⟩
    obtain ⟨t, ht, rfl⟩ := List.mem_map.1 hx
    obtain ⟨h1, h2⟩ := mem_allTo.1 hy
    refine ⟨by simp [h1], fun j hj => ?_⟩
    by_cases e : j = n
    · subst e
      rw [List.getD_eq_getElem?_getD, List.getElem?_append_right (by omega), h1]
      simpa using ht
    · rw [List.getD_eq_getElem?_getD, List.getElem?_append_left (by omega), ← List.getD_eq_getElem?_getD]
      exact h2 j (by omega)
  · rintro ⟨h1, h2⟩
    have e : x = x.take n ++ [x.getD n 0] := by
     rw [List.getD_eq_getElem?_getD, List.getElem?_eq_getElem (by omega), Option.getD_some]
     rw [← List.take_succ_eq_append_getElem (by omega), List.take_of_length_le (by omega)]
    refine ⟨x.take n, mem_allTo.2 ⟨by simp; omega, fun j hj => ?_⟩, List.mem_map.2 ⟨x.getD n 0, h2 n (by omega), e.symm⟩⟩
    rw [List.getD_eq_getElem?_getD, List.getElem?_take, if_pos hj, ← List.getD_eq_getElem?_getD]
    exact h2 j (by omega)
theorem flatMap_le {α β : Type} {f : α → List β} {m : Nat} : ∀ {l : List α}, (∀ x, (f x).length ≤ m) → (l.flatMap f).length ≤ l.length * m
 | [], _ => by simp
 | x :: l, h => by
  rw [List.flatMap_cons, List.length_append, List.length_cons, Nat.add_mul]
  have := flatMap_le (l := l) h
  have := h x; omega
theorem allTo_len (iv : Iv) : ∀ n, (allTo iv n).length ≤ (iv.length * iv.length) ^ n
 | 0 => by simp [allTo]
 | n + 1 => by
  unfold allTo
  rw [Nat.pow_succ]
  refine Nat.le_trans (flatMap_le (m := iv.length * iv.length) fun x => ?_) (Nat.mul_le_mul_right _ (allTo_len iv n))
  rw [List.length_map]; exact tmL_len iv n
theorem fit_of_all {iv : Iv} {x : List Int} (h : x ∈ allTo iv iv.length) : FitT iv x := by
 obtain ⟨h1, h2⟩ := mem_allTo.1 h
 exact ⟨h1, fun i hi => (mem_tmTo.1 (h2 i hi)).2⟩
theorem all_of_can {iv : Iv} {x : List Int} (h : FitT iv x) (hc : CanT iv x) : x ∈ allTo iv iv.length :=
 mem_allTo.2 ⟨h.1, fun i hi => mem_tmTo.2 ⟨hc i hi, h.2 i hi⟩⟩
def posTo (_iv : Iv) (xs : List (List Int)) : List (List Int) := xs.foldl (fun o t => intoL o (placesL t)) []
theorem posTo_snoc (iv : Iv) (xs : List (List Int)) (t : List Int) : posTo iv (xs ++ [t]) = intoL (posTo iv xs) (placesL t) := by unfold posTo; rw [List.foldl_append]; rfl
theorem posTo_inc (iv : Iv) (xs : List (List Int)) : Inc (posTo iv xs) ∧ ∀ y, y ∈ posTo iv xs ↔ ∃ t ∈ xs, y = placesL t := by
 have h : ∀ (xs o : List (List Int)), Inc o → Inc (xs.foldl (fun o t => intoL o (placesL t)) o) ∧ ∀ y, y ∈ xs.foldl (fun o t => intoL o (placesL t)) o ↔ y ∈ o ∨ ∃ t ∈ xs, y = placesL t := by
  intro xs
  induction xs with
  | nil => intro o ho; exact ⟨ho, fun y => by simp⟩
  | cons t xs ih =>
   intro o ho
   rw [List.foldl_cons]
   obtain ⟨h1, h2⟩ := ih (intoL o (placesL t)) (intoL_inc ho)
   refine ⟨h1, fun y => ?_⟩
   rw [h2, mem_intoL]
   constructor
   · rintro ((e | h) | ⟨u, hu, e⟩)
     · exact .inr ⟨t, List.mem_cons_self .., e⟩
     · exact .inl h
     · exact .inr ⟨u, List.mem_cons_of_mem _ hu, e⟩
   · rintro (h | ⟨u, hu, e⟩)
     · exact .inl (.inr h)
     · rcases List.mem_cons.1 hu with rfl | hu
       · exact .inl (.inl e)
       · exact .inr ⟨u, hu, e⟩
 obtain ⟨h1, h2⟩ := h xs [] .nil
 exact ⟨h1, fun y => by rw [show posTo iv xs = xs.foldl (fun o t => intoL o (placesL t)) [] from rfl, h2]; simp⟩
def posR (iv : Iv) : List (List Int) := posTo iv (allTo iv iv.length)
theorem posR_inc (iv : Iv) : Inc (posR iv) := (posTo_inc iv _).1
theorem mem_posR {iv : Iv} (hok : OkIv iv) (y : List Int) : y ∈ posR iv ↔ y ∈ posL iv := by
 unfold posR
 rw [(posTo_inc iv _).2]
 constructor
 · rintro ⟨t, ht, rfl⟩; exact posL_complete hok (fit_of_all ht)
 · intro h
   obtain ⟨t, h1, h2, h3⟩ := posL_sound hok h
   exact ⟨t, all_of_can h1 h2, h3⟩
theorem posR_len {iv : Iv} (hok : OkIv iv) (h : iv.length ≤ 4) : (posR iv).length ≤ 75 :=
 Nat.le_trans (len_le_of_sub _ _ (posR_inc iv).nodup fun x hx => (mem_posR hok x).1 hx) (posL_len h)
theorem places_len (t : List Int) : (placesL t).length = t.length := by simp [placesL]
theorem posR_each {iv : Iv} {y : List Int} (h : y ∈ posR iv) : y.length = iv.length := by
 obtain ⟨t, ht, rfl⟩ := ((posTo_inc iv _).2 y).1 h
 rw [places_len, (mem_allTo.1 ht).1]
theorem lessN_le (t : List Int) (x : Int) : lessN t x ≤ t.length := List.length_filter_le _ _
theorem places_bd {t : List Int} {x : Int} (h : x ∈ placesL t) : 1 ≤ x ∧ x ≤ t.length + 1 := by
 obtain ⟨y, _, rfl⟩ := List.mem_map.1 h
 have := lessN_le t y; omega
theorem posR_bd {iv : Iv} {y : List Int} (h : y ∈ posR iv) : ∀ x ∈ y, 1 ≤ x ∧ x ≤ iv.length + 1 := fun x hx => by
 obtain ⟨t, ht, rfl⟩ := ((posTo_inc iv _).2 y).1 h
 have := places_bd hx
 rw [(mem_allTo.1 ht).1] at this
 exact this
section
variable {s : Sh} {l : List Rs} {p : Nat} {out pos next : List (List Int)} {i k : Nat}
structure Mo (s : Sh) (l : List Rs) (p : Nat) (out pos : List (List Int)) (i k : Nat) (next : List (List Int)) : Prop where
 inc : Inc next
 mem : ∀ x, x ∈ next ↔ ∃ a b t q, out[a]? = some t ∧ pos[b]? = some q ∧ (a < i ∨ a = i ∧ b < k) ∧ x = addT s l p q t
theorem Mo.start : Mo s l p out pos 0 0 [] := ⟨.nil, fun x => by
 constructor
 · intro h; cases h
 · rintro ⟨a, b, t, q, _, _, h, _⟩; omega⟩
theorem Mo.step (h : Mo s l p out pos i k next) {t q : List Int} (ht : out[i]? = some t) (hq : pos[k]? = some q) : Mo s l p out pos i (k + 1) (intoL next (addT s l p q t)) := ⟨intoL_inc h.inc, fun x => by
 rw [mem_intoL, h.mem]
 constructor
 · rintro (e | ⟨a, b, t', q', h1, h2, h3, h4⟩)
   · exact ⟨i, k, t, q, ht, hq, .inr ⟨rfl, by omega⟩, e⟩
   · exact ⟨a, b, t', q', h1, h2, by omega, h4⟩
 · rintro ⟨a, b, t', q', h1, h2, h3, h4⟩
   by_cases e : a = i ∧ b = k
   · obtain ⟨rfl, rfl⟩ := e
     rw [h1] at ht; rw [h2] at hq
     injection ht with ht; injection hq with hq
     subst ht; subst hq; exact .inl h4
   · exact .inr ⟨a, b, t', q', h1, h2, by omega, h4⟩⟩
theorem Mo.row (h : Mo s l p out pos i pos.length next) : Mo s l p out pos (i + 1) 0 next := ⟨h.inc, fun x => by
 rw [h.mem]
 constructor
 · rintro ⟨a, b, t, q, h1, h2, h3, h4⟩
   exact ⟨a, b, t, q, h1, h2, by omega, h4⟩
 · rintro ⟨a, b, t, q, h1, h2, h3, h4⟩
   have := (List.getElem?_eq_some_iff.1 h2).1
   exact ⟨a, b, t, q, h1, h2, by omega, h4⟩⟩
theorem mem_step' (al : List (List Int)) (x : List Int) : x ∈ stepL s l p al ↔ ∃ q ∈ posL (ivOf l (cntL l p)), ∃ t ∈ al, x = addT s l p q t := by
 unfold stepL
 rw [mem_dedup, List.mem_flatMap]
 constructor
 · rintro ⟨q, hq, hx⟩
   obtain ⟨t, ht, e⟩ := List.mem_map.1 hx
   exact ⟨q, hq, t, ht, e.symm⟩
 · rintro ⟨q, hq, t, ht, e⟩
   exact ⟨q, hq, List.mem_map.2 ⟨t, ht, e.symm⟩⟩
def ordS (s : Sh) (l : List Rs) (p : Nat) : Option (List (List Int)) := (ordTo s l s.cs.toNat p).map sortP
theorem ordS_0 : ordS s l 0 = some [List.replicate s.cs.toNat 0] := rfl
theorem ordS_some {out : List (List Int)} (h : ordS s l p = some out) : ∃ al, ordTo s l s.cs.toNat p = some al ∧ out = sortP al := by
 unfold ordS at h
 cases e : ordTo s l s.cs.toNat p with
 | none => rw [e] at h; cases h
 | some al => rw [e, Option.map_some] at h; injection h with h; exact ⟨al, rfl, h.symm⟩
theorem Mo.many (h : Mo s l p out (posR (ivOf l (cntL l p))) i k next) (hok : OkIv (ivOf l (cntL l p))) (ho : ordS s l p = some out) (hb : 4096 < next.length) : ordS s l (p + 1) = none := by
 obtain ⟨al, h1, rfl⟩ := ordS_some ho
 have hsub : next.length ≤ (stepL s l p al).length := len_le_of_sub next _ h.inc.nodup fun x hx => by
  rw [mem_step']
  obtain ⟨a, b, t, q, e1, e2, _, e4⟩ := (h.mem x).1 hx
  exact ⟨q, (mem_posR hok q).1 (List.mem_of_getElem? e2), t, (mem_sortP al).1 (List.mem_of_getElem? e1), e4⟩
 unfold ordS ordTo
 rw [h1]
 simp only
 rw [if_pos (by omega)]; rfl
theorem Mo.all (h : Mo s l p out (posR (ivOf l (cntL l p))) out.length 0 next) (hok : OkIv (ivOf l (cntL l p))) (ho : ordS s l p = some out) (hb : next.length ≤ 4096) : ordS s l (p + 1) = some next := by
 obtain ⟨al, h1, rfl⟩ := ordS_some ho
 have hm : ∀ x, x ∈ next ↔ x ∈ stepL s l p al := fun x => by
  rw [mem_step', h.mem]
  constructor
  · rintro ⟨a, b, t, q, e1, e2, _, e4⟩
    exact ⟨q, (mem_posR hok q).1 (List.mem_of_getElem? e2), t, (mem_sortP al).1 (List.mem_of_getElem? e1), e4⟩
  · rintro ⟨q, hq, t, ht, e⟩
    obtain ⟨a, ha⟩ := List.mem_iff_getElem?.1 ((mem_sortP al).2 ht)
    obtain ⟨b, hb⟩ := List.mem_iff_getElem?.1 ((mem_posR hok q).2 hq)
    exact ⟨a, b, t, q, ha, hb, .inl (List.getElem?_eq_some_iff.1 ha).1, e⟩
 have hlen : (stepL s l p al).length ≤ next.length := len_le_of_sub _ _ (nodup_dedup _) fun x hx => (hm x).2 hx
 unfold ordS ordTo
 rw [h1]
 simp only
 rw [if_neg (by omega), Option.map_some]
 exact congrArg some (sortP_uniq (nodup_dedup _) h.inc hm).symm
theorem ordS_none {m : Nat} (h : ordS s l p = none) (hp : p ≤ m) : ordS s l m = none := by
 induction m with
 | zero => obtain rfl : p = 0 := by omega
           exact h
 | succ m ih =>
  by_cases e : p = m + 1
  · subst e; exact h
  · have := ih (by omega)
    unfold ordS at this ⊢
    rw [Option.map_eq_none_iff] at this ⊢
    unfold ordTo; rw [this]
theorem ordS_ordO : ordO s l = ordS s l s.ps.toNat := rfl
end
end Go.Proofs.YtehoidohallfcaaGreatDoor
