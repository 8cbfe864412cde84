/- Permutations as lists of numbers, in plain Lean. No program in sight. -/
namespace Go.Proofs.Ytkekkbbdhdamjaa

theorem len_le_of_sub {α : Type} [DecidableEq α] : ∀ (l m : List α), l.Nodup → (∀ x ∈ l, x ∈ m) → l.length ≤ m.length
  | [], _, _, _ => Nat.zero_le _
  | x :: l, m, hn, hs => by
    rw [List.nodup_cons] at hn
    have hx : x ∈ m := hs x (List.mem_cons_self ..)
    have ih := len_le_of_sub l (m.erase x) hn.2 (fun y hy => by
      have hne : y ≠ x := fun e => hn.1 (e ▸ hy)
      exact (List.mem_erase_of_ne hne).2 (hs y (List.mem_cons_of_mem _ hy)))
    rw [List.length_erase_of_mem hx] at ih
    have : 0 < m.length := List.length_pos_of_mem hx
    simp only [List.length_cons]; omega
/-- Of equal length, one within the other: the same members. -/
theorem mem_of_len {α : Type} [DecidableEq α] {l m : List α} (hn : l.Nodup) (hs : ∀ x ∈ l, x ∈ m) (hl : m.length ≤ l.length) {y : α} (hy : y ∈ m) : y ∈ l := by
  refine Classical.byContradiction fun h => ?_
  have := len_le_of_sub (y :: l) m (List.nodup_cons.2 ⟨h, hn⟩) (fun x hx => by
    rcases List.mem_cons.1 hx with rfl | hx
    · exact hy
    · exact hs x hx)
  simp only [List.length_cons] at this; omega
theorem nodup_map_inj {α β : Type} {f : α → β} : ∀ {l : List α}, l.Nodup → (∀ x ∈ l, ∀ y ∈ l, f x = f y → x = y) → (l.map f).Nodup
  | [], _, _ => by simp
  | x :: l, hn, hf => by
    rw [List.nodup_cons] at hn
    rw [List.map_cons, List.nodup_cons]
    refine ⟨fun h => ?_, nodup_map_inj hn.2 fun a ha b hb => hf a (List.mem_cons_of_mem _ ha) b (List.mem_cons_of_mem _ hb)⟩
    obtain ⟨y, hy, e⟩ := List.mem_map.1 h
    have := hf y (List.mem_cons_of_mem _ hy) x (List.mem_cons_self ..) e
    exact hn.1 (this ▸ hy)

theorem nodup_get {α : Type} {l : List α} (h : l.Nodup) {i j : Nat} {x : α} (hi : l[i]? = some x) (hj : l[j]? = some x) : i = j := by
  obtain ⟨li, ei⟩ := List.getElem?_eq_some_iff.1 hi
  obtain ⟨lj, ej⟩ := List.getElem?_eq_some_iff.1 hj
  have hp := List.pairwise_iff_getElem.1 h
  rcases Nat.lt_trichotomy i j with h1 | h1 | h1
  · exact absurd (ei.trans ej.symm) (hp i j li lj h1)
  · exact h1
  · exact absurd (ej.trans ei.symm) (hp j i lj li h1)

/-! ### permutations -/
structure okPerm (p : List Int) (n : Nat) : Prop where
  len : p.length = n
  rng : ∀ x ∈ p, 0 ≤ x ∧ x < n
  nd : p.Nodup
def ap (p : List Int) (i : Nat) : Nat := (p.getD i 0).toNat
def mkP (n : Nat) (f : Nat → Nat) : List Int := (List.range n).map fun i => (f i : Int)
def idP (n : Nat) : List Int := mkP n id
def prodL (a b : List Int) : List Int := b.map fun x => a.getD x.toNat 0
def invP (p : List Int) (n : Nat) : List Int := mkP n fun j => p.findIdx fun x => x == (j : Int)

variable {n : Nat} {p q r a b c : List Int} {i j : Nat} {f g : Nat → Nat}
theorem mkP_len : (mkP n f).length = n := by simp [mkP]
theorem mkP_get (hi : i < n) : (mkP n f)[i]? = some (f i : Int) := by simp [mkP, hi]
theorem ap_mk (hi : i < n) : ap (mkP n f) i = f i := by
  unfold ap; rw [List.getD_eq_getElem?_getD, mkP_get hi]; simp
theorem ap_of {x : Int} (h : p[i]? = some x) : ap p i = x.toNat := by unfold ap; rw [List.getD_eq_getElem?_getD, h]; simp
theorem okPerm.get (h : okPerm p n) (hi : i < n) : p[i]? = some (ap p i : Int) ∧ ap p i < n := by
  have hl : i < p.length := by rw [h.len]; exact hi
  have e : p[i]? = some p[i] := List.getElem?_eq_getElem hl
  have hr := h.rng p[i] (List.getElem_mem hl)
  rw [ap_of e, e]
  exact ⟨by congr 1; omega, by omega⟩
theorem okPerm.lt (h : okPerm p n) (hi : i < n) : ap p i < n := (h.get hi).2
theorem okPerm.inj (h : okPerm p n) (hi : i < n) (hj : j < n) (e : ap p i = ap p j) : i = j := by
  have h1 := (h.get hi).1
  have h2 := (h.get hj).1
  rw [e] at h1
  exact nodup_get h.nd h1 h2
theorem perm_ext (hp : p.length = n) (hq : q.length = n) (hp' : ∀ i, i < n → p[i]? = some (ap p i : Int)) (hq' : ∀ i, i < n → q[i]? = some (ap q i : Int)) (h : ∀ i, i < n → ap p i = ap q i) : p = q := by
  refine List.ext_getElem? fun i => ?_
  by_cases hi : i < n
  · rw [hp' i hi, hq' i hi, h i hi]
  · rw [List.getElem?_eq_none (by omega), List.getElem?_eq_none (by omega)]
theorem okPerm.ext (hp : okPerm p n) (hq : okPerm q n) (h : ∀ i, i < n → ap p i = ap q i) : p = q :=
  perm_ext hp.len hq.len (fun _ hi => (hp.get hi).1) (fun _ hi => (hq.get hi).1) h
theorem mk_ok (hf : ∀ i, i < n → f i < n) (hi : ∀ i j, i < n → j < n → f i = f j → i = j) : okPerm (mkP n f) n where
  len := mkP_len
  rng := fun x hx => by
    obtain ⟨i, hi, rfl⟩ := List.mem_map.1 hx
    have := hf i (List.mem_range.1 hi); omega
  nd := nodup_map_inj List.nodup_range fun x hx y hy e => hi x y (List.mem_range.1 hx) (List.mem_range.1 hy) (by omega)
theorem okPerm.eqMk (h : okPerm p n) : p = mkP n (ap p) := by
  refine perm_ext h.len mkP_len (fun _ hi => (h.get hi).1) (fun i hi => ?_) fun i hi => (ap_mk hi).symm
  rw [ap_mk hi, mkP_get hi]
theorem okPerm.surj (h : okPerm p n) (hj : j < n) : ∃ i, i < n ∧ ap p i = j := by
  have hm : (j : Int) ∈ p := by
    refine mem_of_len h.nd (m := (List.range n).map Int.ofNat) (fun x hx => ?_) (by simp [h.len]) ?_
    · have := h.rng x hx
      exact List.mem_map.2 ⟨x.toNat, List.mem_range.2 (by omega), by simp; omega⟩
    · exact List.mem_map.2 ⟨j, List.mem_range.2 hj, rfl⟩
  obtain ⟨i, hi, e⟩ := List.getElem_of_mem hm
  refine ⟨i, by rw [← h.len]; exact hi, ?_⟩
  rw [ap_of (List.getElem?_eq_getElem hi), e]; rfl
theorem id_ok (n : Nat) : okPerm (idP n) n := mk_ok (fun _ h => h) fun _ _ _ _ e => e
theorem ap_id (hi : i < n) : ap (idP n) i = i := ap_mk hi
theorem prod_mk (ha : okPerm a n) (hb : okPerm b n) : prodL a b = mkP n fun i => ap a (ap b i) := by
  refine List.ext_getElem? fun i => ?_
  unfold prodL
  rw [List.getElem?_map]
  by_cases hi : i < n
  · rw [(hb.get hi).1, mkP_get hi]
    simp only [Option.map_some, Option.some.injEq, Int.toNat_natCast]
    rw [List.getD_eq_getElem?_getD, (ha.get (hb.lt hi)).1]; rfl
  · rw [List.getElem?_eq_none (by rw [hb.len]; omega), List.getElem?_eq_none (by rw [mkP_len]; omega)]; rfl
theorem prod_ok (ha : okPerm a n) (hb : okPerm b n) : okPerm (prodL a b) n := by
  rw [prod_mk ha hb]
  exact mk_ok (fun i hi => ha.lt (hb.lt hi)) fun i j hi hj e => hb.inj hi hj (ha.inj (hb.lt hi) (hb.lt hj) e)
theorem ap_prod (ha : okPerm a n) (hb : okPerm b n) (hi : i < n) : ap (prodL a b) i = ap a (ap b i) := by rw [prod_mk ha hb, ap_mk hi]
theorem prod_assoc (ha : okPerm a n) (hb : okPerm b n) (hc : okPerm c n) : prodL (prodL a b) c = prodL a (prodL b c) :=
  (prod_ok (prod_ok ha hb) hc).ext (prod_ok ha (prod_ok hb hc)) fun i hi => by
    rw [ap_prod (prod_ok ha hb) hc hi, ap_prod ha hb (hc.lt hi), ap_prod ha (prod_ok hb hc) hi, ap_prod hb hc hi]
theorem id_prod (ha : okPerm a n) : prodL (idP n) a = a :=
  (prod_ok (id_ok n) ha).ext ha fun i hi => by rw [ap_prod (id_ok n) ha hi, ap_id (ha.lt hi)]
theorem prod_id (ha : okPerm a n) : prodL a (idP n) = a :=
  (prod_ok ha (id_ok n)).ext ha fun i hi => by rw [ap_prod ha (id_ok n) hi, ap_id hi]
theorem find_ap (h : okPerm p n) (hi : i < n) : (p.findIdx fun x => x == ((ap p i : Nat) : Int)) = i := by
  have hl : i < p.length := by rw [h.len]; exact hi
  have hg := (h.get hi).1
  obtain ⟨_, e⟩ := List.getElem?_eq_some_iff.1 hg
  have hlt : (p.findIdx fun x => x == ((ap p i : Nat) : Int)) < p.length := List.findIdx_lt_length_of_exists ⟨p[i], List.getElem_mem hl, by simp [e]⟩
  have h2 := List.findIdx_getElem (w := hlt)
  have h3 : p[p.findIdx fun x => x == ((ap p i : Nat) : Int)] = ((ap p i : Nat) : Int) := by simpa using h2
  exact nodup_get h.nd ((List.getElem?_eq_getElem hlt).trans (congrArg some h3)) hg
theorem inv_lt (h : okPerm p n) (hj : j < n) : (p.findIdx fun x => x == (j : Int)) < n := by
  obtain ⟨i, hi, rfl⟩ := h.surj hj
  rw [find_ap h hi]; exact hi
theorem inv_ok (h : okPerm p n) : okPerm (invP p n) n := by
  refine mk_ok (fun j hj => inv_lt h hj) fun i j hi hj e => ?_
  obtain ⟨i', hi', rfl⟩ := h.surj hi
  obtain ⟨j', hj', rfl⟩ := h.surj hj
  rw [find_ap h hi', find_ap h hj'] at e
  rw [e]
theorem ap_inv (h : okPerm p n) (hi : i < n) : ap (invP p n) (ap p i) = i := by
  unfold invP; rw [ap_mk (h.lt hi), find_ap h hi]
theorem ap_inv' (h : okPerm p n) (hj : j < n) : ap p (ap (invP p n) j) = j := by
  obtain ⟨i, hi, rfl⟩ := h.surj hj
  rw [ap_inv h hi]
theorem inv_prod (h : okPerm p n) : prodL (invP p n) p = idP n :=
  (prod_ok (inv_ok h) h).ext (id_ok n) fun i hi => by rw [ap_prod (inv_ok h) h hi, ap_inv h hi, ap_id hi]
theorem prod_inv (h : okPerm p n) : prodL p (invP p n) = idP n :=
  (prod_ok h (inv_ok h)).ext (id_ok n) fun i hi => by rw [ap_prod h (inv_ok h) hi, ap_inv' h hi, ap_id hi]
/-- What undoes p is its inverse. -/
theorem inv_unique (hp : okPerm p n) (hq : okPerm q n) (h : prodL p q = idP n) : q = invP p n := by
  have := prod_assoc (inv_ok hp) hp hq
  rw [inv_prod hp, id_prod hq, h, prod_id (inv_ok hp)] at this
  exact this
theorem inv_of_prod (ha : okPerm a n) (hb : okPerm b n) : invP (prodL a b) n = prodL (invP b n) (invP a n) := by
  refine (inv_unique (prod_ok ha hb) (prod_ok (inv_ok hb) (inv_ok ha)) ?_).symm
  rw [prod_assoc ha hb (prod_ok (inv_ok hb) (inv_ok ha)), ← prod_assoc hb (inv_ok hb) (inv_ok ha), prod_inv hb, id_prod (inv_ok ha), prod_inv ha]
theorem prod_cancel (ha : okPerm a n) (hp : okPerm p n) (hq : okPerm q n) (h : prodL a p = prodL a q) : p = q := by
  have h1 := prod_assoc (inv_ok ha) ha hp
  have h2 := prod_assoc (inv_ok ha) ha hq
  rw [inv_prod ha, id_prod hp] at h1
  rw [inv_prod ha, id_prod hq] at h2
  rw [h1, h2, h]
theorem prod_cancel' (ha : okPerm a n) (hp : okPerm p n) (hq : okPerm q n) (h : prodL p a = prodL q a) : p = q := by
  have h1 := prod_assoc hp ha (inv_ok ha)
  have h2 := prod_assoc hq ha (inv_ok ha)
  rw [prod_inv ha, prod_id hp] at h1
  rw [prod_inv ha, prod_id hq] at h2
  rw [← h1, ← h2, h]

/-! ### the group that some permutations generate -/
inductive Reach (n : Nat) (gens : List (List Int)) : List Int → Prop
  | id : Reach n gens (idP n)
  | step {g p : List Int} : g ∈ gens → Reach n gens p → Reach n gens (prodL g p)
variable {gens hens : List (List Int)}
theorem Reach.ok (hg : ∀ g ∈ gens, okPerm g n) (h : Reach n gens p) : okPerm p n := by
  induction h with
  | id => exact id_ok n
  | step hm _ ih => exact prod_ok (hg _ hm) ih
theorem Reach.mul (hg : ∀ g ∈ gens, okPerm g n) (h : Reach n gens p) (h2 : Reach n gens q) : Reach n gens (prodL p q) := by
  induction h with
  | id => rw [id_prod (h2.ok hg)]; exact h2
  | step hm h3 ih => rw [prod_assoc (hg _ hm) (h3.ok hg) (h2.ok hg)]; exact .step hm ih
theorem Reach.gen (hg : ∀ g ∈ gens, okPerm g n) (h : p ∈ gens) : Reach n gens p := by
  have := Reach.step h (Reach.id (n := n) (gens := gens))
  rwa [prod_id (hg p h)] at this
/-- Generators within a group generate a part of it. -/
theorem Reach.sub (hh : ∀ g ∈ hens, okPerm g n) (hs : ∀ g ∈ gens, Reach n hens g) (h : Reach n gens p) : Reach n hens p := by
  induction h with
  | id => exact .id
  | step hm _ ih => exact (hs _ hm).mul hh ih
/-- The search's answer. -/
def Gen (n : Nat) (gens : List (List Int)) : Option (List (List Int)) → Prop
  | some L => L.Nodup ∧ L.length ≤ 4096 ∧ ∀ p, p ∈ L ↔ Reach n gens p
  | none => ∃ B : List (List Int), B.Nodup ∧ B.length = 4097 ∧ ∀ p ∈ B, Reach n gens p
theorem Gen.inv {L : List (List Int)} (hg : ∀ g ∈ gens, okPerm g n) (h : Gen n gens (some L)) (hp : p ∈ L) : invP p n ∈ L := by
  obtain ⟨hn, _, hm⟩ := h
  have hpr := (hm p).1 hp
  have hok := hpr.ok hg
  have hnd : (L.map (prodL p)).Nodup := nodup_map_inj hn fun x hx y hy e => prod_cancel hok (((hm x).1 hx).ok hg) (((hm y).1 hy).ok hg) e
  have hid : idP n ∈ L.map (prodL p) := mem_of_len hnd (m := L) (fun x hx => by
    obtain ⟨y, hy, rfl⟩ := List.mem_map.1 hx
    exact (hm _).2 (hpr.mul hg ((hm y).1 hy))) (by simp) ((hm _).2 .id)
  obtain ⟨y, hy, e⟩ := List.mem_map.1 hid
  rw [← inv_unique hok (((hm y).1 hy).ok hg) e]
  exact hy
/-- Two searches of one group agree: both have all of it, or it is too large for both. -/
theorem Gen.both {o o' : Option (List (List Int))} (h : Gen n gens o) (h' : Gen n hens o') (e : ∀ p, Reach n gens p ↔ Reach n hens p) : (o = none ∧ o' = none) ∨ ∃ L L', o = some L ∧ o' = some L' ∧ (∀ p, p ∈ L ↔ p ∈ L') ∧ L.Nodup ∧ L'.Nodup := by
  cases o with
  | none =>
    cases o' with
    | none => exact .inl ⟨rfl, rfl⟩
    | some L =>
      exfalso
      obtain ⟨B, h1, h2, h3⟩ := h
      obtain ⟨h4, h5, h6⟩ := h'
      have := len_le_of_sub B L h1 (fun x hx => (h6 x).2 ((e x).1 (h3 x hx)))
      omega
  | some L =>
    cases o' with
    | none =>
      exfalso
      obtain ⟨B, h1, h2, h3⟩ := h'
      obtain ⟨h4, h5, h6⟩ := h
      have := len_le_of_sub B L h1 (fun x hx => (h6 x).2 ((e x).2 (h3 x hx)))
      omega
    | some L' => exact .inr ⟨L, L', rfl, rfl, fun p => by rw [h.2.2, h'.2.2, e], h.1, h'.1⟩

/-! ### the search -/
def addG (st : Option (List (List Int))) (p : List Int) : Option (List (List Int)) := match st with
  | none => none
  | some l => if p ∈ l then some l else if l.length = 4096 then none else some (l ++ [p])
def stepG (gens : List (List Int)) (p : List Int) (st : Option (List (List Int))) : Option (List (List Int)) := gens.foldl (fun st g => addG st (prodL g p)) st
def bfs (gens : List (List Int)) : Nat → Nat → List (List Int) → Option (List (List Int))
  | 0, _, l => some l
  | f + 1, at', l => match l[at']? with
    | none => some l
    | some p => match stepG gens p (some l) with
      | none => none
      | some l' => bfs gens f (at' + 1) l'
def bfsL (n : Nat) (gens : List (List Int)) : Option (List (List Int)) := bfs gens 4097 0 [idP n]
theorem stepG_none (gens : List (List Int)) (p : List Int) : stepG gens p none = none := by
  unfold stepG
  induction gens with
  | nil => rfl
  | cons g gs ih => exact ih
theorem stepG_cons (g : List Int) (gs : List (List Int)) (p : List Int) (st : Option (List (List Int))) : stepG (g :: gs) p st = stepG gs p (addG st (prodL g p)) := rfl
/-- What holds while the search goes on. -/
structure Grow (n : Nat) (gens : List (List Int)) (l : List (List Int)) : Prop where
  nd : l.Nodup
  id : idP n ∈ l
  rc : ∀ p ∈ l, Reach n gens p
  le : l.length ≤ 4096
theorem stepG_ok (hall : ∀ g ∈ gens, g ∈ hens) : ∀ {l : List (List Int)} {p : List Int}, Grow n hens l → p ∈ l → match stepG gens p (some l) with
    | none => ∃ B : List (List Int), B.Nodup ∧ B.length = 4097 ∧ ∀ p ∈ B, Reach n hens p
    | some l' => Grow n hens l' ∧ (∃ t, l' = l ++ t) ∧ ∀ g ∈ gens, prodL g p ∈ l' := by
  induction gens with
  | nil => intro l p h hp; exact ⟨h, ⟨[], by simp⟩, fun g hg => by simp at hg⟩
  | cons g gs ih =>
    intro l p h hp
    rw [stepG_cons]
    have hg := hall g (List.mem_cons_self ..)
    have hr : Reach n hens (prodL g p) := .step hg (h.rc p hp)
    have ih := @ih (fun x hx => hall x (List.mem_cons_of_mem _ hx))
    unfold addG
    by_cases hm : prodL g p ∈ l
    · simp only [if_pos hm]
      have h1 := ih h hp
      cases e : stepG gs p (some l) with
      | none => rw [e] at h1; exact h1
      | some l' =>
        rw [e] at h1
        obtain ⟨h2, ⟨t, rfl⟩, h4⟩ := h1
        refine ⟨h2, ⟨t, rfl⟩, fun x hx => ?_⟩
        rcases List.mem_cons.1 hx with rfl | hx
        · exact List.mem_append_left _ hm
        · exact h4 x hx
    · simp only [if_neg hm]
      have hnd : (l ++ [prodL g p]).Nodup := by
        rw [List.nodup_append]
        exact ⟨h.nd, by simp, fun a ha b hb e => by simp at hb; subst hb; subst e; exact hm ha⟩
      by_cases hc : l.length = 4096
      · simp only [if_pos hc, stepG_none]
        refine ⟨l ++ [prodL g p], hnd, by simp [hc], fun x hx => ?_⟩
        rcases List.mem_append.1 hx with hx | hx
        · exact h.rc x hx
        · simp at hx; subst hx; exact hr
      · simp only [if_neg hc]
        have hG : Grow n hens (l ++ [prodL g p]) := ⟨hnd, List.mem_append_left _ h.id, fun x hx => by
          rcases List.mem_append.1 hx with hx | hx
          · exact h.rc x hx
          · simp at hx; subst hx; exact hr, by have := h.le; simp; omega⟩
        have h1 := ih hG (List.mem_append_left _ hp)
        cases e : stepG gs p (some (l ++ [prodL g p])) with
        | none => rw [e] at h1; exact h1
        | some l' =>
          rw [e] at h1
          obtain ⟨h2, ⟨t, rfl⟩, h4⟩ := h1
          refine ⟨h2, ⟨[prodL g p] ++ t, by simp⟩, fun x hx => ?_⟩
          rcases List.mem_cons.1 hx with rfl | hx
          · simp
          · exact h4 x hx
theorem bfs_gen (hg : ∀ g ∈ gens, okPerm g n) : ∀ (f at' : Nat) (l : List (List Int)), f + at' = 4097 → Grow n gens l → (∀ i q, i < at' → l[i]? = some q → ∀ g ∈ gens, prodL g q ∈ l) → Gen n gens (bfs gens f at' l)
  | 0, at', l, hf, h, hc => by
    refine ⟨h.nd, h.le, fun p => ⟨h.rc p, fun hr => ?_⟩⟩
    induction hr with
    | id => exact h.id
    | step hm _ ih =>
      obtain ⟨i, hi, e⟩ := List.getElem_of_mem ih
      have := h.le
      exact hc i _ (by omega) (by rw [List.getElem?_eq_getElem hi, e]) _ hm
  | f + 1, at', l, hf, h, hc => by
    unfold bfs
    cases e : l[at']? with
    | none =>
      have hle : l.length ≤ at' := List.getElem?_eq_none_iff.1 e
      refine ⟨h.nd, h.le, fun p => ⟨h.rc p, fun hr => ?_⟩⟩
      induction hr with
      | id => exact h.id
      | step hm _ ih =>
        obtain ⟨i, hi, e⟩ := List.getElem_of_mem ih
        exact hc i _ (by omega) (by rw [List.getElem?_eq_getElem hi, e]) _ hm
    | some p =>
      simp only
      have h1 := stepG_ok (gens := gens) (hens := gens) (fun _ h => h) h (List.mem_of_getElem? e)
      cases e2 : stepG gens p (some l) with
      | none => rw [e2] at h1; exact h1
      | some l' =>
        rw [e2] at h1
        obtain ⟨h2, ⟨t, rfl⟩, h4⟩ := h1
        simp only
        refine bfs_gen hg f (at' + 1) (l ++ t) (by omega) h2 fun i q hi hq g hgm => ?_
        have hlt : at' < l.length := (List.getElem?_eq_some_iff.1 e).1
        rw [List.getElem?_append_left (by omega)] at hq
        by_cases hia : i = at'
        · subst hia; rw [e] at hq; injection hq with hq; subst hq; exact h4 g hgm
        · exact List.mem_append_left _ (hc i q (by omega) hq g hgm)
theorem bfsL_gen (hg : ∀ g ∈ gens, okPerm g n) : Gen n gens (bfsL n gens) :=
  bfs_gen hg 4097 0 _ rfl ⟨by simp, by simp, fun p hp => by simp at hp; subst hp; exact .id, by simp⟩ fun i q hi => by omega
end Go.Proofs.Ytkekkbbdhdamjaa
