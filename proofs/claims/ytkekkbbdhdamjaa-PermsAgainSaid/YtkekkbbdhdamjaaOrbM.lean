/- Orbits of numbers under permutations, in plain Lean. No program in sight. -/
import Derived.Test.YtkekkbbdhdamjaaPermM
namespace Go.Proofs.Ytkekkbbdhdamjaa

inductive Conn (gens : List (List Int)) (i : Nat) : Nat → Prop
  | refl : Conn gens i i
  | step {g : List Int} {j : Nat} : g ∈ gens → Conn gens i j → Conn gens i (ap g j)
section
variable {gens : List (List Int)} {n i j k : Nat}
theorem Conn.lt (hg : ∀ g ∈ gens, okPerm g n) (hi : i < n) (h : Conn gens i j) : j < n := by
  induction h with
  | refl => exact hi
  | step hm _ ih => exact (hg _ hm).lt ih
theorem Conn.trans (h : Conn gens i j) (h2 : Conn gens j k) : Conn gens i k := by
  induction h2 with
  | refl => exact h
  | step hm _ ih => exact .step hm ih

/-- The search from one number. -/
def stepO (gens : List (List Int)) (j : Nat) (s : List Nat) : List Nat := gens.foldl (fun s g => if ap g j ∈ s then s else s ++ [ap g j]) s
def bfsO (gens : List (List Int)) : Nat → Nat → List Nat → List Nat
  | 0, _, s => s
  | f + 1, at', s => match s[at']? with
    | none => s
    | some j => bfsO gens f (at' + 1) (stepO gens j s)
def orbO (n : Nat) (gens : List (List Int)) (i : Nat) : List Nat := bfsO gens n 0 [i]
structure GrowO (n : Nat) (gens : List (List Int)) (i : Nat) (s : List Nat) : Prop where
  nd : s.Nodup
  has : i ∈ s
  rc : ∀ x ∈ s, Conn gens i x
  lt : ∀ x ∈ s, x < n
theorem GrowO.len {s : List Nat} (h : GrowO n gens i s) : s.length ≤ n := by
  have := len_le_of_sub s (List.range n) h.nd (fun x hx => List.mem_range.2 (h.lt x hx))
  simpa using this
theorem GrowO.add {s : List Nat} (hg : ∀ g ∈ gens, okPerm g n) (h : GrowO n gens i s) {g : List Int} (hm : g ∈ gens) (hj : j ∈ s) (hn : ap g j ∉ s) : GrowO n gens i (s ++ [ap g j]) :=
  ⟨by
    rw [List.nodup_append]
    exact ⟨h.nd, by simp, fun a ha b hb e => by simp at hb; rw [e, hb] at ha; exact hn ha⟩, List.mem_append_left _ h.has, fun x hx => by
    rcases List.mem_append.1 hx with hx | hx
    · exact h.rc x hx
    · simp at hx; subst hx; exact .step hm (h.rc j hj), fun x hx => by
    rcases List.mem_append.1 hx with hx | hx
    · exact h.lt x hx
    · simp at hx; subst hx; exact (hg g hm).lt (h.lt j hj)⟩
theorem stepO_ok (hg : ∀ g ∈ gens, okPerm g n) {hens : List (List Int)} (hall : ∀ g ∈ hens, g ∈ gens) : ∀ {s : List Nat}, GrowO n gens i s → j ∈ s → GrowO n gens i (stepO hens j s) ∧ (∃ t, stepO hens j s = s ++ t) ∧ ∀ g ∈ hens, ap g j ∈ stepO hens j s := by
  induction hens with
  | nil => intro s h hj; exact ⟨h, ⟨[], by simp [stepO]⟩, fun g hg => by simp at hg⟩
  | cons g gs ih =>
    intro s h hj
    have ih := @ih (fun x hx => hall x (List.mem_cons_of_mem _ hx))
    show GrowO n gens i (stepO gs j (if ap g j ∈ s then s else s ++ [ap g j])) ∧ (∃ t, stepO gs j (if ap g j ∈ s then s else s ++ [ap g j]) = s ++ t) ∧ ∀ x ∈ g :: gs, ap x j ∈ stepO gs j (if ap g j ∈ s then s else s ++ [ap g j])
    by_cases hm : ap g j ∈ s
    · rw [if_pos hm]
      obtain ⟨h1, ⟨t, ht⟩, h3⟩ := ih h hj
      refine ⟨h1, ⟨t, ht⟩, fun x hx => ?_⟩
      rcases List.mem_cons.1 hx with rfl | hx
      · rw [ht]; exact List.mem_append_left _ hm
      · exact h3 x hx
    · rw [if_neg hm]
      obtain ⟨h1, ⟨t, ht⟩, h3⟩ := ih (h.add hg (hall g (List.mem_cons_self ..)) hj hm) (List.mem_append_left _ hj)
      refine ⟨h1, ⟨[ap g j] ++ t, by rw [ht]; simp⟩, fun x hx => ?_⟩
      rcases List.mem_cons.1 hx with rfl | hx
      · rw [ht]; simp
      · exact h3 x hx
theorem bfsO_ok (hg : ∀ g ∈ gens, okPerm g n) : ∀ (f at' : Nat) (s : List Nat), f + at' = n → GrowO n gens i s → (∀ a x, a < at' → s[a]? = some x → ∀ g ∈ gens, ap g x ∈ s) → GrowO n gens i (bfsO gens f at' s) ∧ ∀ x ∈ bfsO gens f at' s, ∀ g ∈ gens, ap g x ∈ bfsO gens f at' s
  | 0, at', s, hf, h, hc => by
    show GrowO n gens i s ∧ ∀ x ∈ s, ∀ g ∈ gens, ap g x ∈ s
    refine ⟨h, fun x hx g hm => ?_⟩
    obtain ⟨a, ha, e⟩ := List.getElem_of_mem hx
    have := h.len
    exact hc a x (by omega) (by rw [List.getElem?_eq_getElem ha, e]) g hm
  | f + 1, at', s, hf, h, hc => by
    unfold bfsO
    cases e : s[at']? with
    | none =>
      show GrowO n gens i s ∧ ∀ x ∈ s, ∀ g ∈ gens, ap g x ∈ s
      have hle : s.length ≤ at' := List.getElem?_eq_none_iff.1 e
      refine ⟨h, fun x hx g hm => ?_⟩
      obtain ⟨a, ha, e⟩ := List.getElem_of_mem hx
      exact hc a x (by omega) (by rw [List.getElem?_eq_getElem ha, e]) g hm
    | some j =>
      simp only
      obtain ⟨h1, ⟨t, ht⟩, h3⟩ := stepO_ok (j := j) hg (fun _ h => h) h (List.mem_of_getElem? e)
      refine bfsO_ok hg f (at' + 1) _ (by omega) h1 fun a x ha hx g hm => ?_
      have hlt : at' < s.length := (List.getElem?_eq_some_iff.1 e).1
      rw [ht, List.getElem?_append_left (by omega)] at hx
      by_cases hia : a = at'
      · subst hia; rw [e] at hx; injection hx with hx; subst hx; exact h3 g hm
      · rw [ht]; exact List.mem_append_left _ (hc a x (by omega) hx g hm)
theorem mem_orbO (hg : ∀ g ∈ gens, okPerm g n) (hi : i < n) : (∀ j, j ∈ orbO n gens i ↔ Conn gens i j) ∧ (orbO n gens i).Nodup ∧ ∀ x ∈ orbO n gens i, x < n := by
  obtain ⟨h1, h2⟩ := bfsO_ok (i := i) hg n 0 [i] rfl ⟨by simp, by simp, fun x hx => by simp at hx; subst hx; exact .refl, fun x hx => by simp at hx; subst hx; exact hi⟩ (fun a x ha => by omega)
  refine ⟨fun j => ⟨h1.rc j, fun h => ?_⟩, h1.nd, h1.lt⟩
  induction h with
  | refl => exact h1.has
  | step hm _ ih => exact h2 _ ih _ hm
/-- What is reached reaches back. -/
theorem Conn.back (hg : ∀ g ∈ gens, okPerm g n) {g : List Int} (hm : g ∈ gens) (hj : j < n) : Conn gens (ap g j) j := by
  have hx : ap g j < n := (hg g hm).lt hj
  obtain ⟨h1, h2, h3⟩ := mem_orbO hg hx
  have hnd : ((orbO n gens (ap g j)).map (ap g)).Nodup := nodup_map_inj h2 fun x hx y hy e => (hg g hm).inj (h3 x hx) (h3 y hy) e
  have hin : ap g j ∈ (orbO n gens (ap g j)).map (ap g) := mem_of_len hnd (m := orbO n gens (ap g j)) (fun y hy => by
    obtain ⟨z, hz, rfl⟩ := List.mem_map.1 hy
    exact (h1 _).2 (.step hm ((h1 z).1 hz))) (by simp) ((h1 _).2 .refl)
  obtain ⟨z, hz, e⟩ := List.mem_map.1 hin
  have := (hg g hm).inj (h3 z hz) hj e
  subst this
  exact (h1 z).1 hz
theorem Conn.symm (hg : ∀ g ∈ gens, okPerm g n) (hi : i < n) (h : Conn gens i j) : Conn gens j i := by
  induction h with
  | refl => exact .refl
  | step hm hp ih => exact (Conn.back hg hm (hp.lt hg hi)).trans ih

/-- Is there a way from i to j? -/
def connB (n : Nat) (gens : List (List Int)) (i j : Nat) : Bool := decide (j ∈ orbO n gens i)
theorem connB_iff (hg : ∀ g ∈ gens, okPerm g n) (hi : i < n) : connB n gens i j = true ↔ Conn gens i j := by unfold connB; rw [decide_eq_true_eq]; exact (mem_orbO hg hi).1 j
/-- The orbit of i, in increasing order. -/
def orbL (n : Nat) (gens : List (List Int)) (i : Nat) : List Int := ((List.range n).filter fun j => connB n gens i j).map Int.ofNat
/-- No lesser number has the same orbit. -/
def firstB (n : Nat) (gens : List (List Int)) (i : Nat) : Bool := (List.range i).all fun j => !connB n gens j i
def orbsTo (n : Nat) (gens : List (List Int)) (k : Nat) : List (List Int) := ((List.range k).filter (firstB n gens)).map (orbL n gens)
theorem orbsTo_succ (n : Nat) (gens : List (List Int)) (k : Nat) : orbsTo n gens (k + 1) = orbsTo n gens k ++ if firstB n gens k then [orbL n gens k] else [] := by
  unfold orbsTo
  rw [List.range_succ, List.filter_append, List.map_append]
  by_cases h : firstB n gens k = true <;> simp [h]
theorem firstB_iff (hg : ∀ g ∈ gens, okPerm g n) (hi : i < n) : firstB n gens i = true ↔ ∀ j, j < i → ¬ Conn gens j i := by
  unfold firstB
  rw [List.all_eq_true]
  constructor
  · intro h j hj hc
    have := h j (List.mem_range.2 hj)
    rw [(connB_iff hg (by omega)).2 hc] at this; cases this
  · intro h j hj
    have hj := List.mem_range.1 hj
    cases e : connB n gens j i
    · rfl
    · exact absurd ((connB_iff hg (by omega)).1 e) (h j hj)
theorem mem_orbL (hg : ∀ g ∈ gens, okPerm g n) (hi : i < n) (x : Int) : x ∈ orbL n gens i ↔ ∃ j : Nat, x = (j : Int) ∧ Conn gens i j := by
  unfold orbL
  rw [List.mem_map]
  constructor
  · rintro ⟨j, hj, rfl⟩
    rw [List.mem_filter] at hj
    exact ⟨j, rfl, (connB_iff hg hi).1 hj.2⟩
  · rintro ⟨j, rfl, h⟩
    exact ⟨j, List.mem_filter.2 ⟨List.mem_range.2 (h.lt hg hi), (connB_iff hg hi).2 h⟩, rfl⟩
theorem orbL_lt (n : Nat) (gens : List (List Int)) (i : Nat) : (orbL n gens i).Pairwise (· < ·) := by
  unfold orbL
  rw [List.pairwise_map]
  have h : (List.range n).Pairwise (· < ·) := List.pairwise_lt_range
  exact (h.sublist List.filter_sublist).imp fun h => by simp; omega
theorem lt_uniq : ∀ {a b : List Int}, a.Pairwise (· < ·) → b.Pairwise (· < ·) → (∀ x, x ∈ a ↔ x ∈ b) → a = b
  | [], [], _, _, _ => rfl
  | [], y :: b, _, _, h => by have := (h y).2 (List.mem_cons_self ..); simp at this
  | x :: a, [], _, _, h => by have := (h x).1 (List.mem_cons_self ..); simp at this
  | x :: a, y :: b, ha, hb, h => by
    rw [List.pairwise_cons] at ha hb
    have hxy : x = y := by
      rcases List.mem_cons.1 ((h x).1 (List.mem_cons_self ..)) with e | e
      · exact e
      · rcases List.mem_cons.1 ((h y).2 (List.mem_cons_self ..)) with e2 | e2
        · exact e2.symm
        · have h1 := hb.1 x e
          have h2 := ha.1 y e2
          omega
    subst hxy
    congr 1
    refine lt_uniq ha.2 hb.2 fun z => ?_
    constructor
    · intro hz
      rcases List.mem_cons.1 ((h z).1 (List.mem_cons_of_mem _ hz)) with e | e
      · subst e; have := ha.1 z hz; omega
      · exact e
    · intro hz
      rcases List.mem_cons.1 ((h z).2 (List.mem_cons_of_mem _ hz)) with e | e
      · subst e; have := hb.1 z hz; omega
      · exact e

/-! ### the least number of each orbit, by passing on lesser ones -/
structure LInv (n : Nat) (gens : List (List Int)) (l : List Int) : Prop where
  len : l.length = n
  el : ∀ x, x < n → ∃ y : Nat, l[x]? = some (y : Int) ∧ y ≤ x ∧ Conn gens x y
theorem LInv.start (n : Nat) (gens : List (List Int)) : LInv n gens (idP n) := ⟨mkP_len, fun x hx => ⟨x, mkP_get hx, Nat.le_refl _, .refl⟩⟩
theorem LInv.set {l : List Int} (_hg : ∀ g ∈ gens, okPerm g n) (h : LInv n gens l) {x m : Nat} (hx : x < n) (hm : m ≤ x) (hc : Conn gens x m) : LInv n gens (l.set x (m : Int)) :=
  ⟨by rw [List.length_set, h.len], fun z hz => by
    by_cases e : x = z
    · subst e
      exact ⟨m, by rw [List.getElem?_set_self (by rw [h.len]; exact hx)], hm, hc⟩
    · rw [List.getElem?_set_ne e]; exact h.el z hz⟩
def sumL (l : List Int) : Nat := (l.map Int.toNat).sum
theorem sumL_set : ∀ {l : List Int} {x : Nat} {a m : Int}, l[x]? = some a → 0 ≤ m → m < a → sumL (l.set x m) < sumL l
  | [], x, a, m, h, _, _ => by simp at h
  | b :: l, 0, a, m, h, h0, h1 => by
    simp at h; subst h
    simp only [List.set_cons_zero, sumL, List.map_cons, List.sum_cons]
    omega
  | b :: l, x + 1, a, m, h, h0, h1 => by
    have := sumL_set (l := l) (x := x) (by simpa using h) h0 h1
    simp only [List.set_cons_succ, sumL, List.map_cons, List.sum_cons] at this ⊢
    omega
theorem sumL_set_le {l : List Int} {x : Nat} {a m : Int} (h : l[x]? = some a) (h0 : 0 ≤ m) (h1 : m ≤ a) : sumL (l.set x m) ≤ sumL l := by
  by_cases e : m = a
  · subst e
    have : l.set x m = l := by
      apply List.ext_getElem?
      intro i
      by_cases hi : x = i
      · subst hi; rw [List.getElem?_set_self (List.getElem?_eq_some_iff.1 h).1, h]
      · rw [List.getElem?_set_ne hi]
    rw [this]; exact Nat.le_refl _
  · exact Nat.le_of_lt (sumL_set h h0 (by omega))
/-- Where nothing changes any more, each number has the least one of its orbit. -/
theorem LInv.final {l : List Int} (hg : ∀ g ∈ gens, okPerm g n) (h : LInv n gens l) (hs : ∀ g ∈ gens, ∀ x, x < n → l[x]? = l[ap g x]?) {x i : Nat} (hx : x < n) (hi : i < n) : l[x]? = some (i : Int) ↔ firstB n gens i = true ∧ Conn gens i x := by
  have hconst : ∀ a b, a < n → Conn gens a b → l[a]? = l[b]? := by
    intro a b ha hc
    induction hc with
    | refl => rfl
    | step hm hp ih => rw [ih]; exact hs _ hm _ (hp.lt hg ha)
  rw [firstB_iff hg hi]
  constructor
  · intro hxi
    obtain ⟨y, hy, hyx, hc⟩ := h.el x hx
    rw [hxi] at hy
    have : i = y := by injection hy with hy; omega
    subst this
    refine ⟨fun j hj hcj => ?_, hc.symm hg hx⟩
    have e := hconst j i (by omega) hcj
    obtain ⟨z, hz, hzj, _⟩ := h.el j (by omega)
    have e2 := hconst x i hx hc
    rw [e, ← e2, hxi] at hz
    injection hz with hz
    omega
  · rintro ⟨hf, hc⟩
    obtain ⟨y, hy, hyx, hcy⟩ := h.el x hx
    have hyn : y < n := by omega
    have e := hconst i x hi hc
    obtain ⟨z, hz, hzi, _⟩ := h.el i hi
    rw [e, hy] at hz
    have hzy : y = z := by injection hz with hz; omega
    subst hzy
    by_cases h4 : y = i
    · rw [hy, h4]
    · exact absurd ((hc.trans hcy).symm hg hi) (hf y (by omega))
end
end Go.Proofs.Ytkekkbbdhdamjaa
