/- The last fact that is known counts, in plain Lean. No program in sight. -/
import Derived.Test.YtfhekhjojdhmhaaFAtR
namespace Go.Proofs.Ytfhekhjojdhmhaa

def passAt (l : List Fact) (k : Key) (day kn : Int) (i : Nat) : Bool := match l[i]? with | some x => cB k day kn x | none => false
/-- The fact j comes behind the fact i. -/
def badB (l : List Fact) (k : Key) (day kn : Int) (i j : Nat) : Bool := match l[i]?, l[j]? with
  | some x, some y => cB k day kn y && (befB x y || (decide (i < j) && !befB y x))
  | _, _ => false
def lastTo (l : List Fact) (k : Key) (day kn : Int) (i n : Nat) : Bool := (List.range n).all fun j => !badB l k day kn i j
theorem lastTo_succ (l : List Fact) (k : Key) (day kn : Int) (i n : Nat) : lastTo l k day kn i (n + 1) = (lastTo l k day kn i n && !badB l k day kn i n) := by
  unfold lastTo; rw [List.range_succ, List.all_append]; simp
def someTo (l : List Fact) (k : Key) (day kn : Int) (n : Nat) : Bool := (List.range n).any (passAt l k day kn)
theorem someTo_succ (l : List Fact) (k : Key) (day kn : Int) (n : Nat) : someTo l k day kn (n + 1) = (someTo l k day kn n || passAt l k day kn n) := by
  unfold someTo; rw [List.range_succ, List.any_append]; simp
def metTo (l : List Fact) (k : Key) (day kn : Int) (n : Nat) : Bool := (List.range n).any fun i => passAt l k day kn i && lastTo l k day kn i l.length
theorem metTo_succ (l : List Fact) (k : Key) (day kn : Int) (n : Nat) : metTo l k day kn (n + 1) = (metTo l k day kn n || (passAt l k day kn n && lastTo l k day kn n l.length)) := by
  unfold metTo; rw [List.range_succ, List.any_append]; simp
theorem lastTo_iff (l : List Fact) (k : Key) (day kn : Int) (i n : Nat) : lastTo l k day kn i n = true ↔ ∀ j, j < n → badB l k day kn i j = false := by
  unfold lastTo; rw [List.all_eq_true]
  constructor
  · intro h j hj; have := h j (List.mem_range.2 hj); simpa using this
  · intro h j hj; rw [h j (List.mem_range.1 hj)]; rfl

theorem befB_iff (a b : Fact) : befB a b = true ↔ a.kn < b.kn ∨ (a.kn = b.kn ∧ a.no < b.no) := by unfold befB; exact decide_eq_true_iff
theorem befB_asymm {a b : Fact} (h : befB a b = true) : befB b a = false := by
  cases e : befB b a
  · rfl
  · rw [befB_iff] at *; omega
theorem befB_le {a b c : Fact} (h : befB b a = false) (h2 : befB c b = false) : befB c a = false := by
  cases e : befB c a
  · rfl
  · have h1 : ¬ befB b a = true := by rw [h]; decide
    have h3 : ¬ befB c b = true := by rw [h2]; decide
    rw [befB_iff] at *; omega
theorem befB_self (a : Fact) : befB a a = false := by
  cases e : befB a a
  · rfl
  · rw [befB_iff] at e; omega

/-- The best one of the first n, and what stands ahead of it and behind it. -/
def BestP (l : List Fact) (k : Key) (day kn : Int) (n : Nat) : Option Fact → Prop
  | none => ∀ j, j < n → passAt l k day kn j = false
  | some b => ∃ p, p < n ∧ l[p]? = some b ∧ cB k day kn b = true ∧ ∀ j, j < n → badB l k day kn p j = false
theorem bestP (l : List Fact) (k : Key) (day kn : Int) : ∀ n, n ≤ l.length → BestP l k day kn n (bestF ((l.take n).filter (cB k day kn)))
  | 0, _ => fun j hj => absurd hj (by omega)
  | n + 1, hn => by
    have ih := bestP l k day kn n (by omega)
    obtain ⟨y, hy⟩ : ∃ y, l[n]? = some y := ⟨_, List.getElem?_eq_getElem (by omega)⟩
    rw [take_filter hy]
    cases hc : cB k day kn y
    · rw [if_neg (by decide), List.append_nil]
      cases hb : bestF ((l.take n).filter (cB k day kn)) with
      | none =>
        rw [hb] at ih
        intro j hj
        by_cases e : j = n
        · subst e; unfold passAt; rw [hy]; exact hc
        · exact ih j (by omega)
      | some b =>
        rw [hb] at ih
        obtain ⟨p, hp, hpb, hcb, h⟩ := ih
        refine ⟨p, by omega, hpb, hcb, fun j hj => ?_⟩
        by_cases e : j = n
        · subst e; unfold badB; rw [hpb, hy]; simp [hc]
        · exact h j (by omega)
    · rw [if_pos rfl, bestF_snoc]
      cases hb : bestF ((l.take n).filter (cB k day kn)) with
      | none =>
        rw [hb] at ih
        refine ⟨n, by omega, hy, hc, fun j hj => ?_⟩
        by_cases e : j = n
        · subst e; unfold badB; rw [hy]; simp [befB_self]
        · have h1 := ih j (by omega)
          unfold passAt at h1
          unfold badB
          rw [hy]
          cases hj' : l[j]? with
          | none => rfl
          | some z => rw [hj'] at h1; simp only at h1 ⊢; rw [h1]; rfl
      | some b =>
        rw [hb] at ih
        obtain ⟨p, hp, hpb, hcb, h⟩ := ih
        show BestP l k day kn (n + 1) (if befB y b = true then some b else some y)
        cases hyb : befB y b
        · rw [if_neg (by decide)]
          refine ⟨n, by omega, hy, hc, fun j hj => ?_⟩
          by_cases e : j = n
          · subst e; unfold badB; rw [hy]; simp [befB_self]
          · have h1 := h j (by omega)
            unfold badB at h1 ⊢
            rw [hy]
            rw [hpb] at h1
            cases hj' : l[j]? with
            | none => rfl
            | some z =>
              rw [hj'] at h1
              simp only at h1 ⊢
              cases hz : cB k day kn z
              · rfl
              · rw [hz] at h1
                have h2 : befB b z = false := by
                  cases e2 : befB b z
                  · rfl
                  · rw [e2] at h1; simp at h1
                rw [befB_le h2 hyb, show decide (n < j) = false by rw [decide_eq_false_iff_not]; omega]; rfl
        · rw [if_pos rfl]
          refine ⟨p, by omega, hpb, hcb, fun j hj => ?_⟩
          by_cases e : j = n
          · subst e; unfold badB; rw [hpb, hy]; simp [hyb, befB_asymm hyb]
          · exact h j (by omega)
/-- The fact after which no other one comes is the best one. -/
theorem last_best {l : List Fact} {k : Key} {day kn : Int} {i : Nat} {x : Fact} (hx : l[i]? = some x) (hc : cB k day kn x = true) (hl : lastTo l k day kn i l.length = true) :
    bestF (l.filter (cB k day kn)) = some x := by
  have hb := bestP l k day kn l.length (Nat.le_refl _)
  rw [List.take_of_length_le (Nat.le_refl _)] at hb
  rw [lastTo_iff] at hl
  have hil := (List.getElem?_eq_some_iff.1 hx).1
  cases e : bestF (l.filter (cB k day kn)) with
  | none =>
    rw [e] at hb
    have := hb i hil
    unfold passAt at this; rw [hx] at this; simp only at this; rw [hc] at this; cases this
  | some b =>
    rw [e] at hb
    obtain ⟨p, hp, hpb, hcb, h⟩ := hb
    have h1 := hl p hp
    have h2 := h i hil
    unfold badB at h1 h2
    rw [hx, hpb] at h1
    rw [hpb, hx] at h2
    simp only [hc, hcb, Bool.true_and, Bool.or_eq_false_iff] at h1 h2
    by_cases e3 : i = p
    · subst e3; rw [hx] at hpb; injection hpb with e4; rw [e4]
    · by_cases e4 : i < p
      · have := h1.2; rw [show decide (i < p) = true by exact decide_eq_true e4, h2.1] at this; simp at this
      · have := h2.2; rw [show decide (p < i) = true by exact decide_eq_true (by omega), h1.1] at this; simp at this
theorem met_some (l : List Fact) (k : Key) (day kn : Int) : metTo l k day kn l.length = someTo l k day kn l.length ∧ (someTo l k day kn l.length = false → atF l k day kn = none) := by
  have hb := bestP l k day kn l.length (Nat.le_refl _)
  rw [List.take_of_length_le (Nat.le_refl _)] at hb
  cases e : bestF (l.filter (cB k day kn)) with
  | none =>
    rw [e] at hb
    have h1 : someTo l k day kn l.length = false := by
      unfold someTo; rw [List.any_eq_false]
      intro i hi; rw [hb i (List.mem_range.1 hi)]; decide
    have h2 : metTo l k day kn l.length = false := by
      unfold metTo; rw [List.any_eq_false]
      intro i hi; rw [hb i (List.mem_range.1 hi)]; simp
    refine ⟨by rw [h1, h2], fun _ => ?_⟩
    rw [atF_cB, e]; rfl
  | some b =>
    rw [e] at hb
    obtain ⟨p, hp, hpb, hcb, h⟩ := hb
    have h0 : passAt l k day kn p = true := by unfold passAt; rw [hpb]; exact hcb
    have h1 : someTo l k day kn l.length = true := by
      unfold someTo; rw [List.any_eq_true]; exact ⟨p, List.mem_range.2 hp, h0⟩
    have h2 : metTo l k day kn l.length = true := by
      unfold metTo; rw [List.any_eq_true]; exact ⟨p, List.mem_range.2 hp, by rw [h0, (lastTo_iff _ _ _ _ _ _).2 h]; rfl⟩
    exact ⟨by rw [h1, h2], fun h => by rw [h1] at h; cases h⟩
theorem last_at {l : List Fact} {k : Key} {day kn : Int} {i : Nat} {x : Fact} (hx : l[i]? = some x) (hc : cB k day kn x = true) (hl : lastTo l k day kn i l.length = true) : atF l k day kn = if x.val < 0 then none else some x.val := by
  rw [atF_cB, last_best hx hc hl]; rfl
theorem at_off {l : List Fact} {k : Key} {day kn : Int} (h : atOk l k day kn = false) : atV l k day kn = 0 := by
  unfold atOk at h; unfold atV
  cases e : atF l k day kn with
  | none => rfl
  | some v => rw [e] at h; cases h
end Go.Proofs.Ytfhekhjojdhmhaa
