/- The orbits' list, and the numbers that are marked with their orbit's place. Plain words. -/
import Derived.Test.YtkekkbbdhdamjaaOrbS
namespace Go.Proofs.Ytkekkbbdhdamjaa

section
variable {N : Nat} {gens : List (List Int)}
theorem orbL_head (hg : ∀ g ∈ gens, okPerm g N) {r : Nat} (hr : r < N) (hf : firstB N gens r = true) : (orbL N gens r)[0]? = some (r : Int) := by
  have hm := (mem_orbL hg hr (r : Int)).2 ⟨r, rfl, .refl⟩
  have hl := orbL_lt N gens r
  cases e : orbL N gens r with
  | nil => rw [e] at hm; simp at hm
  | cons y l =>
    rw [e] at hm hl
    obtain ⟨j, hj, hc⟩ := (mem_orbL hg hr y).1 (by rw [e]; exact List.mem_cons_self ..)
    rcases List.mem_cons.1 hm with h | h
    · simp [h]
    · have h1 := (List.pairwise_cons.1 hl).1 _ h
      exact absurd (hc.symm hg hr) ((firstB_iff hg hr).1 hf j (by omega))
/-- What is known of the orbits' list. -/
structure OrbF (N : Nat) (gens O : List (List Int)) : Prop where
  has : ∀ (i : Nat) (o : List Int), O[i]? = some o → ∃ r, r < N ∧ o = orbL N gens r ∧ o[0]? = some (r : Int)
  inc : ∀ (i : Nat) (o o' : List Int) (r r' : Int), O[i]? = some o → O[i + 1]? = some o' → o[0]? = some r → o'[0]? = some r' → r < r'
  disj : ∀ (i j : Nat) (o o' : List Int) (x : Int), O[i]? = some o → O[j]? = some o' → x ∈ o → x ∈ o' → i = j
  all : ∀ x : Nat, x < N → ∃ (i : Nat) (o : List Int), O[i]? = some o ∧ (x : Int) ∈ o
theorem OrbF.of (hg : ∀ g ∈ gens, okPerm g N) : OrbF N gens (orbsTo N gens N) := by
  obtain ⟨ks, hks⟩ : ∃ ks, (List.range N).filter (firstB N gens) = ks := ⟨_, rfl⟩
  have hO : orbsTo N gens N = ks.map (orbL N gens) := by unfold orbsTo; rw [hks]
  have hk : ∀ k ∈ ks, k < N ∧ firstB N gens k = true := fun k h => by rw [← hks] at h; exact ⟨List.mem_range.1 (List.mem_filter.1 h).1, (List.mem_filter.1 h).2⟩
  have hp : ks.Pairwise (· < ·) := by rw [← hks]; exact List.pairwise_lt_range.sublist List.filter_sublist
  have hget : ∀ (i : Nat) (o : List Int), (ks.map (orbL N gens))[i]? = some o → ∃ r, ks[i]? = some r ∧ o = orbL N gens r ∧ r < N ∧ firstB N gens r = true := fun i o h => by
    rw [List.getElem?_map] at h
    cases e : ks[i]? with
    | none => rw [e] at h; cases h
    | some r =>
      rw [e] at h
      have := hk r (List.mem_of_getElem? e)
      exact ⟨r, rfl, by simpa using h.symm, this.1, this.2⟩
  have hlt : ∀ (i j : Nat) (a b : Nat), ks[i]? = some a → ks[j]? = some b → i < j → a < b := fun i j a b ha hb hij => by
    obtain ⟨h1, e1⟩ := List.getElem?_eq_some_iff.1 ha
    obtain ⟨h2, e2⟩ := List.getElem?_eq_some_iff.1 hb
    have := List.pairwise_iff_getElem.1 hp i j h1 h2 hij
    rw [e1, e2] at this; exact this
  rw [hO]
  refine ⟨fun i o h => ?_, fun i o o' r r' h h' hr hr' => ?_, fun i j o o' x h h' hx hx' => ?_, fun x hx => ?_⟩
  · obtain ⟨r, _, rfl, h2, h3⟩ := hget i o h
    exact ⟨r, h2, rfl, orbL_head hg h2 h3⟩
  · obtain ⟨a, ha, rfl, h2, h3⟩ := hget i o h
    obtain ⟨b, hb, rfl, h4, h5⟩ := hget (i + 1) o' h'
    rw [orbL_head hg h2 h3] at hr
    rw [orbL_head hg h4 h5] at hr'
    injection hr with hr
    injection hr' with hr'
    have := hlt i (i + 1) a b ha hb (by omega)
    omega
  · obtain ⟨a, ha, rfl, h2, h3⟩ := hget i o h
    obtain ⟨b, hb, rfl, h4, h5⟩ := hget j o' h'
    obtain ⟨y, rfl, hy⟩ := (mem_orbL hg h2 x).1 hx
    obtain ⟨z, hz, hz2⟩ := (mem_orbL hg h4 _).1 hx'
    obtain rfl : y = z := by omega
    have c1 : Conn gens a b := hy.trans (hz2.symm hg h4)
    rcases Nat.lt_trichotomy i j with e | e | e
    · exact absurd c1 ((firstB_iff hg h4).1 h5 a (hlt i j a b ha hb e))
    · exact e
    · exact absurd (c1.symm hg h2) ((firstB_iff hg h2).1 h3 b (hlt j i b a hb ha e))
  · -- the least number that is connected
    have key : ∀ m y, y ≤ m → Conn gens x y → y < N → ∃ r, r < N ∧ firstB N gens r = true ∧ Conn gens x r := by
      intro m
      induction m with
      | zero =>
        intro y hy hc hyN
        obtain rfl : y = 0 := by omega
        exact ⟨0, hyN, rfl, hc⟩
      | succ m ih =>
        intro y hy hc hyN
        cases e : firstB N gens y
        · have : ¬ ∀ j, j < y → ¬ Conn gens j y := fun h => by
            have := (firstB_iff hg hyN).2 h
            rw [e] at this; cases this
          obtain ⟨j, hj⟩ := Classical.not_forall.1 this
          have hj' : j < y ∧ Conn gens j y := by
            by_cases h1 : j < y
            · by_cases h2 : Conn gens j y
              · exact ⟨h1, h2⟩
              · exact absurd (fun _ => h2) hj
            · exact absurd (fun h => absurd h h1) hj
          exact ih j (by omega) (hc.trans (hj'.2.symm hg (by omega))) (by omega)
        · exact ⟨y, hyN, e, hc⟩
    obtain ⟨r, hrN, hf, hc⟩ := key x x (Nat.le_refl _) .refl hx
    have hrk : r ∈ ks := by rw [← hks]; exact List.mem_filter.2 ⟨List.mem_range.2 hrN, hf⟩
    obtain ⟨i, hi, e⟩ := List.getElem_of_mem hrk
    exact ⟨i, orbL N gens r, by rw [List.getElem?_map, List.getElem?_eq_getElem hi, e]; rfl, (mem_orbL hg hrN _).2 ⟨x, rfl, hc.symm hg hx⟩⟩

/-- The part of the j-th orbit that is marked when k of the i-th have been. -/
def partO (i k j : Nat) (o : List Int) : List Int := if j < i then o else if j = i then o.take k else []
structure AtI (N : Nat) (O : List (List Int)) (i k : Nat) (A : List Int) : Prop where
  len : A.length = N
  set : ∀ x : Nat, x < N → ∀ (j : Nat) (o : List Int), O[j]? = some o → (x : Int) ∈ partO i k j o → A[x]? = some ((j : Int) + 1)
  un : ∀ x : Nat, x < N → (∀ (j : Nat) (o : List Int), O[j]? = some o → (x : Int) ∉ partO i k j o) → A[x]? = some 0
theorem AtI.next {O : List (List Int)} {i : Nat} {o : List Int} {A : List Int} (h : AtI N O i o.length A) (ho : O[i]? = some o) : AtI N O (i + 1) 0 A := by
  have key : ∀ (j : Nat) (p : List Int), O[j]? = some p → partO (i + 1) 0 j p = partO i o.length j p := fun j p hp => by
    unfold partO
    by_cases h1 : j < i
    · rw [if_pos (by omega), if_pos h1]
    · by_cases h2 : j = i
      · subst h2
        rw [ho] at hp; injection hp with hp; subst hp
        rw [if_pos (by omega), if_neg h1, if_pos rfl, List.take_length]
      · rw [if_neg (by omega), if_neg h1, if_neg h2]
        by_cases h3 : j = i + 1
        · rw [if_pos h3]; rfl
        · rw [if_neg h3]
  exact ⟨h.len, fun x hx j p hp hm => h.set x hx j p hp (by rw [← key j p hp]; exact hm), fun x hx hm => h.un x hx fun j p hp => by rw [← key j p hp]; exact hm j p hp⟩
theorem AtI.mark {O : List (List Int)} {i k : Nat} {o A : List Int} {x : Nat} (hF : OrbF N gens O) (h : AtI N O i k A) (ho : O[i]? = some o) (hk : o[k]? = some (x : Int)) (hx : x < N) (hd : o.Pairwise (· < ·)) : A[x]? = some 0 ∧ AtI N O i (k + 1) (A.set x ((i : Int) + 1)) := by
  have hxo : (x : Int) ∈ o := List.mem_of_getElem? hk
  have hnot : (x : Int) ∉ o.take k := fun hm => by
    obtain ⟨a, ha, e⟩ := List.getElem_of_mem hm
    obtain ⟨hk', ek⟩ := List.getElem?_eq_some_iff.1 hk
    rw [List.length_take] at ha
    have := List.pairwise_iff_getElem.1 hd a k (by omega) hk' (by omega)
    rw [List.getElem_take] at e
    rw [e, ek] at this; omega
  have hout : ∀ (j : Nat) (p : List Int), O[j]? = some p → (x : Int) ∉ partO i k j p := fun j p hp hm => by
    unfold partO at hm
    by_cases h1 : j < i
    · rw [if_pos h1] at hm
      have := hF.disj i j o p x ho hp hxo hm
      omega
    · rw [if_neg h1] at hm
      by_cases h2 : j = i
      · subst h2
        rw [ho] at hp; injection hp with hp; subst hp
        rw [if_pos rfl] at hm; exact hnot hm
      · rw [if_neg h2] at hm; simp at hm
  refine ⟨h.un x hx hout, by rw [List.length_set, h.len], fun y hy j p hp hm => ?_, fun y hy hm => ?_⟩
  · by_cases e : x = y
    · subst e
      rw [List.getElem?_set_self (by rw [h.len]; exact hx)]
      have hpp : (x : Int) ∈ p := by
        unfold partO at hm
        split at hm
        · exact hm
        · split at hm
          · exact List.mem_of_mem_take hm
          · simp at hm
      rw [hF.disj j i p o x hp ho hpp hxo]
    · rw [List.getElem?_set_ne e]
      refine h.set y hy j p hp ?_
      unfold partO at hm ⊢
      by_cases h1 : j < i
      · rw [if_pos h1] at hm ⊢; exact hm
      · rw [if_neg h1] at hm ⊢
        by_cases h2 : j = i
        · subst h2
          rw [ho] at hp; injection hp with hp; subst hp
          rw [if_pos rfl] at hm ⊢
          rw [List.take_add_one, hk] at hm
          rcases List.mem_append.1 hm with hm | hm
          · exact hm
          · simp at hm; omega
        · rw [if_neg h2] at hm; simp at hm
  · have hxy : x ≠ y := fun e => by
      subst e
      refine hm i o ho ?_
      unfold partO
      rw [if_neg (by omega), if_pos rfl, List.take_add_one, hk]
      simp
    rw [List.getElem?_set_ne hxy]
    refine h.un y hy fun j p hp hm2 => hm j p hp ?_
    unfold partO at hm2 ⊢
    by_cases h1 : j < i
    · rw [if_pos h1] at hm2 ⊢; exact hm2
    · rw [if_neg h1] at hm2 ⊢
      by_cases h2 : j = i
      · rw [if_pos h2] at hm2 ⊢
        rw [List.take_add_one]; exact List.mem_append_left _ hm2
      · rw [if_neg h2] at hm2; simp at hm2
/-- When all are marked. -/
theorem AtI.final {O : List (List Int)} {k : Nat} {A : List Int} (hF : OrbF N gens O) (h : AtI N O O.length k A) {x : Nat} (hx : x < N) : ∃ (j : Nat) (o : List Int), O[j]? = some o ∧ (x : Int) ∈ o ∧ A[x]? = some ((j : Int) + 1) := by
  obtain ⟨j, o, ho, hm⟩ := hF.all x hx
  have hj : j < O.length := (List.getElem?_eq_some_iff.1 ho).1
  exact ⟨j, o, ho, hm, h.set x hx j o ho (by unfold partO; rw [if_pos hj]; exact hm)⟩
end
end Go.Proofs.Ytkekkbbdhdamjaa
