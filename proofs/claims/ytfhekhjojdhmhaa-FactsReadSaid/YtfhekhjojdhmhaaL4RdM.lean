/- A read is alike exactly if no change touches it, in plain Lean. No program in sight. -/
import Derived.Test.YtfhekhjojdhmhaaL4UpM
import Derived.Test.YtfhekhjojdhmhaaFAlk
namespace Go.Proofs.Ytfhekhjojdhmhaa

/-- Spans of the days below n on which p holds. -/
structure SpOk (p : Int → Bool) (n : Nat) (days : List (Int × Int)) : Prop where
  pos : ∀ s ∈ days, 0 ≤ s.1 ∧ s.1 < s.2 ∧ s.2 ≤ n
  sep : ∀ i s t, days[i]? = some s → days[i + 1]? = some t → s.2 < t.1
  cov : ∀ d : Int, (∃ s ∈ days, s.1 ≤ d ∧ d < s.2) ↔ (0 ≤ d ∧ d < n ∧ p d = true)
theorem SpOk.nil (p : Int → Bool) : SpOk p 0 [] := ⟨fun _ h => by simp at h, fun _ _ _ h => by simp at h, fun d => ⟨fun ⟨_, h, _⟩ => by simp at h, fun ⟨h1, h2, _⟩ => by omega⟩⟩
theorem SpOk.off {p : Int → Bool} {n : Nat} {days : List (Int × Int)} (h : SpOk p n days) (hp : p n = false) : SpOk p (n + 1) days where
  pos := fun s hs => by have := h.pos s hs; omega
  sep := h.sep
  cov := fun d => by
    rw [h.cov d]
    constructor
    · rintro ⟨h1, h2, h3⟩; exact ⟨h1, by omega, h3⟩
    · rintro ⟨h1, h2, h3⟩
      refine ⟨h1, ?_, h3⟩
      by_cases e : d = n
      · subst e; rw [hp] at h3; cases h3
      · omega
theorem SpOk.add {p : Int → Bool} {n : Nat} {days : List (Int × Int)} (h : SpOk p n days) (hp : p n = true) (hl : ∀ s, days[days.length - 1]? = some s → s.2 ≠ n) : SpOk p (n + 1) (days ++ [((n : Int), (n : Int) + 1)]) where
  pos := fun s hs => by
    rcases List.mem_append.1 hs with hs | hs
    · have := h.pos s hs; omega
    · simp at hs; subst hs; simp; omega
  sep := fun i s t hs ht => by
    by_cases hi : i + 1 < days.length
    · rw [List.getElem?_append_left (by omega)] at hs
      rw [List.getElem?_append_left hi] at ht
      exact h.sep i s t hs ht
    · by_cases hi2 : i + 1 = days.length
      · rw [List.getElem?_append_left (by omega)] at hs
        rw [List.getElem?_append_right (by omega)] at ht
        simp [hi2] at ht
        subst ht
        have h1 := hl s (by rw [← hi2]; exact hs)
        have h2 := h.pos s (List.mem_of_getElem? hs)
        simp only; omega
      · rw [List.getElem?_append_right (by omega)] at ht
        rw [List.getElem?_eq_none (by simp; omega)] at ht; cases ht
  cov := fun d => by
    constructor
    · rintro ⟨s, hs, h1, h2⟩
      rcases List.mem_append.1 hs with hs | hs
      · have := (h.cov d).1 ⟨s, hs, h1, h2⟩; exact ⟨this.1, by omega, this.2.2⟩
      · simp at hs; subst hs
        simp only at h1 h2
        have : d = n := by omega
        subst this; exact ⟨by omega, by omega, hp⟩
    · rintro ⟨h1, h2, h3⟩
      by_cases e : d = n
      · exact ⟨(n, (n : Int) + 1), by simp, by simp only; omega, by simp only; omega⟩
      · obtain ⟨s, hs, h4⟩ := (h.cov d).2 ⟨h1, by omega, h3⟩
        exact ⟨s, List.mem_append_left _ hs, h4⟩
theorem SpOk.grow {p : Int → Bool} {n : Nat} {init : List (Int × Int)} {s : Int × Int} (h : SpOk p n (init ++ [s])) (hp : p n = true) (hs2 : s.2 = n) : SpOk p (n + 1) (init ++ [(s.1, (n : Int) + 1)]) where
  pos := fun t ht => by
    rcases List.mem_append.1 ht with ht | ht
    · have := h.pos t (List.mem_append_left _ ht); omega
    · simp at ht; subst ht
      have := h.pos s (by simp)
      simp only; omega
  sep := fun i a b ha hb => by
    by_cases hi : i + 1 < init.length
    · rw [List.getElem?_append_left (by omega)] at ha
      rw [List.getElem?_append_left hi] at hb
      exact h.sep i a b (by rw [List.getElem?_append_left (by omega)]; exact ha) (by rw [List.getElem?_append_left hi]; exact hb)
    · by_cases hi2 : i + 1 = init.length
      · rw [List.getElem?_append_left (by omega)] at ha
        rw [List.getElem?_append_right (by omega)] at hb
        simp [hi2] at hb
        subst hb
        have := h.sep i a s (by rw [List.getElem?_append_left (by omega)]; exact ha) (by rw [List.getElem?_append_right (by omega)]; simp [hi2])
        exact this
      · rw [List.getElem?_append_right (by omega)] at hb
        rw [List.getElem?_eq_none (by simp; omega)] at hb; cases hb
  cov := fun d => by
    constructor
    · rintro ⟨t, ht, h1, h2⟩
      rcases List.mem_append.1 ht with ht | ht
      · have := (h.cov d).1 ⟨t, List.mem_append_left _ ht, h1, h2⟩; exact ⟨this.1, by omega, this.2.2⟩
      · simp at ht; subst ht
        simp only at h1 h2
        by_cases e : d = n
        · subst e; exact ⟨by omega, by omega, hp⟩
        · have := (h.cov d).1 ⟨s, by simp, h1, by omega⟩; exact ⟨this.1, by omega, this.2.2⟩
    · rintro ⟨h1, h2, h3⟩
      by_cases e : d = n
      · have := h.pos s (by simp)
        exact ⟨(s.1, (n : Int) + 1), by simp, by simp only; omega, by simp only; omega⟩
      · obtain ⟨t, ht, h4, h5⟩ := (h.cov d).2 ⟨h1, by omega, h3⟩
        rcases List.mem_append.1 ht with ht | ht
        · exact ⟨t, List.mem_append_left _ ht, h4, h5⟩
        · simp at ht; subst ht
          exact ⟨(t.1, (n : Int) + 1), by simp, h4, by simp only; omega⟩
theorem SpOk.join {p : Int → Bool} {n : Nat} {days : List (Int × Int)} (h : SpOk p n days) (hp : p n = true) : SpOk p (n + 1) (joinD days n) := by
  cases hl : days[days.length - 1]? with
  | none =>
    rw [joinD_new (by intro s hs; rw [hl] at hs; cases hs)]
    exact h.add hp (by intro s hs; rw [hl] at hs; cases hs)
  | some s =>
    by_cases e : s.2 = n
    · rw [joinD_last hl e]
      have hne : days ≠ [] := by rintro rfl; simp at hl
      have e2 : days = days.dropLast ++ [s] := by
        have h3 : days.getLast hne = s := by rw [List.getLast_eq_getElem]; exact (List.getElem?_eq_some_iff.1 hl).2
        rw [← h3]; exact (List.dropLast_concat_getLast hne).symm
      rw [e2] at h
      have := h.grow hp e
      exact this
    · rw [joinD_new (by intro s' hs; rw [hl] at hs; injection hs with hs; subst hs; exact e)]
      exact h.add hp (by intro s' hs; rw [hl] at hs; injection hs with hs; subst hs; exact e)
theorem spansTo_ok (l : List Fact) (k : Key) (s t : Int) : ∀ n, SpOk (fun d => difB l k d s t) n (spansTo l k s t n)
  | 0 => SpOk.nil _
  | n + 1 => by
    rw [spansTo_succ]
    have ih := spansTo_ok l k s t n
    by_cases h : difB l k (n : Nat) s t = true
    · rw [if_pos h]; exact ih.join h
    · rw [if_neg h]; exact ih.off (by simpa using h)
theorem spans_ok (l : List Fact) (k : Key) (s t : Int) : ∃ n : Nat, (n : Int) = 1024 ∧ SpOk (fun d => difB l k d s t) n (spansL l k s t) := ⟨1024, rfl, spansTo_ok l k s t 1024⟩
theorem fm_congr {α β : Type} {f g : α → Option β} : ∀ l : List α, (∀ x ∈ l, f x = g x) → l.filterMap f = l.filterMap g
  | [], _ => rfl
  | x :: l, h => by rw [List.filterMap_cons, List.filterMap_cons, h x (List.mem_cons_self ..), fm_congr l fun y hy => h y (List.mem_cons_of_mem _ hy)]

theorem mem_pts (l : List Fact) (k : Key) (a b t : Int) (d v : Int) : (d, v) ∈ pointsL l k a b t ↔ (0 ≤ d ∧ d < 1024 ∧ a ≤ d ∧ d < b) ∧ atF l k d t = some v := by
  unfold pointsL daysL
  rw [List.mem_filterMap]
  constructor
  · rintro ⟨d', hd, e⟩
    rw [List.mem_filter, List.mem_map] at hd
    obtain ⟨⟨i, hi, rfl⟩, h2⟩ := hd
    rw [List.mem_range] at hi
    cases hat : atF l k (Int.ofNat i) t with
    | none => rw [hat] at e; cases e
    | some v' =>
      rw [hat] at e
      simp only [Option.map_some, Option.some.injEq, Prod.mk.injEq] at e
      obtain ⟨rfl, rfl⟩ := e
      simp only [decide_eq_true_eq] at h2
      exact ⟨⟨by simp, by simp; omega, h2.1, h2.2⟩, hat⟩
  · rintro ⟨⟨h1, h2, h3, h4⟩, h5⟩
    refine ⟨d, ?_, by rw [h5]; rfl⟩
    rw [List.mem_filter, List.mem_map]
    exact ⟨⟨d.toNat, List.mem_range.2 (by omega), by simp; omega⟩, by simp [h3, h4]⟩
theorem pts_eq_iff (l : List Fact) (k : Key) (a b s t : Int) : pointsL l k a b s = pointsL l k a b t ↔ ∀ d : Int, 0 ≤ d → d < 1024 → a ≤ d → d < b → difB l k d s t = false := by
  constructor
  · intro h d h1 h2 h3 h4
    unfold difB
    rw [decide_eq_false_iff_not, Classical.not_not]
    cases hs : atF l k d s with
    | none =>
      cases ht : atF l k d t with
      | none => rfl
      | some v =>
        have := (mem_pts l k a b t d v).2 ⟨⟨h1, h2, h3, h4⟩, ht⟩
        rw [← h, mem_pts] at this
        rw [hs] at this; cases this.2
    | some v =>
      have := (mem_pts l k a b s d v).2 ⟨⟨h1, h2, h3, h4⟩, hs⟩
      rw [h, mem_pts] at this
      exact this.2.symm
  · intro h
    unfold pointsL
    refine fm_congr _ fun d hd => ?_
    unfold daysL at hd
    rw [List.mem_filter, List.mem_map] at hd
    obtain ⟨⟨i, hi, rfl⟩, h2⟩ := hd
    rw [List.mem_range] at hi
    simp only [decide_eq_true_eq] at h2
    have := h (Int.ofNat i) (by simp) (by simp; omega) h2.1 h2.2
    unfold difB at this
    rw [decide_eq_false_iff_not, Classical.not_not] at this
    rw [this]

/-- A span touches a read. -/
def ovB (r : Rd) (s : Int × Int) : Bool := decide (max r.fr s.1 < min r.til s.2)
def touchQ (r : Rd) (d : Dif) (q : Nat) : Bool := decide (d.1 = r.key) && (d.2.take q).any (ovB r)
def touchI (r : Rd) (ds : List Dif) (i : Nat) : Bool := (ds.take i).any fun d => touchQ r d d.2.length
theorem touchQ_succ {r : Rd} {d : Dif} {q : Nat} {s : Int × Int} (hs : d.2[q]? = some s) : touchQ r d (q + 1) = (touchQ r d q || (decide (d.1 = r.key) && ovB r s)) := by
  unfold touchQ
  rw [List.take_add_one, hs, List.any_append, Bool.and_or_distrib_left]; simp
theorem touchI_succ {r : Rd} {ds : List Dif} {i : Nat} {d : Dif} (hd : ds[i]? = some d) : touchI r ds (i + 1) = (touchI r ds i || touchQ r d d.2.length) := by
  unfold touchI
  rw [List.take_add_one, hd, List.any_append]; simp
theorem mem_changed {l : List Fact} {s t : Int} {d : Dif} : d ∈ changedL l s t ↔ d.1 ∈ keysL l ∧ spansL l d.1 s t ≠ [] ∧ d.2 = spansL l d.1 s t := by
  unfold changedL
  rw [List.mem_flatMap]
  constructor
  · rintro ⟨k, hk, hd⟩
    unfold difOf at hd
    by_cases e : spansL l k s t = []
    · rw [if_pos e] at hd; simp at hd
    · rw [if_neg e] at hd; simp at hd; subst hd; exact ⟨hk, e, by dsimp only⟩
  · rintro ⟨h1, h2, h3⟩
    refine ⟨d.1, h1, ?_⟩
    unfold difOf
    rw [if_neg h2, ← h3]; simp
theorem touch_iff (l : List Fact) (r : Rd) (s t : Int) : touchI r (changedL l s t) (changedL l s t).length = true ↔ ∃ d : Int, 0 ≤ d ∧ d < 1024 ∧ r.fr ≤ d ∧ d < r.til ∧ difB l r.key d s t = true := by
  unfold touchI
  rw [List.take_of_length_le (Nat.le_refl _), List.any_eq_true]
  constructor
  · rintro ⟨d, hd, h⟩
    obtain ⟨h1, h2, h3⟩ := mem_changed.1 hd
    unfold touchQ at h
    rw [List.take_of_length_le (Nat.le_refl _), Bool.and_eq_true, decide_eq_true_eq, List.any_eq_true] at h
    obtain ⟨hk, sp, hsp, ho⟩ := h
    unfold ovB at ho
    rw [decide_eq_true_eq] at ho
    rw [h3, hk] at hsp
    obtain ⟨n, hn, hok⟩ := spans_ok l r.key s t
    have hp := hok.pos sp hsp
    have hc := (hok.cov (max r.fr sp.1)).1 ⟨sp, hsp, by omega, by omega⟩
    exact ⟨max r.fr sp.1, hc.1, by have := hc.2.1; omega, by omega, by omega, hc.2.2⟩
  · rintro ⟨d, h1, h2, h3, h4, h5⟩
    obtain ⟨n, hn, hok⟩ := spans_ok l r.key s t
    obtain ⟨sp, hsp, h6, h7⟩ := (hok.cov d).2 ⟨h1, by omega, h5⟩
    have hne : spansL l r.key s t ≠ [] := by intro e; rw [e] at hsp; simp at hsp
    have hk : r.key ∈ keysL l := by
      rw [mem_keysL]
      refine Classical.byContradiction fun hn => hne ?_
      have hn2 : ∀ f ∈ l, f.key ≠ r.key := fun f hf e => hn ⟨f, hf, e⟩
      unfold spansL
      refine spansTo_none l r.key s t (fun d => ?_) 1024
      unfold difB; rw [at_none l r.key d s hn2, at_none l r.key d t hn2]; simp
    refine ⟨(r.key, spansL l r.key s t), mem_changed.2 ⟨hk, hne, by dsimp only⟩, ?_⟩
    unfold touchQ
    rw [List.take_of_length_le (Nat.le_refl _), Bool.and_eq_true, List.any_eq_true]
    dsimp only
    refine ⟨decide_eq_true rfl, sp, hsp, ?_⟩
    unfold ovB; rw [decide_eq_true_eq]; omega
/-- The law's answer. -/
theorem alike_touch (l : List Fact) (r : Rd) (s t : Int) : alikeB l [r] s t = !touchI r (changedL l s t) (changedL l s t).length := by
  have h1 : alikeB l [r] s t = decide (rdPts l s r = rdPts l t r) := by unfold alikeB; simp
  rw [h1, Bool.eq_iff_iff, decide_eq_true_eq]
  unfold rdPts
  rw [pts_eq_iff, Bool.not_eq_true', ← Bool.not_eq_true, touch_iff]
  constructor
  · rintro h ⟨d, h1, h2, h3, h4, h5⟩
    rw [h d h1 h2 h3 h4] at h5; cases h5
  · intro h d h1 h2 h3 h4
    cases e : difB l r.key d s t
    · rfl
    · exact absurd ⟨d, h1, h2, h3, h4, e⟩ h
/-- What the law asks of each span. -/
theorem span_first {l : List Fact} {s t : Int} {i q : Nat} {d : Dif} {sp : Int × Int} (hd : (changedL l s t)[i]? = some d) (hs : d.2[q]? = some sp) :
    0 ≤ sp.1 ∧ sp.1 < sp.2 ∧ sp.2 ≤ 1024 ∧ atF l d.1 sp.1 s ≠ atF l d.1 sp.1 t ∧ ∀ q' sp', q = q' + 1 → d.2[q']? = some sp' → sp'.2 < sp.1 := by
  obtain ⟨h1, h2, h3⟩ := mem_changed.1 (List.mem_of_getElem? hd)
  obtain ⟨n, hn, hok⟩ := spans_ok l d.1 s t
  rw [← h3] at hok
  have hp := hok.pos sp (List.mem_of_getElem? hs)
  have hc := (hok.cov sp.1).1 ⟨sp, List.mem_of_getElem? hs, by omega, by omega⟩
  refine ⟨hp.1, hp.2.1, by have := hp.2.2; omega, ?_, fun q' sp' e h => hok.sep q' sp' sp h (by rw [← e]; exact hs)⟩
  have := hc.2.2
  unfold difB at this
  exact of_decide_eq_true this
theorem at_parts {l : List Fact} {k : Key} {d s t : Int} (h : atF l k d s ≠ atF l k d t) : (atOk l k d s == atOk l k d t) = false ∨ (atOk l k d s == atOk l k d t) = true ∧ (atV l k d s == atV l k d t) = false := by
  unfold atOk atV
  cases hs : atF l k d s <;> cases ht : atF l k d t
  · rw [hs, ht] at h; exact absurd rfl h
  · left; rfl
  · left; rfl
  · right
    rw [hs, ht] at h
    exact ⟨rfl, by simpa using h⟩
end Go.Proofs.Ytfhekhjojdhmhaa
