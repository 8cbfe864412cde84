/- The order of lists of numbers, and lists of them in that order. No program in sight. -/
import Derived.Test.YtkekkbbdhdamjaaPermM
namespace Go.Proofs.Ytkekkbbdhdamjaa

def ordL : List Int → List Int → Int
  | [], [] => 0
  | [], _ :: _ => -1
  | _ :: _, [] => 1
  | x :: a, y :: b => if x < y then -1 else if y < x then 1 else ordL a b
def ltP (a b : List Int) : Bool := decide (ordL a b < 0)
theorem ordL_cases : ∀ a b : List Int, ordL a b = -1 ∨ ordL a b = 0 ∨ ordL a b = 1
  | [], [] => .inr (.inl rfl)
  | [], _ :: _ => .inl rfl
  | _ :: _, [] => .inr (.inr rfl)
  | x :: a, y :: b => by
    unfold ordL
    by_cases h : x < y
    · rw [if_pos h]; exact .inl rfl
    · rw [if_neg h]
      by_cases h2 : y < x
      · rw [if_pos h2]; exact .inr (.inr rfl)
      · rw [if_neg h2]; exact ordL_cases a b
theorem ordL_zero : ∀ {a b : List Int}, ordL a b = 0 ↔ a = b
  | [], [] => by simp [ordL]
  | [], _ :: _ => by simp [ordL]
  | _ :: _, [] => by simp [ordL]
  | x :: a, y :: b => by
    unfold ordL
    by_cases h : x < y
    · rw [if_pos h]; simp; omega
    · rw [if_neg h]
      by_cases h2 : y < x
      · rw [if_pos h2]; simp; omega
      · rw [if_neg h2, ordL_zero]
        have : x = y := by omega
        simp [this]
theorem ordL_self (a : List Int) : ordL a a = 0 := ordL_zero.2 rfl
theorem ordL_swap : ∀ a b : List Int, ordL b a = -ordL a b
  | [], [] => rfl
  | [], _ :: _ => rfl
  | _ :: _, [] => rfl
  | x :: a, y :: b => by
    unfold ordL
    by_cases h : x < y
    · rw [if_pos h, if_neg (by omega), if_pos h]; rfl
    · rw [if_neg h]
      by_cases h2 : y < x
      · simp only [if_pos h2, if_neg h]
      · rw [if_neg h2, if_neg h2, if_neg h]; exact ordL_swap a b
theorem ltP_iff (a b : List Int) : ltP a b = true ↔ ordL a b = -1 := by
  unfold ltP; rw [decide_eq_true_eq]
  rcases ordL_cases a b with h | h | h <;> omega
theorem ltP_irrefl (a : List Int) : ltP a a = false := by unfold ltP; rw [ordL_self]; rfl
theorem ltP_asymm {a b : List Int} (h : ltP a b = true) : ltP b a = false := by
  rw [ltP_iff] at h
  unfold ltP; rw [ordL_swap a b, h]; rfl
theorem ltP_tri {a b : List Int} (h : ltP a b = false) (h2 : ltP b a = false) : a = b := by
  unfold ltP at h h2
  rw [decide_eq_false_iff_not] at h h2
  rw [ordL_swap a b] at h2
  rcases ordL_cases a b with e | e | e
  · omega
  · exact ordL_zero.1 e
  · omega
theorem ltP_trans : ∀ {a b c : List Int}, ltP a b = true → ltP b c = true → ltP a c = true
  | [], [], _, h, _ => by simp [ltP, ordL] at h
  | [], _ :: _, [], _, h2 => by simp [ltP, ordL] at h2
  | [], _ :: _, _ :: _, _, _ => rfl
  | _ :: _, [], _, h, _ => by simp [ltP, ordL] at h
  | _ :: _, _ :: _, [], _, h2 => by simp [ltP, ordL] at h2
  | x :: a, y :: b, z :: c, h, h2 => by
    rw [ltP_iff] at *
    unfold ordL at *
    by_cases h3 : x < y
    · by_cases h4 : y < z
      · rw [if_pos (by omega)]
      · rw [if_neg h4] at h2
        by_cases h5 : z < y
        · rw [if_pos h5] at h2; omega
        · rw [if_pos (by omega)]
    · rw [if_neg h3] at h
      by_cases h4 : y < x
      · rw [if_pos h4] at h; omega
      · rw [if_neg h4] at h
        by_cases h5 : y < z
        · rw [if_pos (by omega)]
        · rw [if_neg h5] at h2
          by_cases h6 : z < y
          · rw [if_pos h6] at h2; omega
          · rw [if_neg h6] at h2
            rw [if_neg (by omega), if_neg (by omega)]
            exact (ltP_iff a c).1 (ltP_trans ((ltP_iff a b).2 h) ((ltP_iff b c).2 h2))
/-- Increasing lists of lists. -/
def Inc (l : List (List Int)) : Prop := l.Pairwise fun a b => ltP a b = true
theorem Inc.nodup {l : List (List Int)} (h : Inc l) : l.Nodup := List.Pairwise.imp (fun hab e => by subst e; rw [ltP_irrefl] at hab; cases hab) h
theorem inc_uniq : ∀ {a b : List (List Int)}, Inc a → Inc b → (∀ x, x ∈ a ↔ x ∈ b) → a = b
  | [], [], _, _, _ => rfl
  | [], y :: b, _, _, h => by have := (h y).2 (List.mem_cons_self ..); simp at this
  | x :: a, [], _, _, h => by have := (h x).1 (List.mem_cons_self ..); simp at this
  | x :: a, y :: b, ha, hb, h => by
    unfold Inc at ha hb
    rw [List.pairwise_cons] at ha hb
    have hxy : x = y := by
      rcases List.mem_cons.1 ((h x).1 (List.mem_cons_self ..)) with e | e
      · exact e
      · rcases List.mem_cons.1 ((h y).2 (List.mem_cons_self ..)) with e2 | e2
        · exact e2.symm
        · have h1 := hb.1 x e
          have h2 := ha.1 y e2
          rw [ltP_asymm h1] at h2; cases h2
    subst hxy
    congr 1
    refine inc_uniq ha.2 hb.2 fun z => ?_
    constructor
    · intro hz
      rcases List.mem_cons.1 ((h z).1 (List.mem_cons_of_mem _ hz)) with e | e
      · subst e; have := ha.1 z hz; rw [ltP_irrefl] at this; cases this
      · exact e
    · intro hz
      rcases List.mem_cons.1 ((h z).2 (List.mem_cons_of_mem _ hz)) with e | e
      · subst e; have := hb.1 z hz; rw [ltP_irrefl] at this; cases this
      · exact e
def insP (p : List Int) : List (List Int) → List (List Int)
  | [] => [p]
  | a :: t => if ltP a p then a :: insP p t else p :: a :: t
theorem mem_insP {p x : List Int} : ∀ {l : List (List Int)}, x ∈ insP p l ↔ x = p ∨ x ∈ l
  | [] => by simp [insP]
  | a :: t => by
    unfold insP
    by_cases h : ltP a p = true
    · rw [if_pos h, List.mem_cons, List.mem_cons, mem_insP]
      constructor
      · rintro (h | h | h); exact .inr (.inl h); exact .inl h; exact .inr (.inr h)
      · rintro (h | h | h); exact .inr (.inl h); exact .inl h; exact .inr (.inr h)
    · rw [if_neg h]; simp
theorem insP_inc {p : List Int} : ∀ {l : List (List Int)}, Inc l → p ∉ l → Inc (insP p l)
  | [], _, _ => by simp [insP, Inc]
  | a :: t, h, hp => by
    unfold Inc at h ⊢
    rw [List.pairwise_cons] at h
    unfold insP
    by_cases h1 : ltP a p = true
    · rw [if_pos h1, List.pairwise_cons]
      refine ⟨fun x hx => ?_, insP_inc h.2 fun e => hp (List.mem_cons_of_mem _ e)⟩
      rcases mem_insP.1 hx with rfl | hx
      · exact h1
      · exact h.1 x hx
    · rw [if_neg h1, List.pairwise_cons, List.pairwise_cons]
      have h3 : ltP p a = true := by
        cases e : ltP p a
        · exact absurd (ltP_tri (by simpa using h1) e) fun e => hp (e ▸ List.mem_cons_self ..)
        · rfl
      refine ⟨fun x hx => ?_, h⟩
      rcases List.mem_cons.1 hx with rfl | hx
      · exact h3
      · exact ltP_trans h3 (h.1 x hx)
/-- Put in at its place. -/
theorem insP_at {p : List Int} : ∀ (l : List (List Int)) (k : Nat), (∀ i a, i < k → l[i]? = some a → ltP a p = true) → k ≤ l.length → (∀ a, l[k]? = some a → ltP a p = false) → insP p l = l.take k ++ p :: l.drop k
  | [], k, _, hk, _ => by
    have : k = 0 := by simpa using hk
    subst this; rfl
  | a :: t, 0, _, _, h => by
    unfold insP
    rw [if_neg (by rw [h a rfl]; decide)]; rfl
  | a :: t, k + 1, h1, hk, h => by
    unfold insP
    rw [if_pos (h1 0 a (by omega) rfl), insP_at t k (fun m b hm hb => h1 (m + 1) b (by omega) (by simpa using hb)) (by simpa using hk) (fun b hb => h b (by simpa using hb))]
    rfl
def sortP (l : List (List Int)) : List (List Int) := l.foldl (fun s x => insP x s) []
theorem sortP_snoc (l : List (List Int)) (p : List Int) : sortP (l ++ [p]) = insP p (sortP l) := by unfold sortP; rw [List.foldl_append]; rfl
theorem mem_sortP {x : List Int} (l : List (List Int)) : x ∈ sortP l ↔ x ∈ l := by
  have h : ∀ (l s : List (List Int)), x ∈ l.foldl (fun s x => insP x s) s ↔ x ∈ s ∨ x ∈ l := by
    intro l
    induction l with
    | nil => intro s; simp
    | cons a l ih =>
      intro s
      rw [List.foldl_cons, ih, mem_insP, List.mem_cons]
      constructor
      · rintro ((h | h) | h); exact .inr (.inl h); exact .inl h; exact .inr (.inr h)
      · rintro (h | h | h); exact .inl (.inr h); exact .inl (.inl h); exact .inr h
  unfold sortP; rw [h]; simp
theorem sortP_inc {l : List (List Int)} (h : l.Nodup) : Inc (sortP l) := by
  have hh : ∀ (l s : List (List Int)), l.Nodup → Inc s → (∀ x ∈ l, x ∉ s) → Inc (l.foldl (fun s x => insP x s) s) := by
    intro l
    induction l with
    | nil => intro s _ h _; exact h
    | cons a l ih =>
      intro s hn hs hd
      rw [List.nodup_cons] at hn
      rw [List.foldl_cons]
      refine ih _ hn.2 (insP_inc hs (hd a (List.mem_cons_self ..))) fun x hx h => ?_
      rcases mem_insP.1 h with rfl | h
      · exact hn.1 hx
      · exact hd x (List.mem_cons_of_mem _ hx) h
  exact hh l [] h .nil (by simp)
theorem insP_len (p : List Int) : ∀ l : List (List Int), (insP p l).length = l.length + 1
  | [] => rfl
  | a :: t => by
    unfold insP
    by_cases h : ltP a p = true
    · rw [if_pos h]; simp [insP_len p t]
    · rw [if_neg h]; rfl
theorem sortP_len (l : List (List Int)) : (sortP l).length = l.length := by
  have h : ∀ (l s : List (List Int)), (l.foldl (fun s x => insP x s) s).length = s.length + l.length := by
    intro l
    induction l with
    | nil => intro s; simp
    | cons a l ih => intro s; rw [List.foldl_cons, ih, insP_len]; simp; omega
  unfold sortP; rw [h]; simp
/-- Increasing, with the same members. -/
theorem sortP_uniq {l m : List (List Int)} (hl : l.Nodup) (hm : Inc m) (h : ∀ x, x ∈ m ↔ x ∈ l) : m = sortP l := inc_uniq hm (sortP_inc hl) fun x => by rw [h, mem_sortP]
end Go.Proofs.Ytkekkbbdhdamjaa
