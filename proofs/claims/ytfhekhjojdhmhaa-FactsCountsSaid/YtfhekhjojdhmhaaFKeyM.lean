/- The keys of facts, in order, each once; days that differ, joined to spans. No program in sight. -/
import Derived.Test.YtfhekhjojdhmhaaFDfs
import Derived.Test.YtfhekhjojdhmhaaFDif
namespace Go.Proofs.Ytfhekhjojdhmhaa
open Go.RowKit

theorem lessK_irrefl (a : Key) : lessK a a = false := by unfold lessK; rw [decide_eq_false_iff_not]; omega
theorem lessK_asymm {a b : Key} (h : lessK a b = true) : lessK b a = false := by unfold lessK at *; rw [decide_eq_true_eq] at h; rw [decide_eq_false_iff_not]; omega
theorem lessK_trans {a b c : Key} (h : lessK a b = true) (h2 : lessK b c = true) : lessK a c = true := by unfold lessK at *; rw [decide_eq_true_eq] at *; omega
theorem lessK_tri {a b : Key} (h : lessK a b = false) (h2 : lessK b a = false) : a = b := by
  unfold lessK at *; rw [decide_eq_false_iff_not] at *
  have : a.kd = b.kd ∧ a.sb = b.sb ∧ a.ob = b.ob := by omega
  cases a; cases b; simp_all
def insK (k : Key) : List Key → List Key
  | [] => [k]
  | a :: t => if lessK a k then a :: insK k t else if a = k then a :: t else k :: a :: t
def keysL (l : List Fact) : List Key := l.foldl (fun ks f => insK f.key ks) []
theorem keysL_snoc (l : List Fact) (f : Fact) : keysL (l ++ [f]) = insK f.key (keysL l) := by unfold keysL; rw [List.foldl_append]; rfl
theorem insK_eq {k : Key} : ∀ (out : List Key) (n : Nat), (∀ m a, m < n → out[m]? = some a → lessK a k = true) → out[n]? = some k → insK k out = out
  | [], n, _, h => by simp at h
  | a :: t, 0, _, h => by
    simp at h
    subst h
    unfold insK
    rw [if_neg (by rw [lessK_irrefl]; decide), if_pos rfl]
  | a :: t, n + 1, h1, h => by
    unfold insK
    rw [if_pos (h1 0 a (by omega) rfl), insK_eq t n (fun m b hm hb => h1 (m + 1) b (by omega) (by simpa using hb)) (by simpa using h)]
theorem insK_new {k : Key} : ∀ (out : List Key) (n : Nat), (∀ m a, m < n → out[m]? = some a → lessK a k = true) → n ≤ out.length → (∀ a, out[n]? = some a → lessK a k = false ∧ a ≠ k) → insK k out = out.take n ++ k :: out.drop n
  | [], n, _, hn, _ => by
    have : n = 0 := by simpa using hn
    subst this; rfl
  | a :: t, 0, _, _, h => by
    obtain ⟨h1, h2⟩ := h a rfl
    unfold insK
    rw [if_neg (by rw [h1]; decide), if_neg h2]; rfl
  | a :: t, n + 1, h1, hn, h => by
    unfold insK
    rw [if_pos (h1 0 a (by omega) rfl), insK_new t n (fun m b hm hb => h1 (m + 1) b (by omega) (by simpa using hb)) (by simpa using hn) (fun b hb => h b (by simpa using hb))]
    rfl
theorem mem_insK {k x : Key} : ∀ {out : List Key}, x ∈ insK k out ↔ x = k ∨ x ∈ out
  | [] => by simp [insK]
  | a :: t => by
    unfold insK
    by_cases h1 : lessK a k = true
    · rw [if_pos h1, List.mem_cons, List.mem_cons, mem_insK]
      constructor
      · rintro (h | h | h); exact .inr (.inl h); exact .inl h; exact .inr (.inr h)
      · rintro (h | h | h); exact .inr (.inl h); exact .inl h; exact .inr (.inr h)
    · rw [if_neg h1]
      by_cases h2 : a = k
      · rw [if_pos h2]; subst h2; simp
      · rw [if_neg h2]; simp
theorem insK_sorted {k : Key} : ∀ {out : List Key}, out.Pairwise (fun a b => lessK a b = true) → (insK k out).Pairwise (fun a b => lessK a b = true)
  | [], _ => by simp [insK]
  | a :: t, h => by
    rw [List.pairwise_cons] at h
    unfold insK
    by_cases h1 : lessK a k = true
    · rw [if_pos h1, List.pairwise_cons]
      refine ⟨fun x hx => ?_, insK_sorted h.2⟩
      rcases mem_insK.1 hx with rfl | hx
      · exact h1
      · exact h.1 x hx
    · rw [if_neg h1]
      by_cases h2 : a = k
      · rw [if_pos h2, List.pairwise_cons]; exact h
      · rw [if_neg h2, List.pairwise_cons, List.pairwise_cons]
        have h3 : lessK k a = true := by
          cases e : lessK k a
          · exact absurd (lessK_tri (by simpa using h1) e) h2
          · rfl
        refine ⟨fun x hx => ?_, h⟩
        rcases List.mem_cons.1 hx with rfl | hx
        · exact h3
        · exact lessK_trans h3 (h.1 x hx)
theorem insK_len (k : Key) : ∀ out : List Key, (insK k out).length ≤ out.length + 1
  | [] => by simp [insK]
  | a :: t => by
    unfold insK
    by_cases h1 : lessK a k = true
    · rw [if_pos h1]; have := insK_len k t; simp; omega
    · rw [if_neg h1]
      by_cases h2 : a = k
      · rw [if_pos h2]; simp
      · rw [if_neg h2]; simp
theorem foldl_ind {P : List Key → Prop} (hs : ∀ ks f, P ks → P (insK f ks)) : ∀ (l : List Fact) (ks : List Key), P ks → P (l.foldl (fun ks f => insK f.key ks) ks)
  | [], _, h => h
  | f :: l, ks, h => foldl_ind hs l _ (hs ks f.key h)
theorem keysL_sorted (l : List Fact) : (keysL l).Pairwise (fun a b => lessK a b = true) := foldl_ind (P := fun ks => ks.Pairwise (fun a b => lessK a b = true)) (fun _ _ h => insK_sorted h) l [] .nil
theorem mem_foldl (k : Key) : ∀ (l : List Fact) (ks : List Key), k ∈ l.foldl (fun ks f => insK f.key ks) ks ↔ k ∈ ks ∨ ∃ f ∈ l, f.key = k
  | [], ks => by simp
  | f :: l, ks => by
    rw [List.foldl_cons, mem_foldl k l, mem_insK]
    constructor
    · rintro ((h | h) | ⟨g, hg, e⟩)
      · exact .inr ⟨f, List.mem_cons_self .., h.symm⟩
      · exact .inl h
      · exact .inr ⟨g, List.mem_cons_of_mem _ hg, e⟩
    · rintro (h | ⟨g, hg, e⟩)
      · exact .inl (.inr h)
      · rcases List.mem_cons.1 hg with rfl | hg
        · exact .inl (.inl e.symm)
        · exact .inr ⟨g, hg, e⟩
theorem mem_keysL {l : List Fact} {k : Key} : k ∈ keysL l ↔ ∃ f ∈ l, f.key = k := by unfold keysL; rw [mem_foldl]; simp
theorem keysL_len (l : List Fact) : (keysL l).length ≤ l.length := by
  have h : ∀ (l : List Fact) (ks : List Key), (l.foldl (fun ks f => insK f.key ks) ks).length ≤ ks.length + l.length := by
    intro l
    induction l with
    | nil => intro ks; simp
    | cons f l ih => intro ks; rw [List.foldl_cons]; have := ih (insK f.key ks); have := insK_len f.key ks; simp; omega
  have := h l []
  simpa [keysL] using this
/-- Two strictly sorted lists with the same members are one. -/
theorem sorted_uniq : ∀ {a b : List Key}, a.Pairwise (fun x y => lessK x y = true) → b.Pairwise (fun x y => lessK x y = true) → (∀ x, x ∈ a ↔ x ∈ b) → a = b
  | [], [], _, _, _ => rfl
  | [], y :: b, _, _, h => by have := (h y).2 (List.mem_cons_self ..); simp at this
  | x :: a, [], _, _, h => by have := (h x).1 (List.mem_cons_self ..); simp at this
  | x :: a, y :: b, ha, hb, h => by
    rw [List.pairwise_cons] at ha hb
    have hxy : x = y := by
      rcases List.mem_cons.1 ((h x).1 (List.mem_cons_self ..)) with e | e
      · exact e
      · rcases List.mem_cons.1 ((h y).2 (List.mem_cons_self ..)) with e2 | e2
        · exact e2.symm
        · have h1 := hb.1 x e
          have h2 := ha.1 y e2
          rw [lessK_asymm h1] at h2; cases h2
    subst hxy
    congr 1
    refine sorted_uniq ha.2 hb.2 fun z => ?_
    constructor
    · intro hz
      rcases List.mem_cons.1 ((h z).1 (List.mem_cons_of_mem _ hz)) with e | e
      · subst e; have := ha.1 z hz; rw [lessK_irrefl] at this; cases this
      · exact e
    · intro hz
      rcases List.mem_cons.1 ((h z).2 (List.mem_cons_of_mem _ hz)) with e | e
      · subst e; have := hb.1 z hz; rw [lessK_irrefl] at this; cases this
      · exact e

/-! ### days -/
/-- One more day that differs. -/
def joinD (days : List (Int × Int)) (d : Int) : List (Int × Int) := match days.getLast? with
  | some s => if s.2 = d then days.dropLast ++ [(s.1, d + 1)] else days ++ [(d, d + 1)]
  | none => [(d, d + 1)]
def spansTo (l : List Fact) (k : Key) (before after : Int) (n : Nat) : List (Int × Int) := (List.range n).foldl (fun days d => if difB l k (d : Nat) before after then joinD days (d : Nat) else days) []
theorem spansTo_succ (l : List Fact) (k : Key) (before after : Int) (n : Nat) : spansTo l k before after (n + 1) = if difB l k (n : Nat) before after then joinD (spansTo l k before after n) (n : Nat) else spansTo l k before after n := by
  unfold spansTo; rw [List.range_succ, List.foldl_append]; rfl
def spansL (l : List Fact) (k : Key) (before after : Int) : List (Int × Int) := spansTo l k before after 1024
theorem joinD_len (days : List (Int × Int)) (d : Int) : (joinD days d).length ≤ days.length + 1 := by
  unfold joinD
  cases h : days.getLast? with
  | none => simp
  | some s => by_cases e : s.2 = d <;> simp [e]
theorem spansTo_len (l : List Fact) (k : Key) (before after : Int) : ∀ n, (spansTo l k before after n).length ≤ n
  | 0 => by simp [spansTo]
  | n + 1 => by
    rw [spansTo_succ]
    have := spansTo_len l k before after n
    split
    · have := joinD_len (spansTo l k before after n) (n : Nat); omega
    · omega
def difOf (l : List Fact) (before after : Int) (k : Key) : List Dif := if spansL l k before after = [] then [] else [(k, spansL l k before after)]
def changedL (l : List Fact) (before after : Int) : List Dif := (keysL l).flatMap (difOf l before after)
theorem joinD_nil (d : Int) : joinD [] d = [(d, d + 1)] := rfl
theorem joinD_last {days : List (Int × Int)} {d : Int} {s : Int × Int} (h : days[days.length - 1]? = some s) (hd : s.2 = d) : joinD days d = days.dropLast ++ [(s.1, d + 1)] := by
  unfold joinD; rw [List.getLast?_eq_getElem?, h]; simp [hd]
theorem joinD_new {days : List (Int × Int)} {d : Int} (h : ∀ s, days[days.length - 1]? = some s → s.2 ≠ d) : joinD days d = days ++ [(d, d + 1)] := by
  unfold joinD
  rw [List.getLast?_eq_getElem?]
  cases hs : days[days.length - 1]? with
  | none =>
    have : days = [] := by
      cases days with
      | nil => rfl
      | cons a t => rw [List.getElem?_eq_none_iff] at hs; simp at hs; omega
    subst this; rfl
  | some s => simp [h s hs]
end Go.Proofs.Ytfhekhjojdhmhaa
