/- What is known at a time, in plain Lean: what later facts leave as it was. No program in sight. -/
import Derived.Test.YtfhekhjojdhmhaaFKeyM
namespace Go.Proofs.Ytfhekhjojdhmhaa

theorem of_upto (l : List Fact) (k : Key) {kn later : Int} (h : kn ≤ later) : ofL (uptoL l kn) k later = ofL l k kn := by
  unfold ofL uptoL
  rw [List.filter_filter]
  refine List.filter_congr fun f _ => ?_
  unfold ofB
  rw [Bool.eq_iff_iff]
  simp only [Bool.and_eq_true, decide_eq_true_eq]
  constructor
  · rintro ⟨⟨h1, h2⟩, h3⟩; exact ⟨h1, h3⟩
  · rintro ⟨h1, h2⟩; exact ⟨⟨h1, by omega⟩, h2⟩
theorem at_upto (l : List Fact) (k : Key) (day : Int) {kn later : Int} (h : kn ≤ later) : atF (uptoL l kn) k day later = atF l k day kn := by unfold atF; rw [of_upto l k h]
theorem atV_upto (l : List Fact) (k : Key) (day : Int) {kn later : Int} (h : kn ≤ later) : atV (uptoL l kn) k day later = atV l k day kn := by unfold atV; rw [at_upto l k day h]
theorem atOk_upto (l : List Fact) (k : Key) (day : Int) {kn later : Int} (h : kn ≤ later) : atOk (uptoL l kn) k day later = atOk l k day kn := by unfold atOk; rw [at_upto l k day h]
theorem upto_len (l : List Fact) (kn : Int) : (uptoL l kn).length ≤ l.length := List.length_filter_le _ _

/-! ### further facts that become known later -/
theorem of_more (l more : List Fact) (k : Key) {t kn : Int} (hm : ∀ f ∈ more, kn < f.kn) (ht : t ≤ kn) : ofL (l ++ more) k t = ofL l k t := by
  unfold ofL
  have e : more.filter (ofB k t) = [] := by
    rw [List.filter_eq_nil_iff]
    intro f hf
    have := hm f hf
    unfold ofB
    simp only [Bool.and_eq_true, decide_eq_true_eq]
    omega
  rw [List.filter_append, e, List.append_nil]
theorem at_more (l more : List Fact) (k : Key) (day : Int) {t kn : Int} (hm : ∀ f ∈ more, kn < f.kn) (ht : t ≤ kn) : atF (l ++ more) k day t = atF l k day t := by unfold atF; rw [of_more l more k hm ht]
theorem pts_more (l more : List Fact) (k : Key) (a b : Int) {t kn : Int} (hm : ∀ f ∈ more, kn < f.kn) (ht : t ≤ kn) : pointsL (l ++ more) k a b t = pointsL l k a b t := by
  unfold pointsL
  congr 1
  funext d
  rw [at_more l more k d hm ht]
theorem upto_more (l more : List Fact) {kn : Int} (hm : ∀ f ∈ more, kn < f.kn) : uptoL (l ++ more) kn = uptoL l kn := by
  unfold uptoL
  have e : more.filter (fun f => decide (f.kn ≤ kn)) = [] := by
    rw [List.filter_eq_nil_iff]
    intro f hf
    have := hm f hf
    simp only [decide_eq_true_eq]
    omega
  rw [List.filter_append, e, List.append_nil]
theorem dif_more (l more : List Fact) (k : Key) (day : Int) {s t kn : Int} (hm : ∀ f ∈ more, kn < f.kn) (hs : s ≤ kn) (ht : t ≤ kn) : difB (l ++ more) k day s t = difB l k day s t := by
  unfold difB; rw [at_more l more k day hm hs, at_more l more k day hm ht]
theorem spans_more (l more : List Fact) (k : Key) {s t kn : Int} (hm : ∀ f ∈ more, kn < f.kn) (hs : s ≤ kn) (ht : t ≤ kn) : spansL (l ++ more) k s t = spansL l k s t := by
  unfold spansL spansTo
  congr 1
  funext days d
  rw [dif_more l more k d hm hs ht]
theorem difOf_more (l more : List Fact) (k : Key) {s t kn : Int} (hm : ∀ f ∈ more, kn < f.kn) (hs : s ≤ kn) (ht : t ≤ kn) : difOf (l ++ more) s t k = difOf l s t k := by
  unfold difOf; rw [spans_more l more k hm hs ht]
/-- A key of which no fact speaks never differs. -/
theorem at_none (l : List Fact) (k : Key) (day t : Int) (h : ∀ f ∈ l, f.key ≠ k) : atF l k day t = none := by
  have : ofL l k t = [] := by
    unfold ofL
    rw [List.filter_eq_nil_iff]
    intro f hf
    unfold ofB
    simp [h f hf]
  unfold atF; rw [this]; rfl
theorem spansTo_none (l : List Fact) (k : Key) (s t : Int) (h : ∀ d : Int, difB l k d s t = false) : ∀ n, spansTo l k s t n = []
  | 0 => rfl
  | n + 1 => by rw [spansTo_succ, h, spansTo_none l k s t h n]; rfl
theorem difOf_none (l : List Fact) (k : Key) (s t : Int) (h : ∀ f ∈ l, f.key ≠ k) : difOf l s t k = [] := by
  unfold difOf
  rw [if_pos]
  refine spansTo_none l k s t (fun d => ?_) 1024
  unfold difB
  rw [at_none l k d s h, at_none l k d t h]; simp
theorem keys_filter (l more : List Fact) : (keysL (l ++ more)).filter (fun k => decide (k ∈ keysL l)) = keysL l := by
  refine sorted_uniq ((keysL_sorted _).filter _) (keysL_sorted _) fun x => ?_
  rw [List.mem_filter, decide_eq_true_eq, mem_keysL]
  constructor
  · exact fun h => h.2
  · intro h
    refine ⟨?_, h⟩
    obtain ⟨f, hf, e⟩ := mem_keysL.1 h
    exact ⟨f, List.mem_append_left _ hf, e⟩
theorem flatMap_filter {α β : Type} (p : α → Bool) (f : α → List β) : ∀ l : List α, (∀ x ∈ l, p x = false → f x = []) → l.flatMap f = (l.filter p).flatMap f
  | [], _ => rfl
  | x :: l, h => by
    rw [List.flatMap_cons, List.filter_cons, flatMap_filter p f l (fun y hy => h y (List.mem_cons_of_mem _ hy))]
    cases hp : p x
    · rw [h x (List.mem_cons_self ..) hp]; simp
    · simp
theorem changed_more (l more : List Fact) {s t kn : Int} (hm : ∀ f ∈ more, kn < f.kn) (hs : s ≤ kn) (ht : t ≤ kn) : changedL (l ++ more) s t = changedL l s t := by
  unfold changedL
  have e : difOf (l ++ more) s t = difOf l s t := by funext k; exact difOf_more l more k hm hs ht
  rw [e, flatMap_filter (fun k => decide (k ∈ keysL l)), keys_filter]
  intro k _ hk
  refine difOf_none l k s t fun f hf e => ?_
  have h2 : k ∈ keysL l := mem_keysL.2 ⟨f, hf, e⟩
  simp [h2] at hk
end Go.Proofs.Ytfhekhjojdhmhaa
