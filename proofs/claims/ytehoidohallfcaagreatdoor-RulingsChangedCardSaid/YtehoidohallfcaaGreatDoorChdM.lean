/- What RulingsChanged says of the changes, in plain words. -/
import Derived.Test.YtehoidohallfcaaGreatDoorLwM
namespace Go.Proofs.YtehoidohallfcaaGreatDoor

theorem cgTo_pre (a b : Rk) (why : Nat) {m : Nat} : ∀ {n : Nat}, m ≤ n → ∃ r, cgTo a b why n = cgTo a b why m ++ r
  | 0, h => ⟨[], by
    have e : m = 0 := by omega
    subst e; simp⟩
  | n + 1, h => by
    by_cases e : m = n + 1
    · subst e; exact ⟨[], by simp⟩
    · obtain ⟨r, hr⟩ := cgTo_pre a b why (m := m) (n := n) (by omega)
      exact ⟨r ++ _, by rw [cgTo_step, hr, List.append_assoc]⟩
theorem cgTo_at (a b : Rk) (why : Nat) {k n : Nat} (h : k < n) (hb : cgB a b k = true) : (cgTo a b why n)[(cgTo a b why k).length]? = some (cgAt a b why k) := by
  obtain ⟨r, hr⟩ := cgTo_pre a b why (show k + 1 ≤ n from h)
  rw [hr, cgTo_step, if_pos hb, List.append_assoc, List.getElem?_append_right (Nat.le_refl _)]
  simp
theorem cgTo_l1 (a b : Rk) (why : Nat) {k : Nat} (hb : cgB a b k = true) : (cgTo a b why (k + 1)).length = (cgTo a b why k).length + 1 := by
  rw [cgTo_step, if_pos hb]; simp
theorem cgTo_l0 (a b : Rk) (why : Nat) {k : Nat} (hb : cgB a b k = false) : (cgTo a b why (k + 1)).length = (cgTo a b why k).length := by
  rw [cgTo_step, if_neg (by rw [hb]; decide)]; simp
theorem cgTo_lt (a b : Rk) (why : Nat) {k n : Nat} (h : k < n) (hb : cgB a b k = true) : (cgTo a b why k).length < (cgTo a b why n).length := (List.getElem?_eq_some_iff.1 (cgTo_at a b why h hb)).1
theorem agE_0 {G : Type} {s : Sh} {l : List Rs} {fs : List (Ft G)} {d : Int} (h : agE s l fs d = 0) : ruE s l fs d = 0 := by
  by_cases h1 : ruE s l fs d = 0
  · exact h1
  · rw [(agE_bad h1).1] at h; exact h
theorem chE_0 {G : Type} {s : Sh} {l : List Rs} {fs : List (Ft G)} {d e : Int} (h : chE s l fs d e = 0) : agE s l fs d = 0 ∧ agE s l fs e = 0 ∧ d ≤ e := by
  by_cases h1 : agE s l fs d = 0
  · by_cases h2 : agE s l fs e = 0
    · by_cases h3 : e < d
      · rw [(chE_3 h1 h2 h3).1] at h; cases h
      · exact ⟨h1, h2, by omega⟩
    · rw [(chE_2 h1 h2).1] at h; exact absurd h h2
  · rw [(chE_1 h1).1] at h; exact absurd h h1
theorem chR_0 {G : Type} {s : Sh} {l : List Rs} {fs : List (Ft G)} {d e : Int} (h : chE s l fs d e = 0) : chR s l fs d e = cgTo (agR s l fs d) (agR s l fs e) (whyN fs d e) s.cs.toNat := by
  obtain ⟨h1, h2, h3⟩ := chE_0 h
  exact (chE_4 h1 h2 (by omega)).2
theorem chR_bad {G : Type} {s : Sh} {l : List Rs} {fs : List (Ft G)} {d e : Int} (h : chE s l fs d e ≠ 0) : chR s l fs d e = [] := by unfold chR; rw [if_pos h]
theorem why_is {s : Sh} {l : List Rs} {fs : List (Ft Value)} {d e : Int} {k : Nat} (h : chE s l fs d e = 0) (hk : k < s.cs.toNat) (hb : cgB (agR s l fs d) (agR s l fs e) k = true) :
    whyN fs d e < fs.length ∧ ∀ j f, j ≤ whyN fs d e → fs[j]? = some f → begB d e f = decide (j = whyN fs d e) := by
  obtain ⟨h1, h2, h3⟩ := chE_0 h
  have hany : fs.any (begB d e) = true := by
    cases hc : fs.any (begB d e) with
    | true => rfl
    | false =>
      have := later_ch h3 (agE_0 h1) (agE_0 h2) hc
      rw [chR_0 h] at this
      have h4 := cgTo_at _ _ (whyN fs d e) hk hb
      rw [this] at h4; simp at h4
  unfold whyN
  cases hf : fs.findIdx? (begB d e) with
  | none =>
    rw [List.findIdx?_eq_none_iff] at hf
    obtain ⟨x, hx, hx2⟩ := List.any_eq_true.1 hany
    rw [hf x hx] at hx2; cases hx2
  | some i =>
    obtain ⟨hi, h5, h6⟩ := List.findIdx?_eq_some_iff_getElem.1 hf
    refine ⟨hi, fun j f hj hfj => ?_⟩
    obtain ⟨hl, rfl⟩ := List.getElem?_eq_some_iff.1 hfj
    by_cases hji : j = i
    · subst hji; rw [h5]; simp
    · have := h6 j (by simp only at hj; omega)
      simp only [hji, decide_false]
      simpa using this
end Go.Proofs.YtehoidohallfcaaGreatDoor

