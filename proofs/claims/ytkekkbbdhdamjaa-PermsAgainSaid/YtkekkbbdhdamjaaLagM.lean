/- The number of elements of a part that is a group divides that of the whole. Plain words. -/
import Derived.Test.YtkekkbbdhdamjaaFullM
import Derived.Test.YtkekkbbdhdamjaaOrdM
namespace Go.Proofs.Ytkekkbbdhdamjaa

theorem split_len {α : Type} (f : α → Bool) : ∀ l : List α, (l.filter f).length + (l.filter fun x => !f x).length = l.length
  | [] => rfl
  | x :: l => by
    have := split_len f l
    cases h : f x <;> simp [h] <;> omega
theorem coset_dvd {n : Nat} {M : List (List Int)} (hM : M.Nodup) (hok : ∀ m ∈ M, okPerm m n) (hid : idP n ∈ M) (hinv : ∀ m ∈ M, invP m n ∈ M) (hmul : ∀ a ∈ M, ∀ b ∈ M, prodL a b ∈ M) :
    ∀ (k : Nat) (R : List (List Int)), R.length ≤ k → R.Nodup → (∀ x ∈ R, okPerm x n) → (∀ m ∈ M, ∀ x ∈ R, prodL m x ∈ R) → M.length ∣ R.length
  | k, [], _, _, _, _ => by simp
  | 0, x :: R, h, _, _, _ => by simp at h
  | k + 1, x :: R, hk, hnd, hR, hc => by
    have hx : okPerm x n := hR x (List.mem_cons_self ..)
    have hCn : (M.map fun m => prodL m x).Nodup := nodup_map_inj hM fun a ha b hb e => prod_cancel' hx (hok a ha) (hok b hb) e
    have hCs : ∀ y ∈ M.map fun m => prodL m x, y ∈ x :: R := fun y hy => by
      obtain ⟨m, hm, rfl⟩ := List.mem_map.1 hy
      exact hc m hm x (List.mem_cons_self ..)
    obtain ⟨C, hC⟩ : ∃ C, (M.map fun m => prodL m x) = C := ⟨_, rfl⟩
    have hCm : ∀ y, y ∈ C ↔ ∃ m, m ∈ M ∧ prodL m x = y := fun y => by rw [← hC, List.mem_map]
    have hCl : C.length = M.length := by rw [← hC, List.length_map]
    rw [hC] at hCn hCs
    have hsp := split_len (fun y => decide (y ∈ C)) (x :: R)
    have hin : ((x :: R).filter fun y => decide (y ∈ C)).length = C.length := by
      have a := len_le_of_sub _ C (hnd.sublist (List.filter_sublist (p := fun y => decide (y ∈ C)))) fun y hy => of_decide_eq_true (List.mem_filter.1 hy).2
      have b := len_le_of_sub C ((x :: R).filter fun y => decide (y ∈ C)) hCn fun y hy => List.mem_filter.2 ⟨hCs y hy, decide_eq_true hy⟩
      omega
    have hxC : x ∈ C := (hCm x).2 ⟨_, hid, id_prod hx⟩
    have hpos : 0 < C.length := List.length_pos_of_mem hxC
    have ih := coset_dvd hM hok hid hinv hmul k ((x :: R).filter fun y => !decide (y ∈ C)) (by omega) (hnd.sublist List.filter_sublist) (fun y hy => hR y (List.mem_filter.1 hy).1) fun m hm y hy => by
      obtain ⟨hy1, hy2⟩ := List.mem_filter.1 hy
      refine List.mem_filter.2 ⟨hc m hm y hy1, ?_⟩
      simp only [Bool.not_eq_true', decide_eq_false_iff_not] at hy2 ⊢
      intro hmy
      obtain ⟨m', hm', e⟩ := (hCm _).1 hmy
      refine hy2 ((hCm y).2 ⟨prodL (invP m n) m', hmul _ (hinv m hm) _ hm', ?_⟩)
      rw [prod_assoc (inv_ok (hok m hm)) (hok m' hm') hx, e, ← prod_assoc (inv_ok (hok m hm)) (hok m hm) (hR y hy1), inv_prod (hok m hm), id_prod (hR y hy1)]
    rw [← hsp, hin, hCl]
    exact Nat.dvd_add (Nat.dvd_refl _) ih
/-- What a search that ends has found. -/
structure CloL (n : Nat) (gens L : List (List Int)) : Prop where
  nd : L.Nodup
  le : L.length ≤ 4096
  mem : ∀ p, p ∈ L ↔ Reach n gens p
section
variable {n : Nat} {gens L : List (List Int)}
theorem CloL.of (hg : ∀ g ∈ gens, okPerm g n) (h : bfsL n gens = some L) : CloL n gens L := by
  have := bfsL_gen hg
  rw [h] at this
  exact ⟨this.1, this.2.1, this.2.2⟩
theorem CloL.sort (h : CloL n gens L) : CloL n gens (sortP L) := ⟨(sortP_inc h.nd).nodup, by rw [sortP_len]; exact h.le, fun p => by rw [mem_sortP]; exact h.mem p⟩
theorem CloL.ok (h : CloL n gens L) (hg : ∀ g ∈ gens, okPerm g n) : ∀ p ∈ L, okPerm p n := fun p hp => ((h.mem p).1 hp).ok hg
theorem CloL.id (h : CloL n gens L) : idP n ∈ L := (h.mem _).2 .id
theorem CloL.inv (h : CloL n gens L) (hg : ∀ g ∈ gens, okPerm g n) : ∀ p ∈ L, invP p n ∈ L := fun _p hp => Gen.inv hg (show Gen n gens (some L) from ⟨h.nd, h.le, h.mem⟩) hp
theorem CloL.mul (h : CloL n gens L) (hg : ∀ g ∈ gens, okPerm g n) : ∀ a ∈ L, ∀ b ∈ L, prodL a b ∈ L := fun a ha b hb => (h.mem _).2 (((h.mem a).1 ha).mul hg ((h.mem b).1 hb))
/-- Lagrange. -/
theorem CloL.dvd {hens M : List (List Int)} (hg : ∀ g ∈ gens, okPerm g n) (h : CloL n gens L) (h2 : CloL n hens M) (hs : ∀ g ∈ hens, g ∈ gens) : M.length ∣ L.length ∧ ∀ p ∈ M, p ∈ L := by
  have hg2 : ∀ g ∈ hens, okPerm g n := fun g hgm => hg g (hs g hgm)
  have hsub : ∀ p ∈ M, p ∈ L := fun p hp => (h.mem p).2 (((h2.mem p).1 hp).sub hg fun g hgm => .gen hg (hs g hgm))
  exact ⟨coset_dvd h2.nd (h2.ok hg2) h2.id (h2.inv hg2) (h2.mul hg2) _ L (Nat.le_refl _) h.nd (h.ok hg) fun m hm x hx => h.mul hg m (hsub m hm) x hx, hsub⟩
/-- The search from a part of the generators ends too. -/
theorem CloL.part {hens : List (List Int)} (hg : ∀ g ∈ gens, okPerm g n) (h : CloL n gens L) (hs : ∀ g ∈ hens, g ∈ gens) : ∃ M, bfsL n hens = some M ∧ CloL n hens M := by
  have hg2 : ∀ g ∈ hens, okPerm g n := fun g hgm => hg g (hs g hgm)
  have hb := bfsL_gen hg2
  cases e : bfsL n hens with
  | some M => exact ⟨M, rfl, CloL.of hg2 e⟩
  | none =>
    rw [e] at hb
    obtain ⟨B, hnd, hl, hm⟩ := hb
    have := len_le_of_sub B L hnd fun p hp => (h.mem p).2 ((hm p hp).sub hg fun g hgm => .gen hg (hs g hgm))
    have := h.le
    omega
end
end Go.Proofs.Ytkekkbbdhdamjaa
