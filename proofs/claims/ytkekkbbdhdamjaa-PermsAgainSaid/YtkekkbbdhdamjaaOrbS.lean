/- The orbit of a number has as many elements as the group, divided by the number of elements that leave it where it is. Plain words. -/
import Derived.Test.YtkekkbbdhdamjaaLagM
namespace Go.Proofs.Ytkekkbbdhdamjaa

theorem fibre {α : Type} (f : α → Nat) (c : Nat) : ∀ (O : List Nat) (L : List α), O.Nodup → (∀ p ∈ L, f p ∈ O) → (∀ y ∈ O, (L.filter fun p => decide (f p = y)).length = c) → L.length = O.length * c
  | [], L, _, h, _ => by
    cases L with
    | nil => simp
    | cons p L => have := h p (List.mem_cons_self ..); simp at this
  | y :: O, L, hn, h, hc => by
    have hn := List.nodup_cons.1 hn
    have hs := split_len (fun p => decide (f p = y)) L
    have h1 := hc y (List.mem_cons_self ..)
    have ih := fibre f c O (L.filter fun p => !decide (f p = y)) hn.2 (fun p hp => by
      obtain ⟨h1, h2⟩ := List.mem_filter.1 hp
      rcases List.mem_cons.1 (h p h1) with e | e
      · simp [e] at h2
      · exact e) fun z hz => by
      rw [← hc z (List.mem_cons_of_mem _ hz), List.filter_filter]
      congr 1
      apply List.filter_congr
      intro p _
      by_cases e : f p = z
      · have : ¬ z = y := fun e2 => hn.1 (e2 ▸ hz)
        simp [e, this]
      · simp [e]
    rw [List.length_cons, Nat.succ_mul, ← hs, h1, ih, Nat.add_comm]
section
variable {n : Nat} {gens L : List (List Int)}
theorem reach_conn (hg : ∀ g ∈ gens, okPerm g n) {p : List Int} (h : Reach n gens p) {x : Nat} (hx : x < n) : Conn gens x (ap p x) := by
  induction h with
  | id => rw [ap_id hx]; exact .refl
  | step hm hr ih => rw [ap_prod (hg _ hm) (hr.ok hg) hx]; exact .step hm ih
theorem conn_reach (hg : ∀ g ∈ gens, okPerm g n) {x y : Nat} (hx : x < n) (h : Conn gens x y) : ∃ p, Reach n gens p ∧ ap p x = y := by
  induction h with
  | refl => exact ⟨idP n, .id, ap_id hx⟩
  | step hm _ ih =>
    obtain ⟨p, hp, e⟩ := ih
    exact ⟨prodL _ p, .step hm hp, by rw [ap_prod (hg _ hm) (hp.ok hg) hx, e]⟩
/-- The elements that bring x to y. -/
def bring (L : List (List Int)) (x y : Nat) : List (List Int) := L.filter fun p => decide (ap p x = y)
theorem bring_le (hg : ∀ g ∈ gens, okPerm g n) (h : CloL n gens L) {x y z : Nat} (hx : x < n) {q : List Int} (hq : q ∈ L) (_hy : y < n) (e : ap q y = z) : (bring L x y).length ≤ (bring L x z).length := by
  have hqo := h.ok hg q hq
  have hnd : ((bring L x y).map (prodL q)).Nodup := nodup_map_inj (h.nd.sublist List.filter_sublist) fun a ha b hb e => prod_cancel hqo (h.ok hg a (List.mem_filter.1 ha).1) (h.ok hg b (List.mem_filter.1 hb).1) e
  have := len_le_of_sub _ (bring L x z) hnd fun p hp => by
    obtain ⟨a, ha, rfl⟩ := List.mem_map.1 hp
    obtain ⟨h1, h2⟩ := List.mem_filter.1 ha
    refine List.mem_filter.2 ⟨h.mul hg q hq a h1, decide_eq_true ?_⟩
    rw [ap_prod hqo (h.ok hg a h1) hx, of_decide_eq_true h2, e]
  simpa using this
theorem bring_eq (hg : ∀ g ∈ gens, okPerm g n) (h : CloL n gens L) {x y : Nat} (hx : x < n) (hc : Conn gens x y) : (bring L x y).length = (bring L x x).length ∧ ∃ p, p ∈ L ∧ ap p x = y := by
  obtain ⟨q, hq, e⟩ := conn_reach hg hx hc
  have hqL := (h.mem q).2 hq
  have hqo := hq.ok hg
  have hy : y < n := hc.lt hg hx
  refine ⟨Nat.le_antisymm (bring_le hg h hx (h.inv hg q hqL) hy (by rw [← e, ap_inv hqo hx])) (bring_le hg h hx hqL hx e), q, hqL, e⟩
/-- Orbit and stabilizer. -/
theorem orb_stab (hg : ∀ g ∈ gens, okPerm g n) (h : CloL n gens L) {x : Nat} (hx : x < n) (O : List Nat) (hO : O.Nodup) (hm : ∀ y, y ∈ O ↔ Conn gens x y) : L.length = O.length * (bring L x x).length ∧ 0 < (bring L x x).length := by
  refine ⟨fibre (fun p => ap p x) _ O L hO (fun p hp => (hm _).2 (reach_conn hg ((h.mem p).1 hp) hx)) fun y hy => (bring_eq hg h hx ((hm y).1 hy)).1, ?_⟩
  exact List.length_pos_of_mem (List.mem_filter.2 ⟨h.id, decide_eq_true (ap_id hx)⟩)
end
end Go.Proofs.Ytkekkbbdhdamjaa
