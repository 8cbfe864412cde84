/- Order, repetition and conjugation of generators; a closure of a closure. Plain words. -/
import Derived.Test.YtkekkbbdhdamjaaOrbS
import Derived.Test.YtkekkbbdhdamjaaPClo
import Derived.Test.YtkekkbbdhdamjaaPKeep
namespace Go.Proofs.Ytkekkbbdhdamjaa

/-- Conjugation. -/
def cjP (n : Nat) (q p : List Int) : List Int := prodL q (prodL p (invP q n))
section
variable {n : Nat} {q p a b : List Int} {gens hens L : List (List Int)}
theorem cj_ok (hq : okPerm q n) (hp : okPerm p n) : okPerm (cjP n q p) n := prod_ok hq (prod_ok hp (inv_ok hq))
theorem cj_id (hq : okPerm q n) : cjP n q (idP n) = idP n := by unfold cjP; rw [id_prod (inv_ok hq), prod_inv hq]
theorem cj_mul (hq : okPerm q n) (ha : okPerm a n) (hb : okPerm b n) : cjP n q (prodL a b) = prodL (cjP n q a) (cjP n q b) := by
  have hi := inv_ok hq
  unfold cjP
  rw [prod_assoc hq (prod_ok ha hi) (prod_ok hq (prod_ok hb hi)), prod_assoc ha hi (prod_ok hq (prod_ok hb hi)), ← prod_assoc hi hq (prod_ok hb hi), inv_prod hq, id_prod (prod_ok hb hi), prod_assoc ha hb hi]
theorem cj_inj (hq : okPerm q n) (ha : okPerm a n) (hb : okPerm b n) (h : cjP n q a = cjP n q b) : a = b := by
  have hi := inv_ok hq
  unfold cjP at h
  exact prod_cancel' hi ha hb (prod_cancel hq (prod_ok ha hi) (prod_ok hb hi) h)
theorem cj_reach (hg : ∀ g ∈ gens, okPerm g n) (hq : okPerm q n) (hh : ∀ g ∈ gens, cjP n q g ∈ hens) (h : Reach n gens p) : Reach n hens (cjP n q p) := by
  induction h with
  | id => rw [cj_id hq]; exact .id
  | step hm hr ih =>
    rw [cj_mul hq (hg _ hm) (hr.ok hg)]
    exact .step (hh _ hm) ih
/-- What generators that are conjugated reach is conjugated. -/
theorem cj_reach' (hg : ∀ g ∈ gens, okPerm g n) (hq : okPerm q n) (hh : ∀ h ∈ hens, ∃ g, g ∈ gens ∧ h = cjP n q g) (h : Reach n hens p) : ∃ r, Reach n gens r ∧ p = cjP n q r := by
  induction h with
  | id => exact ⟨_, .id, (cj_id hq).symm⟩
  | step hm hr ih =>
    obtain ⟨r, hr2, rfl⟩ := ih
    obtain ⟨g, hgm, rfl⟩ := hh _ hm
    exact ⟨prodL g r, .step hgm hr2, (cj_mul hq (hg _ hgm) (hr2.ok hg)).symm⟩
theorem choose_map {α β : Type} {f : β → α} {P : β → Prop} : ∀ {l : List α}, (∀ x ∈ l, ∃ y, P y ∧ x = f y) → ∃ m : List β, l = m.map f ∧ ∀ y ∈ m, P y
  | [], _ => ⟨[], rfl, by simp⟩
  | x :: l, h => by
    obtain ⟨y, hy, rfl⟩ := h x (List.mem_cons_self ..)
    obtain ⟨m, rfl, hm⟩ := choose_map (l := l) fun z hz => h z (List.mem_cons_of_mem _ hz)
    exact ⟨y :: m, rfl, fun z hz => by
      rcases List.mem_cons.1 hz with rfl | hz
      · exact hy
      · exact hm z hz⟩
theorem nodup_of_map {α β : Type} (f : α → β) {l : List α} (h : (l.map f).Nodup) : l.Nodup := by
  unfold List.Nodup at h ⊢
  rw [List.pairwise_map] at h
  exact h.imp fun hab e => hab (by rw [e])
theorem val_zero {N : Nat} (hN : N ≤ 256) (hl : gens.length ≤ 1024) (hg : ∀ g ∈ gens, okPerm g N) : validE (N : Int) gens = 0 := by
  unfold validE
  rw [if_neg (by omega), if_neg (by omega), Int.toNat_natCast, if_pos (List.all_eq_true.2 fun g h => permB_iff.2 (hg g h))]
theorem clo_none {N : Nat} (hv : validE (N : Int) gens = 0) (h : bfsL N gens = none) : closE (N : Int) gens = 2 ∧ closR (N : Int) gens = [] := by
  unfold closE closR
  rw [if_neg (by simp [hv]), if_neg (by simp [hv]), Int.toNat_natCast, h]; exact ⟨rfl, rfl⟩
theorem clo_some {N : Nat} (hv : validE (N : Int) gens = 0) (h : bfsL N gens = some L) : closE (N : Int) gens = 0 ∧ closR (N : Int) gens = sortP L := by
  unfold closE closR
  rw [if_neg (by simp [hv]), if_neg (by simp [hv]), Int.toNat_natCast, h]; exact ⟨rfl, rfl⟩
/-- The same closure. -/
theorem clo_same {N : Nat} (hN : N ≤ 256) (hl : gens.length ≤ 1024) (hl2 : hens.length ≤ 1024) (hg : ∀ g ∈ gens, okPerm g N) (hh : ∀ g ∈ hens, okPerm g N) (e : ∀ p, Reach N gens p ↔ Reach N hens p) : closE (N : Int) gens = closE (N : Int) hens ∧ closR (N : Int) gens = closR (N : Int) hens := by
  have hv := val_zero hN hl hg
  have hv2 := val_zero hN hl2 hh
  rcases Gen.both (bfsL_gen hg) (bfsL_gen hh) e with ⟨h1, h2⟩ | ⟨L, L', h1, h2, hm, hn, hn'⟩
  · have a := clo_none hv h1
    have b := clo_none hv2 h2
    rw [a.1, a.2, b.1, b.2]; exact ⟨rfl, rfl⟩
  · have a := clo_some hv h1
    have b := clo_some hv2 h2
    rw [a.1, a.2, b.1, b.2]
    exact ⟨rfl, inc_uniq (sortP_inc hn) (sortP_inc hn') fun x => by rw [mem_sortP, mem_sortP]; exact hm x⟩
/-- The conjugated closure. -/
theorem clo_cj {N : Nat} (hN : N ≤ 256) (hl : gens.length ≤ 1024) (hl2 : hens.length ≤ 1024) (hg : ∀ g ∈ gens, okPerm g N) (hq : okPerm q N) (h1 : ∀ g ∈ gens, cjP N q g ∈ hens) (h2 : ∀ h ∈ hens, ∃ g, g ∈ gens ∧ h = cjP N q g) : closE (N : Int) gens = closE (N : Int) hens ∧ (closR (N : Int) gens).length = (closR (N : Int) hens).length ∧ Inc (closR (N : Int) hens) ∧ ∀ p ∈ closR (N : Int) gens, cjP N q p ∈ closR (N : Int) hens := by
  have hh : ∀ h ∈ hens, okPerm h N := fun h hm => by obtain ⟨g, hgm, rfl⟩ := h2 h hm; exact cj_ok hq (hg g hgm)
  have hv := val_zero hN hl hg
  have hv2 := val_zero hN hl2 hh
  have G1 := bfsL_gen hg
  have G2 := bfsL_gen hh
  cases e1 : bfsL N gens with
  | none =>
    rw [e1] at G1
    obtain ⟨B, hnd, hB, hm⟩ := G1
    cases e2 : bfsL N hens with
    | none =>
      have a := clo_none hv e1
      have b := clo_none hv2 e2
      rw [a.1, a.2, b.1, b.2]
      exact ⟨rfl, rfl, List.Pairwise.nil, fun p hp => by simp at hp⟩
    | some M =>
      have hM := CloL.of hh e2
      have hn2 : (B.map (cjP N q)).Nodup := nodup_map_inj hnd fun x hx y hy e => cj_inj hq ((hm x hx).ok hg) ((hm y hy).ok hg) e
      have := len_le_of_sub _ M hn2 fun p hp => by
        obtain ⟨r, hr, rfl⟩ := List.mem_map.1 hp
        exact (hM.mem _).2 (cj_reach hg hq h1 (hm r hr))
      have := hM.le
      rw [List.length_map] at *
      omega
  | some L =>
    have hL := CloL.of hg e1
    cases e2 : bfsL N hens with
    | none =>
      rw [e2] at G2
      obtain ⟨B, hnd, hB, hm⟩ := G2
      obtain ⟨M, rfl, hMm⟩ := choose_map (f := cjP N q) (P := Reach N gens) (l := B) fun p hp => cj_reach' hg hq h2 (hm p hp)
      have := len_le_of_sub M L (nodup_of_map _ hnd) fun p hp => (hL.mem p).2 (hMm p hp)
      have := hL.le
      rw [List.length_map] at hB
      omega
    | some M =>
      have hM := CloL.of hh e2
      have a := clo_some hv e1
      have b := clo_some hv2 e2
      rw [a.1, a.2, b.1, b.2]
      refine ⟨rfl, ?_, sortP_inc hM.nd, fun p hp => ?_⟩
      · rw [sortP_len, sortP_len]
        refine Nat.le_antisymm ?_ ?_
        · have := len_le_of_sub (L.map (cjP N q)) M (nodup_map_inj hL.nd fun x hx y hy e => cj_inj hq (hL.ok hg x hx) (hL.ok hg y hy) e) fun p hp => by
            obtain ⟨r, hr, rfl⟩ := List.mem_map.1 hp
            exact (hM.mem _).2 (cj_reach hg hq h1 ((hL.mem r).1 hr))
          simpa using this
        · obtain ⟨K, hK, hKm⟩ := choose_map (f := cjP N q) (P := Reach N gens) (l := M) fun p hp => cj_reach' hg hq h2 ((hM.mem p).1 hp)
          have hnd := hM.nd
          rw [hK] at hnd
          have := len_le_of_sub K L (nodup_of_map _ hnd) fun p hp => (hL.mem p).2 (hKm p hp)
          rw [hK, List.length_map]; exact this
      · rw [mem_sortP] at hp ⊢
        exact (hM.mem _).2 (cj_reach hg hq h1 ((hL.mem p).1 hp))
/-- Ways along the elements of a group are ways along its generators. -/
theorem conn_same (hg : ∀ g ∈ gens, okPerm g n) (h : CloL n gens L) {i j : Nat} (hi : i < n) : Conn L i j ↔ Conn gens i j := by
  have hL := h.ok hg
  constructor
  · intro hc
    induction hc with
    | refl => exact .refl
    | step hm hp ih => exact ih.trans (reach_conn hg ((h.mem _).1 hm) (hp.lt hL hi))
  · intro hc
    induction hc with
    | refl => exact .refl
    | step hm hp ih => exact .step ((h.mem _).2 (.gen hg hm)) ih
theorem orbs_same (hg : ∀ g ∈ gens, okPerm g n) (h : CloL n gens L) : orbsTo n L n = orbsTo n gens n := by
  have hL := h.ok hg
  have hc : ∀ i j, i < n → connB n L i j = connB n gens i j := fun i j hi => by
    rw [Bool.eq_iff_iff, connB_iff hL hi, connB_iff hg hi]; exact conn_same hg h hi
  have hf : ∀ i ∈ List.range n, firstB n L i = firstB n gens i := fun i hi => by
    have hi := List.mem_range.1 hi
    unfold firstB
    rw [Bool.eq_iff_iff, List.all_eq_true, List.all_eq_true]
    constructor
    · intro h1 j hj
      rw [← hc j i (by have := List.mem_range.1 hj; omega)]; exact h1 j hj
    · intro h1 j hj
      rw [hc j i (by have := List.mem_range.1 hj; omega)]; exact h1 j hj
  unfold orbsTo
  rw [List.filter_congr hf]
  apply List.map_congr_left
  intro i hi
  have hi := List.mem_range.1 (List.mem_filter.1 hi).1
  unfold orbL
  rw [List.filter_congr fun j _ => hc i j hi]
/-- A closure generates itself. -/
theorem clo_self {N : Nat} (hN : N ≤ 256) (hl : L.length ≤ 1024) (hg : ∀ g ∈ gens, okPerm g N) (h : CloL N gens L) (hi : Inc L) : closE (N : Int) L = 0 ∧ closR (N : Int) L = L ∧ validE (N : Int) L = 0 ∧ orbR (N : Int) L = orbsTo N gens N := by
  have hL := h.ok hg
  have hv := val_zero hN hl hL
  have hr : ∀ p, Reach N L p ↔ p ∈ L := fun p => by
    rw [h.mem]
    constructor
    · exact fun hp => hp.sub hg fun g hm => (h.mem g).1 hm
    · exact fun hp => .gen hL ((h.mem p).2 hp)
  have G := bfsL_gen hL
  have ho : orbR (N : Int) L = orbsTo N gens N := by
    unfold orbR
    rw [if_neg (by simp [hv]), Int.toNat_natCast, orbs_same hg h]
  cases e : bfsL N L with
  | none =>
    rw [e] at G
    obtain ⟨B, hnd, hB, hm⟩ := G
    have := len_le_of_sub B L hnd fun p hp => (hr p).1 (hm p hp)
    omega
  | some M =>
    have hM := CloL.of hL e
    have a := clo_some hv e
    refine ⟨a.1, ?_, hv, ho⟩
    rw [a.2]
    exact inc_uniq (sortP_inc hM.nd) hi fun x => by rw [mem_sortP, hM.mem, hr]
end
end Go.Proofs.Ytkekkbbdhdamjaa
