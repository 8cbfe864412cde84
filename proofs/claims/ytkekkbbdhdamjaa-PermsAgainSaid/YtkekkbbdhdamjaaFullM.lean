/- The rotation and the exchange of the first two numbers generate all permutations. Plain words. -/
import Derived.Test.YtkekkbbdhdamjaaOrbM
namespace Go.Proofs.Ytkekkbbdhdamjaa

def sw (a b x : Nat) : Nat := if x = a then b else if x = b then a else x
section
variable {n a b x : Nat}
theorem sw_lt (ha : a < n) (hb : b < n) (hx : x < n) : sw a b x < n := by unfold sw; split; exact hb; split; exact ha; exact hx
theorem sw_sw (a b x : Nat) : sw a b (sw a b x) = x := by
  unfold sw
  by_cases h1 : x = a
  · by_cases h2 : b = a
    · simp [h1, h2]
    · simp [h1, h2]
  · by_cases h2 : x = b
    · simp [h2]
    · simp [h1, h2]
def tr (n a b : Nat) : List Int := mkP n (sw a b)
theorem tr_ok (ha : a < n) (hb : b < n) : okPerm (tr n a b) n := mk_ok (fun i hi => sw_lt ha hb hi) fun i j _ _ e => by rw [← sw_sw a b i, e, sw_sw]
theorem ap_tr (hx : x < n) : ap (tr n a b) x = sw a b x := ap_mk hx
theorem tr_tr (ha : a < n) (hb : b < n) : prodL (tr n a b) (tr n a b) = idP n :=
  (prod_ok (tr_ok ha hb) (tr_ok ha hb)).ext (id_ok n) fun i hi => by rw [ap_prod (tr_ok ha hb) (tr_ok ha hb) hi, ap_tr hi, ap_tr (sw_lt ha hb hi), sw_sw, ap_id hi]
def rt (n i : Nat) : List Int := mkP n fun x => (x + i) % n
theorem ap_rt {i : Nat} (hx : x < n) : ap (rt n i) x = (x + i) % n := ap_mk hx
theorem mod_two {u : Nat} (h : u < 2 * n) : u % n = if u < n then u else u - n := by
  split
  · exact Nat.mod_eq_of_lt (by assumption)
  · rw [Nat.mod_eq_sub_mod (by omega), Nat.mod_eq_of_lt (by omega)]
theorem rt_ok' {i : Nat} (hi : i ≤ n) (hn : 0 < n) : okPerm (rt n i) n := mk_ok (fun x hx => Nat.mod_lt _ hn) fun x y hx hy e => by
  have e : (x + i) % n = (y + i) % n := e
  rw [mod_two (by omega), mod_two (by omega)] at e
  split at e <;> split at e <;> omega
theorem rt_zero : rt n 0 = idP n := by
  unfold rt idP mkP
  apply List.map_congr_left
  intro x hx
  show (((x + 0) % n : Nat) : Int) = (x : Int)
  rw [Nat.add_zero, Nat.mod_eq_of_lt (List.mem_range.1 hx)]
theorem rt_succ {i : Nat} (hi : i < n) : rt n (i + 1) = prodL (rt n 1) (rt n i) := by
  have hn : 0 < n := by omega
  have h1 := rt_ok' (n := n) (i := 1) (by omega) hn
  have h2 := rt_ok' (n := n) (i := i) (by omega) hn
  refine (rt_ok' (by omega) hn).ext (prod_ok h1 h2) fun x hx => ?_
  rw [ap_prod h1 h2 hx, ap_rt hx, ap_rt hx, ap_rt (Nat.mod_lt _ hn), Nat.mod_add_mod, Nat.add_assoc]
theorem rt_full : rt n n = idP n := by
  unfold rt idP mkP
  apply List.map_congr_left
  intro x hx
  show (((x + n) % n : Nat) : Int) = (x : Int)
  rw [Nat.add_mod_right, Nat.mod_eq_of_lt (List.mem_range.1 hx)]
theorem sw_turn {i x : Nat} (hi : i + 1 < n) (hx : x < n) : (sw 0 1 ((x + (n - i)) % n) + i) % n = sw i (i + 1) x := by
  have hm : (x + (n - i)) % n = if x + (n - i) < n then x + (n - i) else x + (n - i) - n := mod_two (by omega)
  by_cases h1 : x = i
  · rw [show (x + (n - i)) % n = 0 by rw [hm, if_neg (by omega)]; omega, show sw 0 1 0 = 1 from rfl, show sw i (i + 1) x = i + 1 by unfold sw; rw [if_pos h1], Nat.mod_eq_of_lt (by omega)]
    omega
  · by_cases h2 : x = i + 1
    · rw [show (x + (n - i)) % n = 1 by rw [hm, if_neg (by omega)]; omega, show sw 0 1 1 = 0 from rfl, show sw i (i + 1) x = i by unfold sw; rw [if_neg h1, if_pos h2], Nat.mod_eq_of_lt (by omega)]
      omega
    · have e1 : sw i (i + 1) x = x := by unfold sw; rw [if_neg h1, if_neg h2]
      have e2 : ∀ y, y ≠ 0 → y ≠ 1 → sw 0 1 y = y := fun y h0 h1 => by unfold sw; rw [if_neg h0, if_neg h1]
      rw [e1]
      by_cases h3 : x + (n - i) < n
      · rw [hm, if_pos h3, e2 _ (by omega) (by omega), show x + (n - i) + i = x + n by omega, Nat.add_mod_right, Nat.mod_eq_of_lt hx]
      · rw [hm, if_neg h3, e2 _ (by omega) (by omega), Nat.mod_eq_of_lt (by omega)]
        omega
theorem sw_conj {a b x : Nat} (h : a < b) : sw b (b + 1) (sw a b (sw b (b + 1) x)) = sw a (b + 1) x := by
  unfold sw
  by_cases h1 : x = b
  · subst h1
    simp only [if_true]
    repeat (first | rfl | omega | split)
  · by_cases h2 : x = b + 1
    · subst h2
      repeat (first | rfl | omega | split)
    · by_cases h3 : x = a
      · subst h3
        repeat (first | rfl | omega | split)
      · rw [if_neg h1, if_neg h2, if_neg h3, if_neg h1, if_neg h1, if_neg h2, if_neg h3, if_neg h2]
end
section
variable {n : Nat} {gens : List (List Int)}
theorem reach_rt (hg : ∀ g ∈ gens, okPerm g n) (h1 : Reach n gens (rt n 1)) : ∀ {i : Nat}, i ≤ n → Reach n gens (rt n i)
  | 0, _ => by rw [rt_zero]; exact .id
  | i + 1, h => by rw [rt_succ (by omega)]; exact h1.mul hg (reach_rt hg h1 (by omega))
theorem reach_next (hg : ∀ g ∈ gens, okPerm g n) (h1 : Reach n gens (rt n 1)) (h2 : Reach n gens (tr n 0 1)) {i : Nat} (hi : i + 1 < n) : Reach n gens (tr n i (i + 1)) := by
  have a := rt_ok' (n := n) (i := i) (by omega) (by omega)
  have b := tr_ok (n := n) (a := 0) (b := 1) (by omega) (by omega)
  have c := rt_ok' (n := n) (i := n - i) (by omega) (by omega)
  have e : tr n i (i + 1) = prodL (rt n i) (prodL (tr n 0 1) (rt n (n - i))) := by
    refine (tr_ok (by omega) (by omega)).ext (prod_ok a (prod_ok b c)) fun x hx => ?_
    have hm : (x + (n - i)) % n < n := Nat.mod_lt _ (by omega)
    rw [ap_prod a (prod_ok b c) hx, ap_prod b c hx, ap_rt hx, ap_tr hm, ap_rt (sw_lt (by omega) (by omega) hm), ap_tr hx, sw_turn hi hx]
  rw [e]
  exact (reach_rt hg h1 (by omega)).mul hg (h2.mul hg (reach_rt hg h1 (by omega)))
theorem reach_tr (hg : ∀ g ∈ gens, okPerm g n) (h1 : Reach n gens (rt n 1)) (h2 : Reach n gens (tr n 0 1)) {a : Nat} : ∀ {b : Nat}, a < b → b < n → Reach n gens (tr n a b)
  | 0, h, _ => by omega
  | b + 1, h, hb => by
    by_cases e : a = b
    · subst e; exact reach_next hg h1 h2 hb
    · have ih := reach_tr hg h1 h2 (a := a) (b := b) (by omega) (by omega)
      have s := tr_ok (n := n) (a := b) (b := b + 1) (by omega) (by omega)
      have t := tr_ok (n := n) (a := a) (b := b) (by omega) (by omega)
      have hs := reach_next hg h1 h2 hb
      have e : tr n a (b + 1) = prodL (tr n b (b + 1)) (prodL (tr n a b) (tr n b (b + 1))) := by
        refine (tr_ok (by omega) (by omega)).ext (prod_ok s (prod_ok t s)) fun x hx => ?_
        rw [ap_prod s (prod_ok t s) hx, ap_prod t s hx, ap_tr hx, ap_tr hx, ap_tr (sw_lt (by omega) (by omega) hx), ap_tr (sw_lt (by omega) (by omega) (sw_lt (by omega) (by omega) hx)), sw_conj (by omega)]
      rw [e]
      exact hs.mul hg (ih.mul hg hs)
theorem tr_self {a : Nat} : tr n a a = idP n := by
  unfold tr idP mkP
  apply List.map_congr_left
  intro x _
  show ((sw a a x : Nat) : Int) = (x : Int)
  unfold sw
  split
  · rw [‹x = a›]
  · rfl

/-- A permutation that leaves m and all that is more where it is, up to the place of m. -/
theorem peel {m : Nat} {p : List Int} (hp : okPerm p n) (hm : m < n) (hf : ∀ x, m + 1 ≤ x → x < n → ap p x = x) : ∃ a, a ≤ m ∧ okPerm (prodL (tr n a m) p) n ∧ (∀ x, m ≤ x → x < n → ap (prodL (tr n a m) p) x = x) ∧ p = prodL (tr n a m) (prodL (tr n a m) p) := by
  have ha : ap p m ≤ m := by
    have h1 := hp.lt hm
    by_cases h : ap p m ≤ m
    · exact h
    · have h2 := hf (ap p m) (by omega) h1
      have := hp.inj h1 hm h2
      omega
  have ht := tr_ok (n := n) (a := ap p m) (b := m) (by omega) hm
  refine ⟨ap p m, ha, prod_ok ht hp, fun x hx hxn => ?_, ?_⟩
  · rw [ap_prod ht hp hxn, ap_tr (hp.lt hxn)]
    by_cases e : x = m
    · subst e; unfold sw; rw [if_pos rfl]
    · rw [hf x (by omega) hxn]; unfold sw; rw [if_neg (by omega), if_neg e]
  · rw [← prod_assoc ht ht hp, tr_tr (by omega) hm, id_prod hp]
theorem fixed_id {p : List Int} (hp : okPerm p n) (hf : ∀ x, 0 ≤ x → x < n → ap p x = x) : p = idP n := hp.ext (id_ok n) fun i hi => by rw [hf i (by omega) hi, ap_id hi]
theorem reach_all (hg : ∀ g ∈ gens, okPerm g n) (h1 : Reach n gens (rt n 1)) (h2 : Reach n gens (tr n 0 1)) : ∀ (m : Nat), m ≤ n → ∀ p, okPerm p n → (∀ x, m ≤ x → x < n → ap p x = x) → Reach n gens p
  | 0, _, p, hp, hf => by rw [fixed_id hp hf]; exact .id
  | m + 1, hm, p, hp, hf => by
    obtain ⟨a, ha, ho, hx, e⟩ := peel hp (by omega) hf
    rw [e]
    have ih := reach_all hg h1 h2 m (by omega) _ ho hx
    by_cases h : a = m
    · subst h
      rw [tr_self, id_prod (by rw [tr_self] at ho; exact ho)]
      rw [tr_self] at ih; exact ih
    · exact (reach_tr hg h1 h2 (by omega) (by omega)).mul hg ih

/-! ### all permutations, counted -/
def fact : Nat → Nat
  | 0 => 1
  | n + 1 => fact n * (n + 1)
def permsT (n : Nat) : Nat → List (List Int)
  | 0 => [idP n]
  | m + 1 => (permsT n m).flatMap fun p => (List.range (m + 1)).map fun a => prodL (tr n a m) p
theorem permsT_ok : ∀ (m : Nat), m ≤ n → ∀ p ∈ permsT n m, okPerm p n ∧ ∀ x, m ≤ x → x < n → ap p x = x
  | 0, _, p, hp => by
    simp [permsT] at hp; subst hp
    exact ⟨id_ok n, fun x _ hx => ap_id hx⟩
  | m + 1, hm, p, hp => by
    rw [permsT, List.mem_flatMap] at hp
    obtain ⟨q, hq, hp⟩ := hp
    obtain ⟨a, ha, rfl⟩ := List.mem_map.1 hp
    have ha := List.mem_range.1 ha
    obtain ⟨h1, h2⟩ := permsT_ok m (by omega) q hq
    have ht := tr_ok (n := n) (a := a) (b := m) (by omega) (by omega)
    refine ⟨prod_ok ht h1, fun x hx hxn => ?_⟩
    rw [ap_prod ht h1 hxn, h2 x (by omega) hxn, ap_tr hxn]
    unfold sw; rw [if_neg (by omega), if_neg (by omega)]
theorem permsT_all : ∀ (m : Nat), m ≤ n → ∀ p, okPerm p n → (∀ x, m ≤ x → x < n → ap p x = x) → p ∈ permsT n m
  | 0, _, p, hp, hf => by rw [fixed_id hp hf]; simp [permsT]
  | m + 1, hm, p, hp, hf => by
    obtain ⟨a, ha, ho, hx, e⟩ := peel hp (by omega) hf
    rw [permsT, List.mem_flatMap]
    exact ⟨_, permsT_all m (by omega) _ ho hx, List.mem_map.2 ⟨a, List.mem_range.2 (by omega), e.symm⟩⟩
theorem ap_top {m a : Nat} {q : List Int} (hm : m < n) (ha : a ≤ m) (h1 : okPerm q n) (h2 : ap q m = m) : ap (prodL (tr n a m) q) m = a := by
  rw [ap_prod (tr_ok (by omega) hm) h1 hm, h2, ap_tr hm]
  unfold sw
  split
  · assumption
  · rw [if_pos rfl]
theorem permsT_nodup : ∀ (m : Nat), m ≤ n → (permsT n m).Nodup
  | 0, _ => by simp [permsT]
  | m + 1, hm => by
    have ok := permsT_ok m (n := n) (by omega)
    rw [permsT, List.Nodup, List.pairwise_flatMap]
    refine ⟨fun q hq => nodup_map_inj List.nodup_range fun a ha b hb e => ?_, ?_⟩
    · have ha := List.mem_range.1 ha
      have hb := List.mem_range.1 hb
      rw [← ap_top (n := n) (m := m) (a := a) (by omega) (by omega) (ok q hq).1 ((ok q hq).2 m (Nat.le_refl _) (by omega)), e, ap_top (by omega) (by omega) (ok q hq).1 ((ok q hq).2 m (Nat.le_refl _) (by omega))]
    · refine List.Pairwise.imp_of_mem (fun {q r} hq hr hne x hx y hy e => ?_) (permsT_nodup m (by omega))
      obtain ⟨a, ha, rfl⟩ := List.mem_map.1 hx
      obtain ⟨b, hb, rfl⟩ := List.mem_map.1 hy
      have ha := List.mem_range.1 ha
      have hb := List.mem_range.1 hb
      have hab : a = b := by
        rw [← ap_top (n := n) (m := m) (a := a) (by omega) (by omega) (ok q hq).1 ((ok q hq).2 m (Nat.le_refl _) (by omega)), e, ap_top (by omega) (by omega) (ok r hr).1 ((ok r hr).2 m (Nat.le_refl _) (by omega))]
      subst hab
      exact hne (prod_cancel (tr_ok (by omega) (by omega)) (ok q hq).1 (ok r hr).1 e)
theorem flatT_len {α β : Type} {f : α → List β} {k : Nat} : ∀ {l : List α}, (∀ a ∈ l, (f a).length = k) → (l.flatMap f).length = l.length * k
  | [], _ => by simp
  | x :: l, h => by
    rw [List.flatMap_cons, List.length_append, flatT_len (l := l) (fun a ha => h a (List.mem_cons_of_mem _ ha)), h x (List.mem_cons_self ..), List.length_cons, Nat.succ_mul, Nat.add_comm]
theorem permsT_len : ∀ (m : Nat), (permsT n m).length = fact m
  | 0 => rfl
  | m + 1 => by rw [permsT, flatT_len (k := m + 1) (fun q _ => by simp), permsT_len m]; rfl
theorem full_none (hn : 7 ≤ n) (hg : ∀ g ∈ gens, okPerm g n) (h1 : Reach n gens (rt n 1)) (h2 : Reach n gens (tr n 0 1)) : bfsL n gens = none := by
  have h := bfsL_gen hg
  cases e : bfsL n gens with
  | none => rfl
  | some L =>
    rw [e] at h
    obtain ⟨hnd, hle, hm⟩ := h
    have := len_le_of_sub (permsT n 7) L (permsT_nodup 7 hn) fun p hp => (hm p).2 (by
      obtain ⟨ho, hf⟩ := permsT_ok 7 hn p hp
      exact reach_all hg h1 h2 7 hn p ho hf)
    rw [permsT_len] at this
    have h5 : fact 7 = 5040 := rfl
    omega
theorem full_some (hn : n ≤ 6) (hg : ∀ g ∈ gens, okPerm g n) (h1 : Reach n gens (rt n 1)) (h2 : Reach n gens (tr n 0 1)) : ∃ L, bfsL n gens = some L ∧ L.length = fact n := by
  have h := bfsL_gen hg
  have hf6 : fact n ≤ 720 := by
    rcases (by omega : n = 0 ∨ n = 1 ∨ n = 2 ∨ n = 3 ∨ n = 4 ∨ n = 5 ∨ n = 6) with rfl | rfl | rfl | rfl | rfl | rfl | rfl <;> decide
  have hin : ∀ p, Reach n gens p → p ∈ permsT n n := fun p hp => permsT_all n (Nat.le_refl _) p (hp.ok hg) fun x h1 h2 => by omega
  cases e : bfsL n gens with
  | none =>
    rw [e] at h
    obtain ⟨B, hnd, hl, hm⟩ := h
    have := len_le_of_sub B (permsT n n) hnd fun p hp => hin p (hm p hp)
    rw [permsT_len] at this
    omega
  | some L =>
    rw [e] at h
    obtain ⟨hnd, hle, hm⟩ := h
    refine ⟨L, rfl, ?_⟩
    have a := len_le_of_sub L (permsT n n) hnd fun p hp => hin p ((hm p).1 hp)
    have b := len_le_of_sub (permsT n n) L (permsT_nodup n (Nat.le_refl _)) fun p hp => (hm p).2 (reach_all hg h1 h2 n (Nat.le_refl _) p (permsT_ok n (Nat.le_refl _) p hp).1 fun x h1 h2 => by omega)
    rw [permsT_len] at a b
    omega
theorem rot_reach (hn : 0 < n) {p : List Int} (h : Reach n [rt n 1] p) : ∃ i, i < n ∧ p = rt n i := by
  induction h with
  | id => exact ⟨0, hn, rt_zero.symm⟩
  | step hm _ ih =>
    obtain ⟨i, hi, rfl⟩ := ih
    simp at hm; subst hm
    rw [← rt_succ hi]
    by_cases e : i + 1 = n
    · exact ⟨0, hn, by rw [e, rt_full, rt_zero]⟩
    · exact ⟨i + 1, by omega, rfl⟩
theorem rot_some (hn : 0 < n) (hl : n ≤ 256) : ∃ L, bfsL n [rt n 1] = some L ∧ L.length = n := by
  have hg : ∀ g ∈ [rt n 1], okPerm g n := fun g hg => by simp at hg; subst hg; exact rt_ok' (by omega) hn
  have h := bfsL_gen hg
  have hR : ∀ p, Reach n [rt n 1] p → p ∈ (List.range n).map (rt n) := fun p hp => by
    obtain ⟨i, hi, rfl⟩ := rot_reach hn hp
    exact List.mem_map.2 ⟨i, List.mem_range.2 hi, rfl⟩
  cases e : bfsL n [rt n 1] with
  | none =>
    rw [e] at h
    obtain ⟨B, hnd, hl2, hm⟩ := h
    have := len_le_of_sub B _ hnd fun p hp => hR p (hm p hp)
    simp at this
    omega
  | some L =>
    rw [e] at h
    obtain ⟨hnd, hle, hm⟩ := h
    refine ⟨L, rfl, ?_⟩
    have a := len_le_of_sub L _ hnd fun p hp => hR p ((hm p).1 hp)
    have hnd2 : ((List.range n).map (rt n)).Nodup := nodup_map_inj List.nodup_range fun i hi j hj e => by
      have hi := List.mem_range.1 hi
      have hj := List.mem_range.1 hj
      have h1 : ap (rt n i) 0 = ap (rt n j) 0 := by rw [e]
      rw [ap_rt hn, ap_rt hn, Nat.zero_add, Nat.zero_add, Nat.mod_eq_of_lt hi, Nat.mod_eq_of_lt hj] at h1
      exact h1
    have b := len_le_of_sub _ L hnd2 fun p hp => by
      obtain ⟨i, hi, rfl⟩ := List.mem_map.1 hp
      exact (hm _).2 (reach_rt hg (Reach.gen hg (by simp)) (Nat.le_of_lt (List.mem_range.1 hi)))
    simp at a b
    omega
theorem rot_conn (hn : 0 < n) : ∀ {j : Nat}, j < n → Conn [rt n 1] 0 j
  | 0, _ => .refl
  | j + 1, h => by
    have := Conn.step (g := rt n 1) (List.mem_singleton.2 rfl) (rot_conn hn (j := j) (by omega))
    rw [ap_rt (by omega), Nat.mod_eq_of_lt h] at this
    exact this
theorem rot_orb (hn : 0 < n) : orbsTo n [rt n 1] n = [orbL n [rt n 1] 0] ∧ (orbL n [rt n 1] 0).length = n := by
  have hg : ∀ g ∈ [rt n 1], okPerm g n := fun g hg => by simp at hg; subst hg; exact rt_ok' (by omega) hn
  refine ⟨?_, ?_⟩
  · have h : ∀ k, k + 1 ≤ n → orbsTo n [rt n 1] (k + 1) = [orbL n [rt n 1] 0] := by
      intro k
      induction k with
      | zero => intro _; rfl
      | succ k ih =>
        intro hk
        rw [orbsTo_succ, ih (by omega)]
        have : firstB n [rt n 1] (k + 1) = false := by
          cases e : firstB n [rt n 1] (k + 1)
          · rfl
          · exact absurd (rot_conn hn (by omega)) ((firstB_iff hg (by omega)).1 e 0 (by omega))
        rw [this]; simp
    obtain ⟨k, rfl⟩ : ∃ k, n = k + 1 := ⟨n - 1, by omega⟩
    exact h k (Nat.le_refl _)
  · unfold orbL
    rw [List.length_map, List.filter_eq_self.2 fun j hj => (connB_iff hg hn).2 (rot_conn hn (List.mem_range.1 hj)), List.length_range]
end
end Go.Proofs.Ytkekkbbdhdamjaa
