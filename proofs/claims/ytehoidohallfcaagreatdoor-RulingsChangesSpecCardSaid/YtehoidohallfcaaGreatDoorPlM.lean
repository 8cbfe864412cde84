/- Permutations as lists of numbers, in plain Lean. No program in sight. -/
namespace Go.Proofs.YtehoidohallfcaaGreatDoor
theorem len_le_of_sub {α : Type} [DecidableEq α] : ∀ (l m : List α), l.Nodup → (∀ x ∈ l, x ∈ m) → l.length ≤ m.length
 | [], _, _, _ => Nat.zero_le _
 | x :: l, m, hn, hs => by
  rw [List.nodup_cons] at hn
  have hx : x ∈ m := hs x (List.mem_cons_self ..)
  have ih := len_le_of_sub l (m.erase x) hn.2 (fun y hy => by
   have hne : y ≠ x := fun e => hn.1 (e ▸ hy)
   exact (List.mem_erase_of_ne hne).2 (hs y (List.mem_cons_of_mem _ hy)))
  rw [List.length_erase_of_mem hx] at ih
  have : 0 < m.length := List.length_pos_of_mem hx
  simp only [List.length_cons]; omega
theorem nodup_map_inj {α β : Type} {f : α → β} : ∀ {l : List α}, l.Nodup → (∀ x ∈ l, ∀ y ∈ l, f x = f y → x = y) → (l.map f).Nodup
 | [], _, _ => by simp
 | x :: l, hn, hf => by
  rw [List.nodup_cons] at hn
  rw [List.map_cons, List.nodup_cons]
  refine ⟨fun h => ?_, nodup_map_inj hn.2 fun a ha b hb => hf a (List.mem_cons_of_mem _ ha) b (List.mem_cons_of_mem _ hb)⟩
  obtain ⟨y, hy, e⟩ := List.mem_map.1 h
  have := hf y (List.mem_cons_of_mem _ hy) x (List.mem_cons_self ..) e
  exact hn.1 (this ▸ hy)
theorem nodup_get {α : Type} {l : List α} (h : l.Nodup) {i j : Nat} {x : α} (hi : l[i]? = some x) (hj : l[j]? = some x) : i = j := by
 obtain ⟨li, ei⟩ := List.getElem?_eq_some_iff.1 hi
 obtain ⟨lj, ej⟩ := List.getElem?_eq_some_iff.1 hj
 have hp := List.pairwise_iff_getElem.1 h
 rcases Nat.lt_trichotomy i j with h1 | h1 | h1
 · exact absurd (ei.trans ej.symm) (hp i j li lj h1)
 · exact h1
 · exact absurd (ej.trans ei.symm) (hp j i lj li h1)
structure okPerm (p : List Int) (n : Nat) : Prop where
 len : p.length = n
 rng : ∀ x ∈ p, 0 ≤ x ∧ x < n
 nd : p.Nodup
def ap (p : List Int) (i : Nat) : Nat := (p.getD i 0).toNat
def mkP (n : Nat) (f : Nat → Nat) : List Int := (List.range n).map fun i => (f i : Int)
def idP (n : Nat) : List Int := mkP n id
def prodL (a b : List Int) : List Int := b.map fun x => a.getD x.toNat 0
variable {n : Nat} {p q r a b c : List Int} {i j : Nat} {f g : Nat → Nat}
theorem mkP_len : (mkP n f).length = n := by simp [mkP]
theorem mkP_get (hi : i < n) : (mkP n f)[i]? = some (f i : Int) := by simp [mkP, hi]
theorem ap_of {x : Int} (h : p[i]? = some x) : ap p i = x.toNat := by unfold ap; rw [List.getD_eq_getElem?_getD, h]; simp
theorem okPerm.get (h : okPerm p n) (hi : i < n) : p[i]? = some (ap p i : Int) ∧ ap p i < n := by
 have hl : i < p.length := by rw [h.len]; exact hi
 have e : p[i]? = some p[i] := List.getElem?_eq_getElem hl
 have hr := h.rng p[i] (List.getElem_mem hl)
 rw [ap_of e, e]
 exact ⟨by congr 1; omega, by omega⟩
theorem okPerm.lt (h : okPerm p n) (hi : i < n) : ap p i < n := (h.get hi).2
theorem okPerm.inj (h : okPerm p n) (hi : i < n) (hj : j < n) (e : ap p i = ap p j) : i = j := by
 have h1 := (h.get hi).1
 have h2 := (h.get hj).1
 rw [e] at h1
 exact nodup_get h.nd h1 h2
theorem perm_ext (hp : p.length = n) (hq : q.length = n) (hp' : ∀ i, i < n → p[i]? = some (ap p i : Int)) (hq' : ∀ i, i < n → q[i]? = some (ap q i : Int)) (h : ∀ i, i < n → ap p i = ap q i) : p = q := by
 refine List.ext_getElem? fun i => ?_
 by_cases hi : i < n
 · rw [hp' i hi, hq' i hi, h i hi]
 · rw [List.getElem?_eq_none (by omega), List.getElem?_eq_none (by omega)]
theorem okPerm.ext (hp : okPerm p n) (hq : okPerm q n) (h : ∀ i, i < n → ap p i = ap q i) : p = q :=
 perm_ext hp.len hq.len (fun _ hi => (hp.get hi).1) (fun _ hi => (hq.get hi).1) h
theorem mk_ok (hf : ∀ i, i < n → f i < n) (hi : ∀ i j, i < n → j < n → f i = f j → i = j) : okPerm (mkP n f) n where
 len := mkP_len
 rng := fun x hx => by
  obtain ⟨i, hi, rfl⟩ := List.mem_map.1 hx
  have := hf i (List.mem_range.1 hi); omega
 nd := nodup_map_inj List.nodup_range fun x hx y hy e => hi x y (List.mem_range.1 hx) (List.mem_range.1 hy) (by omega)
theorem id_ok (n : Nat) : okPerm (idP n) n := mk_ok (fun _ h => h) fun _ _ _ _ e => e
theorem prod_mk (ha : okPerm a n) (hb : okPerm b n) : prodL a b = mkP n fun i => ap a (ap b i) := by
 refine List.ext_getElem? fun i => ?_
 unfold prodL
 rw [List.getElem?_map]
 by_cases hi : i < n
 · rw [(hb.get hi).1, mkP_get hi]
   simp only [Option.map_some, Option.some.injEq, Int.toNat_natCast]
   rw [List.getD_eq_getElem?_getD, (ha.get (hb.lt hi)).1]; rfl
 · rw [List.getElem?_eq_none (by rw [hb.len]; omega), List.getElem?_eq_none (by rw [mkP_len]; omega)]; rfl
theorem prod_ok (ha : okPerm a n) (hb : okPerm b n) : okPerm (prodL a b) n := by
 rw [prod_mk ha hb]
 exact mk_ok (fun i hi => ha.lt (hb.lt hi)) fun i j hi hj e => hb.inj hi hj (ha.inj (hb.lt hi) (hb.lt hj) e)
inductive Reach (n : Nat) (gens : List (List Int)) : List Int → Prop
 | id : Reach n gens (idP n)
 | step {g p : List Int} : g ∈ gens → Reach n gens p → Reach n gens (prodL g p)
variable {gens hens : List (List Int)}
theorem Reach.ok (hg : ∀ g ∈ gens, okPerm g n) (h : Reach n gens p) : okPerm p n := by
 induction h with
 | id => exact id_ok n
 | step hm _ ih => exact prod_ok (hg _ hm) ih
structure Grow (n : Nat) (gens : List (List Int)) (l : List (List Int)) : Prop where
 nd : l.Nodup
 id : idP n ∈ l
 rc : ∀ p ∈ l, Reach n gens p
 le : l.length ≤ 4096
end Go.Proofs.YtehoidohallfcaaGreatDoor
/- The order of lists of numbers, and lists of them in that order. No program in sight. -/
namespace Go.Proofs.YtehoidohallfcaaGreatDoor
def ordL : List Int → List Int → Int
 | [], [] => 0
 | [], _ :: _ => -1
 | _ :: _, [] => 1
 | x :: a, y :: b => if x < y then -1 else if y < x then 1 else ordL a b
def ltP (a b : List Int) : Bool := decide (ordL a b < 0)
theorem ordL_cases : ∀ a b : List Int, ordL a b = -1 ∨ ordL a b = 0 ∨ ordL a b = 1
 | [], [] => .inr (.inl rfl)
 | [], _ :: _ => .inl rfl
 | _ :: _, [] => .inr (.inr rfl)
 | x :: a, y :: b => by
  unfold ordL
  by_cases h : x < y
  · rw [if_pos h]; exact .inl rfl
  · rw [if_neg h]
    by_cases h2 : y < x
    · rw [if_pos h2]; exact .inr (.inr rfl)
    · rw [if_neg h2]; exact ordL_cases a b
theorem ordL_zero : ∀ {a b : List Int}, ordL a b = 0 ↔ a = b
 | [], [] => by simp [ordL]
 | [], _ :: _ => by simp [ordL]
 | _ :: _, [] => by simp [ordL]
 | x :: a, y :: b => by
  unfold ordL
  by_cases h : x < y
  · rw [if_pos h]; simp; omega
  · rw [if_neg h]
    by_cases h2 : y < x
    · rw [if_pos h2]; simp; omega
    · rw [if_neg h2, ordL_zero]
      have : x = y := by omega
      simp [this]
theorem ordL_self (a : List Int) : ordL a a = 0 := ordL_zero.2 rfl
theorem ordL_swap : ∀ a b : List Int, ordL b a = -ordL a b
 | [], [] => rfl
 | [], _ :: _ => rfl
 | _ :: _, [] => rfl
 | x :: a, y :: b => by
  unfold ordL
  by_cases h : x < y
  · rw [if_pos h, if_neg (by omega), if_pos h]; rfl
  · rw [if_neg h]
    by_cases h2 : y < x
    · simp only [if_pos h2, if_neg h]
    · rw [if_neg h2, if_neg h2, if_neg h]; exact ordL_swap a b
theorem ltP_iff (a b : List Int) : ltP a b = true ↔ ordL a b = -1 := by
 unfold ltP; rw [decide_eq_true_eq]
 rcases ordL_cases a b with h | h | h <;> omega
theorem ltP_irrefl (a : List Int) : ltP a a = false := by unfold ltP; rw [ordL_self]; rfl
theorem ltP_asymm {a b : List Int} (h : ltP a b = true) : ltP b a = false := by
 rw [ltP_iff] at h
 unfold ltP; rw [ordL_swap a b, h]; rfl
theorem ltP_tri {a b : List Int} (h : ltP a b = false) (h2 : ltP b a = false) : a = b := by
 unfold ltP at h h2
 rw [decide_eq_false_iff_not] at h h2
 rw [ordL_swap a b] at h2
 rcases ordL_cases a b with e | e | e
 · omega
 · exact ordL_zero.1 e
 · omega
theorem ltP_trans : ∀ {a b c : List Int}, ltP a b = true → ltP b c = true → ltP a c = true
 | [], [], _, h, _ => by simp [ltP, ordL] at h
 | [], _ :: _, [], _, h2 => by simp [ltP, ordL] at h2
 | [], _ :: _, _ :: _, _, _ => rfl
 | _ :: _, [], _, h, _ => by simp [ltP, ordL] at h
 | _ :: _, _ :: _, [], _, h2 => by simp [ltP, ordL] at h2
 | x :: a, y :: b, z :: c, h, h2 => by
  rw [ltP_iff] at *
  unfold ordL at *
  by_cases h3 : x < y
  · by_cases h4 : y < z
    · rw [if_pos (by omega)]
    · rw [if_neg h4] at h2
      by_cases h5 : z < y
      · rw [if_pos h5] at h2; omega
      · rw [if_pos (by omega)]
  · rw [if_neg h3] at h
    by_cases h4 : y < x
    · rw [if_pos h4] at h; omega
    · rw [if_neg h4] at h
      by_cases h5 : y < z
      · rw [if_pos (by omega)]
      · rw [if_neg h5] at h2
        by_cases h6 : z < y
        · rw [if_pos h6] at h2; omega
        · rw [if_neg h6] at h2
          rw [if_neg (by omega), if_neg (by omega)]
          exact (ltP_iff a c).1 (ltP_trans ((ltP_iff a b).2 h) ((ltP_iff b c).2 h2))
def Inc (l : List (List Int)) : Prop := l.Pairwise fun a b => ltP a b = true
theorem Inc.nodup {l : List (List Int)} (h : Inc l) : l.Nodup := List.Pairwise.imp (fun hab e => by subst e; rw [ltP_irrefl] at hab; cases hab) h
theorem inc_uniq : ∀ {a b : List (List Int)}, Inc a → Inc b → (∀ x, x ∈ a ↔ x ∈ b) → a = b
 | [], [], _, _, _ => rfl
 | [], y :: b, _, _, h => by have := (h y).2 (List.mem_cons_self ..); simp at this
 | x :: a, [], _, _, h => by have := (h x).1 (List.mem_cons_self ..); simp at this
 | x :: a, y :: b, ha, hb, h => by
  unfold Inc at ha hb
  rw [List.pairwise_cons] at ha hb
  have hxy : x = y := by
   rcases List.mem_cons.1 ((h x).1 (List.mem_cons_self ..)) with e | e
   · exact e
   · rcases List.mem_cons.1 ((h y).2 (List.mem_cons_self ..)) with e2 | e2
     · exact e2.symm
     · have h1 := hb.1 x e
       have h2 := ha.1 y e2
       rw [ltP_asymm h1] at h2; cases h2
  subst hxy
  congr 1
  refine inc_uniq ha.2 hb.2 fun z => ?_
  constructor
  · intro hz
    rcases List.mem_cons.1 ((h z).1 (List.mem_cons_of_mem _ hz)) with e | e
    · subst e; have := ha.1 z hz; rw [ltP_irrefl] at this; cases this
    · exact e
  · intro hz
    rcases List.mem_cons.1 ((h z).2 (List.mem_cons_of_mem _ hz)) with e | e
    · subst e; have := hb.1 z hz; rw [ltP_irrefl] at this; cases this
    · exact e
def insP (p : List Int) : List (List Int) → List (List Int)
 | [] => [p]
 | a :: t => if ltP a p then a :: insP p t else p :: a :: t
theorem mem_insP {p x : List Int} : ∀ {l : List (List Int)}, x ∈ insP p l ↔ x = p ∨ x ∈ l
 | [] => by simp [insP]
 | a :: t => by
  unfold insP
  by_cases h : ltP a p = true
  · rw [if_pos h, List.mem_cons, List.mem_cons, mem_insP]
    constructor
    · rintro (h | h | h); exact .inr (.inl h); exact .inl h; exact .inr (.inr h)
    · rintro (h | h | h); exact .inr (.inl h); exact .inl h; exact .inr (.inr h)
  · rw [if_neg h]; simp
theorem insP_inc {p : List Int} : ∀ {l : List (List Int)}, Inc l → p ∉ l → Inc (insP p l)
 | [], _, _ => by simp [insP, Inc]
 | a :: t, h, hp => by
  unfold Inc at h ⊢
  rw [List.pairwise_cons] at h
  unfold insP
  by_cases h1 : ltP a p = true
  · rw [if_pos h1, List.pairwise_cons]
    refine ⟨fun x hx => ?_, insP_inc h.2 fun e => hp (List.mem_cons_of_mem _ e)⟩
    rcases mem_insP.1 hx with rfl | hx
    · exact h1
    · exact h.1 x hx
  · rw [if_neg h1, List.pairwise_cons, List.pairwise_cons]
    have h3 : ltP p a = true := by
     cases e : ltP p a
     · exact absurd (ltP_tri (by simpa using h1) e) fun e => hp (e ▸ List.mem_cons_self ..)
     · rfl
    refine ⟨fun x hx => ?_, h⟩
    rcases List.mem_cons.1 hx with rfl | hx
    · exact h3
    · exact ltP_trans h3 (h.1 x hx)
theorem insP_at {p : List Int} : ∀ (l : List (List Int)) (k : Nat), (∀ i a, i < k → l[i]? = some a → ltP a p = true) → k ≤ l.length → (∀ a, l[k]? = some a → ltP a p = false) → insP p l = l.take k ++ p :: l.drop k
 | [], k, _, hk, _ => by
  have : k = 0 := by simpa using hk
  subst this; rfl
 | a :: t, 0, _, _, h => by
  unfold insP
  rw [if_neg (by rw [h a rfl]; decide)]; rfl
 | a :: t, k + 1, h1, hk, h => by
  unfold insP
  rw [if_pos (h1 0 a (by omega) rfl), insP_at t k (fun m b hm hb => h1 (m + 1) b (by omega) (by simpa using hb)) (by simpa using hk) (fun b hb => h b (by simpa using hb))]
  rfl
def sortP (l : List (List Int)) : List (List Int) := l.foldl (fun s x => insP x s) []
theorem mem_sortP {x : List Int} (l : List (List Int)) : x ∈ sortP l ↔ x ∈ l := by
 have h : ∀ (l s : List (List Int)), x ∈ l.foldl (fun s x => insP x s) s ↔ x ∈ s ∨ x ∈ l := by
  intro l
  induction l with
  | nil => intro s; simp
  | cons a l ih =>
   intro s
   rw [List.foldl_cons, ih, mem_insP, List.mem_cons]
   constructor
   · rintro ((h | h) | h); exact .inr (.inl h); exact .inl h; exact .inr (.inr h)
   · rintro (h | h | h); exact .inl (.inr h); exact .inl (.inl h); exact .inr h
 unfold sortP; rw [h]; simp
theorem sortP_inc {l : List (List Int)} (h : l.Nodup) : Inc (sortP l) := by
 have hh : ∀ (l s : List (List Int)), l.Nodup → Inc s → (∀ x ∈ l, x ∉ s) → Inc (l.foldl (fun s x => insP x s) s) := by
  intro l
  induction l with
  | nil => intro s _ h _; exact h
  | cons a l ih =>
   intro s hn hs hd
   rw [List.nodup_cons] at hn
   rw [List.foldl_cons]
   refine ih _ hn.2 (insP_inc hs (hd a (List.mem_cons_self ..))) fun x hx h => ?_
   rcases mem_insP.1 h with rfl | h
   · exact hn.1 hx
   · exact hd x (List.mem_cons_of_mem _ hx) h
 exact hh l [] h .nil (by simp)
theorem insP_len (p : List Int) : ∀ l : List (List Int), (insP p l).length = l.length + 1
 | [] => rfl
 | a :: t => by
  unfold insP
  by_cases h : ltP a p = true
  · rw [if_pos h]; simp [insP_len p t]
  · rw [if_neg h]; rfl
theorem sortP_len (l : List (List Int)) : (sortP l).length = l.length := by
 have h : ∀ (l s : List (List Int)), (l.foldl (fun s x => insP x s) s).length = s.length + l.length := by
  intro l
  induction l with
  | nil => intro s; simp
  | cons a l ih => intro s; rw [List.foldl_cons, ih, insP_len]; simp; omega
 unfold sortP; rw [h]; simp
theorem sortP_uniq {l m : List (List Int)} (hl : l.Nodup) (hm : Inc m) (h : ∀ x, x ∈ m ↔ x ∈ l) : m = sortP l := inc_uniq hm (sortP_inc hl) fun x => by rw [h, mem_sortP]
end Go.Proofs.YtehoidohallfcaaGreatDoor
/- The places that results with uncertain times can have: a search over groups of equal times finds just the places of times within the bounds. Plain words. -/
namespace Go.Proofs.YtehoidohallfcaaGreatDoor
abbrev Iv := List (Int × Int)
def ivLo (iv : Iv) (i : Nat) : Int := (iv.getD i (0, 0)).1
def ivHi (iv : Iv) (i : Nat) : Int := (iv.getD i (0, 0)).2
def grpP (iv : Iv) (pl : List Int) (g : Nat) (fr : Int) : Nat → Option (Int × Int × Nat)
 | 0 => some (fr, 1048576, 0)
 | i + 1 => match grpP iv pl g fr i with
  | none => none
  | some (lo, hi, many) => if g.testBit i then (if pl.getD i 0 ≠ 0 then none else some (max lo (ivLo iv i), min hi (ivHi iv i), many + 1)) else some (lo, hi, many)
def lateP (iv : Iv) (pl : List Int) (g : Nat) (lo : Int) (n : Nat) : Bool := (List.range n).any fun i => !g.testBit i && (decide (pl.getD i 0 = 0) && decide (ivHi iv i ≤ lo))
def setP (pl : List Int) (g : Nat) (v : Int) (k : Nat) : List Int := pl.mapIdx fun i x => if g.testBit i && decide (i < k) then v else x
def nextP (iv : Iv) : Nat → List Int → Nat → Int → List (List Int)
 | 0, _, _, _ => []
 | f + 1, pl, done, fr => if done = iv.length then [pl] else
  (List.range (2 ^ iv.length)).flatMap fun g => if g = 0 then [] else match grpP iv pl g fr iv.length with
   | none => []
   | some (lo, hi, many) => if hi < lo then [] else if lateP iv pl g lo iv.length then [] else nextP iv f (setP pl g ((done : Int) + 1) iv.length) (done + many) (lo + 1)
def posL (iv : Iv) : List (List Int) := nextP iv (iv.length + 1) (List.replicate iv.length 0) 0 0
section
variable {iv : Iv} {pl : List Int} {g : Nat} {fr lo hi v : Int} {many n k i : Nat}
theorem setP_len : (setP pl g v k).length = pl.length := by simp [setP]
theorem setP_get (h : i < pl.length) : (setP pl g v k)[i]? = some (if g.testBit i && decide (i < k) then v else pl.getD i 0) := by
 unfold setP
 rw [List.getElem?_mapIdx, List.getElem?_eq_getElem h]
 simp [List.getD_eq_getElem?_getD, List.getElem?_eq_getElem h]
theorem setP_getD (h : i < pl.length) : (setP pl g v k).getD i 0 = if g.testBit i && decide (i < k) then v else pl.getD i 0 := by
 rw [List.getD_eq_getElem?_getD, setP_get h]; rfl
theorem setP_zero : setP pl g v 0 = pl := by
 apply List.ext_getElem?
 intro i
 by_cases h : i < pl.length
 · rw [setP_get h, List.getD_eq_getElem?_getD, List.getElem?_eq_getElem h]; simp
 · rw [List.getElem?_eq_none (by rw [setP_len]; omega), List.getElem?_eq_none (by omega)]
structure Grp (iv : Iv) (pl : List Int) (g : Nat) (fr : Int) (n : Nat) (lo hi : Int) (many : Nat) : Prop where
 free : ∀ i, i < n → g.testBit i = true → pl.getD i 0 = 0
 frl : fr ≤ lo
 top : hi ≤ 1048576
 low : ∀ i, i < n → g.testBit i = true → ivLo iv i ≤ lo
 high : ∀ i, i < n → g.testBit i = true → hi ≤ ivHi iv i
 lo' : lo = fr ∨ ∃ i, i < n ∧ g.testBit i = true ∧ lo = ivLo iv i
 hi' : hi = 1048576 ∨ ∃ i, i < n ∧ g.testBit i = true ∧ hi = ivHi iv i
 many : many = ((List.range n).filter fun i => g.testBit i).length
theorem grpP_some : ∀ {n : Nat} {lo hi : Int} {many : Nat}, grpP iv pl g fr n = some (lo, hi, many) → Grp iv pl g fr n lo hi many
 | 0, lo, hi, many, h => by
  simp only [grpP, Option.some.injEq, Prod.mk.injEq] at h
  obtain ⟨rfl, rfl, rfl⟩ := h
  exact ⟨fun i h => by omega, Int.le_refl _, Int.le_refl _, fun i h => by omega, fun i h => by omega, .inl rfl, .inl rfl, rfl⟩
 | n + 1, lo, hi, many, h => by
  unfold grpP at h
  split at h
  · cases h
  · rename_i lo0 hi0 many0 e
    have ih := grpP_some e
    by_cases hb : g.testBit n = true
    · rw [if_pos hb] at h
      by_cases hp : pl.getD n 0 = 0
      · rw [if_neg (by rw [hp]; simp)] at h
        simp only [Option.some.injEq, Prod.mk.injEq] at h
        obtain ⟨rfl, rfl, rfl⟩ := h
        have hs : ∀ i, i < n + 1 → i < n ∨ i = n := fun i h => by omega
        refine ⟨fun i hi hbi => ?_, by have := ih.frl; omega, by have := ih.top; omega, fun i hi hbi => ?_, fun i hi hbi => ?_, ?_, ?_, ?_⟩
        · rcases hs i hi with h | rfl
          · exact ih.free i h hbi
          · exact hp
        · rcases hs i hi with h | rfl
          · have := ih.low i h hbi; omega
          · omega
        · rcases hs i hi with h | rfl
          · have := ih.high i h hbi; omega
          · omega
        · rcases Int.le_total lo0 (ivLo iv n) with h | h
          · exact .inr ⟨n, by omega, hb, by omega⟩
          · rcases ih.lo' with e | ⟨i, h1, h2, h3⟩
            · left; omega
            · exact .inr ⟨i, by omega, h2, by omega⟩
        · rcases Int.le_total (ivHi iv n) hi0 with h | h
          · exact .inr ⟨n, by omega, hb, by omega⟩
          · rcases ih.hi' with e | ⟨i, h1, h2, h3⟩
            · left; omega
            · exact .inr ⟨i, by omega, h2, by omega⟩
        · rw [ih.many, List.range_succ, List.filter_append, List.length_append]; simp [hb]
      · rw [if_pos hp] at h; cases h
    · rw [if_neg hb] at h
      simp only [Option.some.injEq, Prod.mk.injEq] at h
      obtain ⟨rfl, rfl, rfl⟩ := h
      have hs : ∀ i, i < n + 1 → g.testBit i = true → i < n := fun i h hbi => by
       rcases Nat.lt_or_ge i n with h1 | h1
       · exact h1
       · exact absurd (by rw [show n = i by omega]; exact hbi) hb
      refine ⟨fun i hi hbi => ih.free i (hs i hi hbi) hbi, ih.frl, ih.top, fun i hi hbi => ih.low i (hs i hi hbi) hbi, fun i hi hbi => ih.high i (hs i hi hbi) hbi, ?_, ?_, ?_⟩
      · rcases ih.lo' with e | ⟨i, h1, h2, h3⟩
        · exact .inl e
        · exact .inr ⟨i, by omega, h2, h3⟩
      · rcases ih.hi' with e | ⟨i, h1, h2, h3⟩
        · exact .inl e
        · exact .inr ⟨i, by omega, h2, h3⟩
      · rw [ih.many, List.range_succ, List.filter_append, List.length_append]; simp [hb]
theorem grpP_ex : ∀ {n : Nat}, (∀ i, i < n → g.testBit i = true → pl.getD i 0 = 0) → ∃ lo hi many, grpP iv pl g fr n = some (lo, hi, many)
 | 0, _ => ⟨_, _, _, rfl⟩
 | n + 1, h => by
  obtain ⟨lo, hi, many, e⟩ := grpP_ex (n := n) fun i hi => h i (by omega)
  unfold grpP
  rw [e]
  simp only
  by_cases hb : g.testBit n = true
  · rw [if_pos hb, if_neg (by rw [h n (by omega) hb]; simp)]; exact ⟨_, _, _, rfl⟩
  · rw [if_neg hb]; exact ⟨_, _, _, rfl⟩
end
def lessN (t : List Int) (x : Int) : Nat := (t.filter fun y => decide (y < x)).length
def placesL (t : List Int) : List Int := t.map fun x => (lessN t x : Int) + 1
def FitT (iv : Iv) (t : List Int) : Prop := t.length = iv.length ∧ ∀ i, i < iv.length → ivLo iv i ≤ t.getD i 0 ∧ t.getD i 0 ≤ ivHi iv i
def OkIv (iv : Iv) : Prop := ∀ i, i < iv.length → 0 ≤ ivLo iv i ∧ ivLo iv i ≤ ivHi iv i ∧ ivHi iv i ≤ 1048576
theorem lessN_range (t : List Int) (x : Int) : lessN t x = ((List.range t.length).filter fun i => decide (t.getD i 0 < x)).length := by
 have h : t = (List.range t.length).map fun i => t.getD i 0 := by
  apply List.ext_getElem?
  intro i
  by_cases hi : i < t.length
  · simp [hi, List.getD_eq_getElem?_getD]
  · rw [List.getElem?_eq_none (by omega), List.getElem?_eq_none (by simp; omega)]
 unfold lessN
 conv => lhs; rw [h]
 rw [List.filter_map, List.length_map]; rfl
theorem filter_or {α : Type} (a b : α → Bool) : ∀ l : List α, (∀ x ∈ l, a x = true → b x = true → False) → (l.filter fun x => a x || b x).length = (l.filter a).length + (l.filter b).length
 | [], _ => rfl
 | x :: l, h => by
  have ih := filter_or a b l fun y hy => h y (List.mem_cons_of_mem _ hy)
  have hx := h x (List.mem_cons_self ..)
  cases ha : a x <;> cases hb : b x
  · simp [ha, hb, ih]
  · simp [ha, hb, ih]; omega
  · simp [ha, hb, ih]; omega
  · exact (hx ha hb).elim
theorem some_bit {g m : Nat} (h0 : g ≠ 0) (hg : g < 2 ^ m) : ∃ i, i < m ∧ g.testBit i = true := by
 refine Classical.byContradiction fun hn => h0 (Nat.eq_of_testBit_eq fun i => ?_)
 rw [Nat.zero_testBit]
 by_cases hi : i < m
 · cases e : g.testBit i
   · rfl
   · exact absurd ⟨i, hi, e⟩ hn
 · exact Nat.testBit_lt_two_pow (Nat.lt_of_lt_of_le hg (Nat.pow_le_pow_right (by omega) (by omega)))
theorem mask (p : Nat → Bool) : ∀ m : Nat, ∃ g, g < 2 ^ m ∧ ∀ i, i < m → g.testBit i = p i
 | 0 => ⟨0, by simp, fun i h => by omega⟩
 | m + 1 => by
  obtain ⟨g, hg, h⟩ := mask p m
  by_cases hp : p m = true
  · refine ⟨g ||| 2 ^ m, Nat.or_lt_two_pow (Nat.lt_of_lt_of_le hg (Nat.pow_le_pow_right (by omega) (by omega))) (Nat.pow_lt_pow_right (by omega) (by omega)), fun i hi => ?_⟩
    rw [Nat.testBit_or, Nat.testBit_two_pow]
    by_cases e : m = i
    · subst e; simp [hp]
    · rw [h i (by omega)]; simp [e]
  · refine ⟨g, Nat.lt_of_lt_of_le hg (Nat.pow_le_pow_right (by omega) (by omega)), fun i hi => ?_⟩
    by_cases e : m = i
    · subst e; rw [Nat.testBit_lt_two_pow hg]; simpa using hp
    · exact h i (by omega)
def isP (pl : List Int) (i : Nat) : Bool := decide (pl.getD i 0 ≠ 0)
structure Sd (iv : Iv) (pl : List Int) (done : Nat) (fr : Int) (t : Nat → Int) : Prop where
 len : pl.length = iv.length
 fit : ∀ i, i < iv.length → isP pl i = true → ivLo iv i ≤ t i ∧ t i ≤ ivHi iv i ∧ t i < fr
 pos : ∀ i, i < iv.length → isP pl i = true → pl.getD i 0 = (((List.range iv.length).filter fun k => isP pl k && decide (t k < t i)).length : Int) + 1
 cnt : done = ((List.range iv.length).filter (isP pl)).length
 can : ∀ i, i < iv.length → isP pl i = true → ∃ k d, k < iv.length ∧ d < iv.length ∧ t i = ivLo iv k + d
 frs : fr = 0 ∨ ∃ k d, k < iv.length ∧ d + 1 ≤ done ∧ fr = ivLo iv k + d + 1
theorem isP_set {pl : List Int} {g done m i : Nat} (hl : pl.length = m) (hi : i < m) : isP (setP pl g ((done : Int) + 1) m) i = (g.testBit i || isP pl i) := by
 unfold isP
 rw [setP_getD (by omega), decide_eq_true hi, Bool.and_true]
 cases g.testBit i
 · simp
 · simp; omega
theorem Sd.step {iv : Iv} {pl : List Int} {done g many : Nat} {fr lo hi : Int} {t : Nat → Int} (hok : OkIv iv) (h : Sd iv pl done fr t) (h0 : g ≠ 0) (hg : g < 2 ^ iv.length) (hG : Grp iv pl g fr iv.length lo hi many) (hlh : ¬ hi < lo) :
 Sd iv (setP pl g ((done : Int) + 1) iv.length) (done + many) (lo + 1) (fun i => if g.testBit i then lo else t i) := by
 obtain ⟨b, hb, hbb⟩ := some_bit h0 hg
 have hP : ∀ i, i < iv.length → isP (setP pl g ((done : Int) + 1) iv.length) i = (g.testBit i || isP pl i) := fun i hi => isP_set h.len hi
 have hdis : ∀ i, i < iv.length → g.testBit i = true → isP pl i = true → False := fun i hi h1 h2 => by
  have := hG.free i hi h1; unfold isP at h2; rw [this] at h2; simp at h2
 have hmany : 0 < many := by
  rw [hG.many]; exact List.length_pos_of_mem (List.mem_filter.2 ⟨List.mem_range.2 hb, hbb⟩)
 have hdl : done < iv.length := by
  have := List.length_filter_le (fun i => g.testBit i || isP pl i) (List.range iv.length)
  rw [filter_or _ _ _ fun i hi h1 h2 => hdis i (List.mem_range.1 hi) h1 h2, ← h.cnt, List.length_range, ← hG.many] at this
  omega
 have hlo : ∃ k d, k < iv.length ∧ d ≤ done ∧ lo = ivLo iv k + d := by
  rcases hG.lo' with e | ⟨i, h1, h2, h3⟩
  · rcases h.frs with e2 | ⟨k, d, h4, h5, h6⟩
    · have := hG.low b hb hbb
      have := (hok b hb).1
      exact ⟨b, 0, hb, by omega, by omega⟩
    · exact ⟨k, d + 1, h4, by omega, by omega⟩
  · exact ⟨i, 0, h1, by omega, by omega⟩
 refine ⟨by rw [setP_len, h.len], fun i hi hp => ?_, fun i hi hp => ?_, ?_, fun i hi hp => ?_, ?_⟩
 · rw [hP i hi] at hp
   cases e : g.testBit i
   · rw [e] at hp
     have := h.fit i hi (by simpa using hp)
     have := hG.frl
     simp; omega
   · have := hG.low i hi e
     have := hG.high i hi e
     simp; omega
 · rw [hP i hi] at hp
   rw [setP_getD (by rw [h.len]; exact hi), decide_eq_true hi, Bool.and_true]
   cases e : g.testBit i
   · rw [e] at hp
     have hp : isP pl i = true := by simpa using hp
     simp only [Bool.false_eq_true, if_false]
     rw [h.pos i hi hp]
     congr 3
     apply List.filter_congr
     intro k hk
     have hk := List.mem_range.1 hk
     rw [hP k hk]
     cases e2 : g.testBit k
     · simp
     · have h1 := (h.fit i hi hp).2.2
       have h2 := hG.frl
       have h3 : isP pl k = false := by
        cases e3 : isP pl k
        · rfl
        · exact (hdis k hk e2 e3).elim
       rw [h3]; simp; omega
   · simp only [if_true]
     refine congrArg (fun z : Nat => (z : Int) + 1) (h.cnt.trans (congrArg List.length ?_))
     apply List.filter_congr
     intro k hk
     have hk := List.mem_range.1 hk
     rw [hP k hk]
     cases e2 : g.testBit k
     · cases e3 : isP pl k
       · simp
       · have h1 := (h.fit k hk e3).2.2
         have h2 := hG.frl
         simp; omega
     · have h3 : isP pl k = false := by
        cases e3 : isP pl k
        · rfl
        · exact (hdis k hk e2 e3).elim
       rw [h3]; simp
 · rw [List.filter_congr (q := fun i => g.testBit i || isP pl i) fun i hi => hP i (List.mem_range.1 hi), filter_or _ _ _ fun i hi h1 h2 => hdis i (List.mem_range.1 hi) h1 h2, ← h.cnt, ← hG.many]
   omega
 · rw [hP i hi] at hp
   cases e : g.testBit i
   · rw [e] at hp
     simp only [Bool.false_eq_true, if_false]
     exact h.can i hi (by simpa using hp)
   · obtain ⟨k, d, h1, h2, h3⟩ := hlo
     simp only [if_true]
     exact ⟨k, d, h1, by omega, h3⟩
 · obtain ⟨k, d, h1, h2, h3⟩ := hlo
   exact .inr ⟨k, d, h1, by omega, by omega⟩
def CanT (iv : Iv) (t : List Int) : Prop := ∀ i, i < iv.length → ∃ k d, k < iv.length ∧ d < iv.length ∧ t.getD i 0 = ivLo iv k + (d : Nat)
theorem all_of_cnt {p : Nat → Bool} {m : Nat} (h : ((List.range m).filter p).length = m) : ∀ i, i < m → p i = true := fun i hi => by
 have e : (List.range m).filter p = List.range m := List.Sublist.eq_of_length List.filter_sublist (by rw [h, List.length_range])
 have : i ∈ (List.range m).filter p := by rw [e]; exact List.mem_range.2 hi
 exact (List.mem_filter.1 this).2
theorem getD_map (t : Nat → Int) {m i : Nat} (h : i < m) : ((List.range m).map t).getD i 0 = t i := by simp [List.getD_eq_getElem?_getD, h]
theorem Sd.done {iv : Iv} {pl : List Int} {fr : Int} {t : Nat → Int} (h : Sd iv pl iv.length fr t) : FitT iv ((List.range iv.length).map t) ∧ CanT iv ((List.range iv.length).map t) ∧ pl = placesL ((List.range iv.length).map t) := by
 have hall := all_of_cnt h.cnt.symm
 refine ⟨⟨by simp, fun i hi => ?_⟩, fun i hi => ?_, ?_⟩
 · rw [getD_map t hi]
   have := h.fit i hi (hall i hi); omega
 · rw [getD_map t hi]; exact h.can i hi (hall i hi)
 · apply List.ext_getElem?
   intro i
   by_cases hi : i < iv.length
   · have e1 : pl[i]? = some (pl.getD i 0) := by rw [List.getD_eq_getElem?_getD, List.getElem?_eq_getElem (by rw [h.len]; exact hi)]; rfl
     rw [e1, h.pos i hi (hall i hi)]
     unfold placesL
     rw [List.getElem?_map, List.getElem?_map, List.getElem?_range hi]
     simp only [Option.map_some]
     rw [lessN_range, List.length_map, List.length_range]
     congr 4
     apply List.filter_congr
     intro k hk
     have hk := List.mem_range.1 hk
     rw [hall k hk, getD_map t hk]; simp
   · rw [List.getElem?_eq_none (by rw [h.len]; omega), List.getElem?_eq_none (by simp [placesL]; omega)]
theorem nextP_sound {iv : Iv} (hok : OkIv iv) : ∀ (f : Nat) (pl : List Int) (done : Nat) (fr : Int) (t : Nat → Int), Sd iv pl done fr t → ∀ P ∈ nextP iv f pl done fr, ∃ t, FitT iv t ∧ CanT iv t ∧ P = placesL t
 | 0, pl, done, fr, t, h, P, hP => by simp [nextP] at hP
 | f + 1, pl, done, fr, t, h, P, hP => by
  unfold nextP at hP
  by_cases hd : done = iv.length
  · rw [if_pos hd] at hP
    subst hd
    simp at hP
    subst hP
    exact ⟨_, h.done⟩
  · rw [if_neg hd] at hP
    obtain ⟨g, hg, hP⟩ := List.mem_flatMap.1 hP
    have hg := List.mem_range.1 hg
    by_cases h0 : g = 0
    · rw [if_pos h0] at hP; simp at hP
    · rw [if_neg h0] at hP
      split at hP
      · simp at hP
      · rename_i lo hi many e
        by_cases hlh : hi < lo
        · rw [if_pos hlh] at hP; simp at hP
        · rw [if_neg hlh] at hP
          split at hP
          · simp at hP
          · exact nextP_sound hok f _ _ _ _ (h.step hok h0 hg (grpP_some e) hlh) P hP
theorem rep_getD (m i : Nat) : (List.replicate m (0 : Int)).getD i 0 = 0 := by
 rw [List.getD_eq_getElem?_getD]
 by_cases h : i < m
 · rw [List.getElem?_replicate, if_pos h]; rfl
 · rw [List.getElem?_replicate, if_neg h]; rfl
theorem posL_sound {iv : Iv} (hok : OkIv iv) {P : List Int} (h : P ∈ posL iv) : ∃ t, FitT iv t ∧ CanT iv t ∧ P = placesL t := by
 have hp : ∀ i, isP (List.replicate iv.length 0) i = false := fun i => by unfold isP; rw [rep_getD]; simp
 refine nextP_sound hok _ _ 0 0 (fun _ => 0) ⟨by simp, fun i hi h => ?_, fun i hi h => ?_, ?_, fun i hi h => ?_, .inl rfl⟩ P h
 · rw [hp] at h; cases h
 · rw [hp] at h; cases h
 · rw [List.filter_eq_nil_iff.2 fun i _ => by rw [hp]; simp]; rfl
 · rw [hp] at h; cases h
structure Cp (iv : Iv) (t : List Int) (pl : List Int) (done : Nat) (fr : Int) : Prop where
 len : pl.length = iv.length
 pos : ∀ i, i < iv.length → isP pl i = true → pl.getD i 0 = (lessN t (t.getD i 0) : Int) + 1
 sep : ∀ i k, i < iv.length → k < iv.length → isP pl i = true → isP pl k = false → t.getD i 0 < t.getD k 0
 frs : ∀ k, k < iv.length → isP pl k = false → fr ≤ t.getD k 0
 cnt : done = ((List.range iv.length).filter (isP pl)).length
theorem least {p : Nat → Bool} {f : Nat → Int} : ∀ {m : Nat}, (∃ i, i < m ∧ p i = true) → ∃ i, i < m ∧ p i = true ∧ ∀ k, k < m → p k = true → f i ≤ f k
 | 0, ⟨i, h, _⟩ => by omega
 | m + 1, ⟨i, h, hp⟩ => by
  by_cases hex : ∃ i, i < m ∧ p i = true
  · obtain ⟨j, hj, hpj, hmin⟩ := least (f := f) hex
    by_cases hpm : p m = true
    · by_cases hle : f j ≤ f m
      · refine ⟨j, by omega, hpj, fun k hk hpk => ?_⟩
        by_cases e : k = m
        · subst e; exact hle
        · exact hmin k (by omega) hpk
      · refine ⟨m, by omega, hpm, fun k hk hpk => ?_⟩
        by_cases e : k = m
        · subst e; omega
        · have := hmin k (by omega) hpk; omega
    · refine ⟨j, by omega, hpj, fun k hk hpk => ?_⟩
      by_cases e : k = m
      · subst e; exact absurd hpk hpm
      · exact hmin k (by omega) hpk
  · have e : i = m := by
     refine Classical.byContradiction fun hne => hex ⟨i, by omega, hp⟩
    subst e
    refine ⟨i, h, hp, fun k hk hpk => ?_⟩
    by_cases e : k = i
    · subst e; exact Int.le_refl _
    · exact absurd ⟨k, by omega, hpk⟩ hex
theorem nextP_complete {iv : Iv} (hok : OkIv iv) {t : List Int} (ht : FitT iv t) : ∀ (f : Nat) (pl : List Int) (done : Nat) (fr : Int), iv.length < f + done → Cp iv t pl done fr → placesL t ∈ nextP iv f pl done fr
 | 0, pl, done, fr, hf, h => by
  have := List.length_filter_le (isP pl) (List.range iv.length)
  rw [← h.cnt, List.length_range] at this
  omega
 | f + 1, pl, done, fr, hf, h => by
  unfold nextP
  by_cases hd : done = iv.length
  · rw [if_pos hd]
    subst hd
    have hall := all_of_cnt h.cnt.symm
    refine List.mem_singleton.2 (List.ext_getElem? fun i => ?_)
    by_cases hi : i < iv.length
    · have e1 : pl[i]? = some (pl.getD i 0) := by rw [List.getD_eq_getElem?_getD, List.getElem?_eq_getElem (by rw [h.len]; exact hi)]; rfl
      rw [e1, h.pos i hi (hall i hi)]
      unfold placesL
      rw [List.getElem?_map, List.getD_eq_getElem?_getD, List.getElem?_eq_getElem (by rw [ht.1]; exact hi)]
      rfl
    · rw [List.getElem?_eq_none (by simp [placesL, ht.1]; omega), List.getElem?_eq_none (by rw [h.len]; omega)]
  · rw [if_neg hd]
    have hex : ∃ i, i < iv.length ∧ (!isP pl i) = true := by
     refine Classical.byContradiction fun hn => hd ?_
     have : ∀ i ∈ List.range iv.length, isP pl i = true := fun i hi => by
      cases e : isP pl i
      · exact absurd ⟨i, List.mem_range.1 hi, by simp [e]⟩ hn
      · rfl
     rw [h.cnt, List.filter_eq_self.2 this, List.length_range]
    obtain ⟨b, hb, hpb, hmin⟩ := least (f := fun i => t.getD i 0) hex
    have hpb : isP pl b = false := by simpa using hpb
    obtain ⟨g, hg, hbits⟩ := mask (fun i => !isP pl i && decide (t.getD i 0 = t.getD b 0)) iv.length
    have hgb : g.testBit b = true := by rw [hbits b hb]; simp [hpb]
    have h0 : g ≠ 0 := fun e => by rw [e, Nat.zero_testBit] at hgb; cases hgb
    have hbit : ∀ i, i < iv.length → g.testBit i = true → isP pl i = false ∧ t.getD i 0 = t.getD b 0 := fun i hi h => by
     rw [hbits i hi] at h; simpa using h
    have hfree : ∀ i, i < iv.length → g.testBit i = true → pl.getD i 0 = 0 := fun i hi h => by
     have := (hbit i hi h).1; unfold isP at this; simpa using this
    obtain ⟨lo, hi, many, e⟩ := grpP_ex (iv := iv) (fr := fr) hfree
    have hG := grpP_some e
    have hlo : lo ≤ t.getD b 0 := by
     rcases hG.lo' with e2 | ⟨i, h1, h2, h3⟩
     · have := h.frs b hb hpb; omega
     · have := (ht.2 i h1).1
       have := (hbit i h1 h2).2
       omega
    have hhi : t.getD b 0 ≤ hi := by
     rcases hG.hi' with e2 | ⟨i, h1, h2, h3⟩
     · have := (ht.2 b hb).2
       have := (hok b hb).2.2
       omega
     · have := (ht.2 i h1).2
       have := (hbit i h1 h2).2
       omega
    have hlate : lateP iv pl g lo iv.length = false := by
     unfold lateP
     rw [List.any_eq_false]
     intro i hi2 hc
     have hi2 := List.mem_range.1 hi2
     simp only [Bool.and_eq_true, Bool.not_eq_true', decide_eq_true_eq] at hc
     obtain ⟨c1, c2, c3⟩ := hc
     have hp : isP pl i = false := by unfold isP; simpa using c2
     have h1 := hmin i hi2 (by simp [hp])
     have h2 : ¬ t.getD i 0 = t.getD b 0 := fun e => by rw [hbits i hi2, hp, e] at c1; simp at c1
     have := (ht.2 i hi2).2
     omega
    refine List.mem_flatMap.2 ⟨g, List.mem_range.2 hg, ?_⟩
    rw [if_neg h0, e]
    simp only
    rw [if_neg (by omega), hlate]
    simp only [Bool.false_eq_true, if_false]
    have hmany : 0 < many := by
     rw [hG.many]; exact List.length_pos_of_mem (List.mem_filter.2 ⟨List.mem_range.2 hb, hgb⟩)
    have hP : ∀ i, i < iv.length → isP (setP pl g ((done : Int) + 1) iv.length) i = (g.testBit i || isP pl i) := fun i hi => isP_set h.len hi
    have hdis : ∀ i, i < iv.length → g.testBit i = true → isP pl i = true → False := fun i hi h1 h2 => by
     rw [(hbit i hi h1).1] at h2; cases h2
    refine nextP_complete hok ht f _ _ _ (by omega) ⟨by rw [setP_len, h.len], fun i hi hp => ?_, fun i k hi hk hp hq => ?_, fun k hk hq => ?_, ?_⟩
    · rw [hP i hi] at hp
      rw [setP_getD (by rw [h.len]; exact hi), decide_eq_true hi, Bool.and_true]
      cases e2 : g.testBit i
      · rw [e2] at hp
        simp only [Bool.false_eq_true, if_false]
        exact h.pos i hi (by simpa using hp)
      · simp only [if_true]
        rw [lessN_range, (hbit i hi e2).2, h.cnt, ht.1]
        congr 3
        apply List.filter_congr
        intro k hk
        have hk := List.mem_range.1 hk
        cases e3 : isP pl k
        · have := hmin k hk (by simp [e3])
          rw [decide_eq_false (by omega)]
        · have := h.sep k b hk hb e3 hpb
          rw [decide_eq_true this]
    · rw [hP i hi] at hp
      rw [hP k hk, Bool.or_eq_false_iff] at hq
      have h1 := hmin k hk (by simp [hq.2])
      have h2 : ¬ t.getD k 0 = t.getD b 0 := fun e => by have := hq.1; rw [hbits k hk, hq.2, e] at this; simp at this
      cases e2 : g.testBit i
      · rw [e2] at hp
        exact h.sep i k hi hk (by simpa using hp) hq.2
      · have := (hbit i hi e2).2
        omega
    · rw [hP k hk, Bool.or_eq_false_iff] at hq
      have h1 := hmin k hk (by simp [hq.2])
      have h2 : ¬ t.getD k 0 = t.getD b 0 := fun e => by have := hq.1; rw [hbits k hk, hq.2, e] at this; simp at this
      omega
    · rw [List.filter_congr (q := fun i => g.testBit i || isP pl i) fun i hi => hP i (List.mem_range.1 hi), filter_or _ _ _ fun i hi h1 h2 => hdis i (List.mem_range.1 hi) h1 h2, ← h.cnt, ← hG.many]
      omega
theorem posL_complete {iv : Iv} (hok : OkIv iv) {t : List Int} (ht : FitT iv t) : placesL t ∈ posL iv := by
 have hp : ∀ i, isP (List.replicate iv.length 0) i = false := fun i => by unfold isP; rw [rep_getD]; simp
 refine nextP_complete hok ht _ _ _ _ (by omega) ⟨by simp, fun i hi h => ?_, fun i k hi hk h => ?_, fun k hk _ => ?_, ?_⟩
 · rw [hp] at h; cases h
 · rw [hp] at h; cases h
 · have := (ht.2 k hk).1
   have := (hok k hk).1
   omega
 · rw [List.filter_eq_nil_iff.2 fun i _ => by rw [hp]; simp]; rfl
theorem lo_fit {iv : Iv} (hok : OkIv iv) : FitT iv (iv.map (·.1)) := ⟨by simp, fun i hi => by
 have e : (iv.map (·.1)).getD i 0 = ivLo iv i := by
  unfold ivLo
  rw [List.getD_eq_getElem?_getD, List.getD_eq_getElem?_getD, List.getElem?_map, List.getElem?_eq_getElem hi]; rfl
 rw [e]
 exact ⟨Int.le_refl _, (hok i hi).2.1⟩⟩
theorem posL_ne {iv : Iv} (hok : OkIv iv) : posL iv ≠ [] := List.ne_nil_of_mem (posL_complete hok (lo_fit hok))
def bnd (m : Nat) : Nat → List Bool → Nat
 | 0, _ => 0
 | f + 1, u => if (List.range m).all (fun i => !u.getD i false) then 1 else
  ((List.range (2 ^ m)).map fun g => if g = 0 then 0 else if (List.range m).all (fun i => !g.testBit i || u.getD i false) then bnd m f (u.mapIdx fun i x => x && !g.testBit i) else 0).sum
theorem bnd4 : bnd 4 5 [true, true, true, true] = 75 := by decide +kernel
theorem bnd3 : bnd 3 4 [true, true, true] = 13 := by decide +kernel
theorem bnd2 : bnd 2 3 [true, true] = 3 := by decide +kernel
theorem bnd1 : bnd 1 2 [true] = 1 := by decide +kernel
theorem bnd0 : bnd 0 1 [] = 1 := by decide +kernel
theorem sum_le {α : Type} {f g : α → Nat} : ∀ {l : List α}, (∀ x ∈ l, f x ≤ g x) → (l.map f).sum ≤ (l.map g).sum
 | [], _ => Nat.le_refl _
 | x :: l, h => by
  simp only [List.map_cons, List.sum_cons]
  have := h x (List.mem_cons_self ..)
  have := sum_le (l := l) fun y hy => h y (List.mem_cons_of_mem _ hy)
  omega
def unP (pl : List Int) : List Bool := pl.map fun x => decide (x = 0)
theorem unP_get (pl : List Int) {i : Nat} (h : i < pl.length) : (unP pl).getD i false = !isP pl i := by
 unfold unP isP
 rw [List.getD_eq_getElem?_getD, List.getElem?_map, List.getD_eq_getElem?_getD, List.getElem?_eq_getElem h]
 simp
theorem unP_set {pl : List Int} {g done m : Nat} (hl : pl.length = m) : unP (setP pl g ((done : Int) + 1) m) = (unP pl).mapIdx fun i x => x && !g.testBit i := by
 apply List.ext_getElem?
 intro i
 by_cases hi : i < m
 · unfold unP
   rw [List.getElem?_map, setP_get (by omega), List.getElem?_mapIdx, List.getElem?_map, List.getElem?_eq_getElem (by omega), List.getD_eq_getElem?_getD, List.getElem?_eq_getElem (by omega), decide_eq_true hi, Bool.and_true]
   cases g.testBit i
   · simp
   · simp; omega
 · rw [List.getElem?_eq_none (by simp [unP, setP_len]; omega), List.getElem?_eq_none (by simp [unP]; omega)]
theorem nextP_bnd {iv : Iv} : ∀ (f : Nat) (pl : List Int) (done : Nat) (fr : Int), pl.length = iv.length → done = ((List.range iv.length).filter (isP pl)).length → (nextP iv f pl done fr).length ≤ bnd iv.length f (unP pl)
 | 0, _, _, _, _, _ => Nat.le_refl _
 | f + 1, pl, done, fr, hl, hc => by
  unfold nextP bnd
  by_cases hd : done = iv.length
  · rw [if_pos hd]
    subst hd
    have hall := all_of_cnt hc.symm
    rw [if_pos (List.all_eq_true.2 fun i hi => by
     have hi := List.mem_range.1 hi
     rw [unP_get _ (by omega), hall i hi]; rfl)]
    exact Nat.le_refl _
  · rw [if_neg hd]
    rw [if_neg (fun h => hd (by
     rw [hc, List.filter_eq_self.2, List.length_range]
     intro i hi
     have := List.all_eq_true.1 h i hi
     rw [unP_get _ (by have := List.mem_range.1 hi; omega)] at this
     simpa using this))]
    rw [List.length_flatMap]
    refine sum_le fun g hg => ?_
    by_cases h0 : g = 0
    · rw [if_pos h0, if_pos h0]; exact Nat.le_refl _
    · rw [if_neg h0, if_neg h0]
      split
      · exact Nat.zero_le _
      · rename_i lo hi many e
        have hG := grpP_some e
        have hdis : ∀ i, i < iv.length → g.testBit i = true → isP pl i = true → False := fun i hi h1 h2 => by
         have := hG.free i hi h1; unfold isP at h2; rw [this] at h2; simp at h2
        split
        · exact Nat.zero_le _
        · split
          · exact Nat.zero_le _
          · rw [if_pos (List.all_eq_true.2 fun i hi => by
             have hi := List.mem_range.1 hi
             rw [unP_get _ (by omega)]
             cases e2 : g.testBit i
             · rfl
             · cases e3 : isP pl i
               · rfl
               · exact (hdis i hi e2 e3).elim), ← unP_set (done := done) hl]
            refine nextP_bnd f _ _ _ (by rw [setP_len, hl]) ?_
            rw [List.filter_congr (q := fun i => g.testBit i || isP pl i) fun i hi => isP_set hl (List.mem_range.1 hi), filter_or _ _ _ fun i hi h1 h2 => hdis i (List.mem_range.1 hi) h1 h2, ← hc, ← hG.many]
            omega
theorem unP_rep (m : Nat) : unP (List.replicate m 0) = List.replicate m true := by unfold unP; rw [List.map_replicate]; rfl
theorem posL_len {iv : Iv} (h : iv.length ≤ 4) : (posL iv).length ≤ 75 := by
 have hp : ∀ i, isP (List.replicate iv.length 0) i = false := fun i => by unfold isP; rw [rep_getD]; simp
 have := nextP_bnd (iv := iv) (iv.length + 1) (List.replicate iv.length 0) 0 0 (by simp) (by rw [List.filter_eq_nil_iff.2 fun i _ => by rw [hp]; simp]; rfl)
 rw [unP_rep] at this
 refine Nat.le_trans this ?_
 have hm : iv.length = 0 ∨ iv.length = 1 ∨ iv.length = 2 ∨ iv.length = 3 ∨ iv.length = 4 := by omega
 rcases hm with e | e | e | e | e <;> rw [e]
 · rw [show List.replicate 0 true = [] from rfl, bnd0]; omega
 · rw [show List.replicate 1 true = [true] from rfl, bnd1]; omega
 · rw [show List.replicate 2 true = [true, true] from rfl, bnd2]; omega
 · rw [show List.replicate 3 true = [true, true, true] from rfl, bnd3]; omega
 · rw [show List.replicate 4 true = [true, true, true, true] from rfl, bnd4]; exact Nat.le_refl _
end Go.Proofs.YtehoidohallfcaaGreatDoor
/- Scoring programs, results, totals and ranks, in plain Lean. No program in sight. -/
namespace Go.Proofs.YtehoidohallfcaaGreatDoor
structure Wd where
 op : Int
 n : Int
deriving DecidableEq
def pushB (st : List Bool) (w : Wd) : Option (List Bool) :=
 if w.op = 1 ∧ 0 ≤ w.n ∧ w.n ≤ 1048576 then some (st ++ [false])
 else if w.op = 2 ∧ 0 ≤ w.n ∧ w.n < 5 then some (st ++ [false])
 else if w.op = 10 ∧ w.n = 0 ∧ 2 < st.length ∧ st[st.length - 3]? = some true ∧ st[st.length - 2]? = some false ∧ st[st.length - 1]? = some false then some (st.take (st.length - 3) ++ [false])
 else if 3 ≤ w.op ∧ w.op < 10 ∧ w.n = 0 ∧ 2 ≤ st.length ∧ st[st.length - 2]? = some false ∧ st[st.length - 1]? = some false then some (st.take (st.length - 2) ++ [decide (w.op = 9)])
 else none
def stB : List Wd → List Bool → Option (List Bool)
 | [], st => some st
 | w :: l, st => match pushB st w with
  | none => none
  | some st' => stB l st'
def okW (l : List Wd) : Bool := decide (l.length ≤ 256) && match stB l [] with
 | some [c] => !c
 | _ => false
def ptE (l : List Wd) : Int := if okW l then 0 else 520
def topI : Int := 1099511627776
def holdI (n : Int) : Int := max (-topI) (min topI n)
def timesI (a b : Int) : Int := if b ≠ 0 ∧ topI / max b (-b) < max a (-a) then (if decide (a < 0) ≠ decide (b < 0) then -topI else topI) else a * b
def overI (a b : Int) : Int := if b = 0 then 0 else if a.tmod b ≠ 0 ∧ decide (a < 0) ≠ decide (b < 0) then a.tdiv b - 1 else a.tdiv b
def opI (op a b : Int) : Int :=
 if op = 3 then holdI (a + b) else if op = 4 then holdI (a - b) else if op = 5 then timesI a b else if op = 6 then overI a b else if op = 7 then min a b else if op = 8 then max a b else if a < b then 1 else 0
def pushI (inp st : List Int) (w : Wd) : List Int :=
 if w.op = 1 then st ++ [w.n]
 else if w.op = 2 then st ++ [inp.getD w.n.toNat 0]
 else if w.op = 10 then st.take (st.length - 3) ++ [if st.getD (st.length - 3) 0 ≠ 0 then st.getD (st.length - 2) 0 else st.getD (st.length - 1) 0]
 else st.take (st.length - 2) ++ [opI w.op (st.getD (st.length - 2) 0) (st.getD (st.length - 1) 0)]
def runW (l : List Wd) (inp : List Int) : Int := max 0 (min 1048576 ((l.foldl (pushI inp) []).getD 0 0))
theorem pushB_len {st st' : List Bool} {w : Wd} (h : pushB st w = some st') (inp si : List Int) (hl : si.length = st.length) : (pushI inp si w).length = st'.length := by
 unfold pushB at h
 unfold pushI
 split at h
 · rename_i c; injection h with h; subst h; rw [if_pos c.1]; simp [hl]
 · rename_i c0
   split at h
   · rename_i c; injection h with h; subst h
     rw [if_neg (by omega), if_pos c.1]; simp [hl]
   · split at h
     · rename_i c; injection h with h; subst h
       rw [if_neg (by omega), if_neg (by omega), if_pos c.1]
       simp [hl]
     · split at h
       · rename_i c; injection h with h; subst h
         rw [if_neg (by omega), if_neg (by omega), if_neg (by omega)]
         simp [hl]
       · cases h
theorem hold_bd (n : Int) : -topI ≤ holdI n ∧ holdI n ≤ topI := by unfold holdI topI; omega
theorem times_bd {a b : Int} (_ha : -topI ≤ a ∧ a ≤ topI) (hb : -topI ≤ b ∧ b ≤ topI) : -topI ≤ timesI a b ∧ timesI a b ≤ topI := by
 have ht : 0 ≤ topI := by unfold topI; omega
 unfold timesI
 split
 · split <;> omega
 · rename_i h
   by_cases h0 : b = 0
   · subst h0; simp; omega
   · have h1 : max a (-a) ≤ topI / max b (-b) := Int.not_lt.1 fun hh => h ⟨h0, hh⟩
     have hpos : 0 < max b (-b) := by omega
     have h2 : max a (-a) * max b (-b) ≤ topI := Int.le_trans (Int.mul_le_mul_of_nonneg_right h1 (Int.le_of_lt hpos)) (Int.ediv_mul_le _ (by omega))
     have h3 : max a (-a) = (a.natAbs : Int) := by omega
     have h4 : max b (-b) = (b.natAbs : Int) := by omega
     rw [h3, h4, ← Int.natCast_mul, ← Int.natAbs_mul] at h2
     omega
theorem over_bd {a b : Int} (ha : -topI ≤ a ∧ a ≤ topI) : -topI ≤ overI a b ∧ overI a b ≤ topI := by
 have ht : 0 ≤ topI := by unfold topI; omega
 unfold overI
 split
 · omega
 · rename_i h0
   have h1 : (a.tdiv b).natAbs ≤ a.natAbs := by rw [Int.natAbs_tdiv]; exact Nat.div_le_self _ _
   split
   · rename_i h
     by_cases hb : b.natAbs = 1
     · exfalso
       refine h.1 ?_
       rcases Int.natAbs_eq b with e | e <;> rw [e, hb] <;> simp
     · by_cases ha0 : a = 0
       · subst ha0; simp at h
       · have : (a.tdiv b).natAbs < a.natAbs := by
          rw [Int.natAbs_tdiv]; exact Nat.div_lt_self (by omega) (by omega)
         omega
   · omega
theorem op_bd {op a b : Int} (ha : -topI ≤ a ∧ a ≤ topI) (hb : -topI ≤ b ∧ b ≤ topI) : -topI ≤ opI op a b ∧ opI op a b ≤ topI := by
 unfold opI
 split
 · exact hold_bd _
 · split
   · exact hold_bd _
   · split
     · exact times_bd ha hb
     · split
       · exact over_bd ha
       · split
         · omega
         · split
           · omega
           · unfold topI; split <;> omega
def BdI (st : List Int) : Prop := ∀ x ∈ st, -topI ≤ x ∧ x ≤ topI
theorem BdI.getD {st : List Int} (h : BdI st) (i : Nat) : -topI ≤ st.getD i 0 ∧ st.getD i 0 ≤ topI := by
 rw [List.getD_eq_getElem?_getD]
 cases e : st[i]? with
 | none => simp; unfold topI; omega
 | some x => exact h x (List.mem_of_getElem? e)
theorem push_bd {st : List Bool} {st' : List Bool} {w : Wd} (h : pushB st w = some st') {inp si : List Int} (hi : BdI inp) (hs : BdI si) : BdI (pushI inp si w) := by
 have hap : ∀ (l : List Int) (x : Int), BdI l → -topI ≤ x ∧ x ≤ topI → BdI (l ++ [x]) := fun l x hl hx y hy => by
  rcases List.mem_append.1 hy with h | h
  · exact hl y h
  · simp at h; subst h; exact hx
 have htk : ∀ n, BdI (si.take n) := fun n y hy => hs y (List.mem_of_mem_take hy)
 unfold pushI
 split
 · refine hap _ _ hs ?_
   unfold pushB at h
   rename_i c
   split at h
   · unfold topI; omega
   · rw [if_neg (by omega), if_neg (by omega), if_neg (by omega)] at h; cases h
 · split
   · exact hap _ _ hs (hi.getD _)
   · split
     · refine hap _ _ (htk _) ?_
       split
       · exact hs.getD _
       · exact hs.getD _
     · exact hap _ _ (htk _) (op_bd (hs.getD _) (hs.getD _))
structure Rs where
 cm : Int
 pz : Int
 tr : Int
 lo : Int
 hi : Int
 rt : Bool
deriving DecidableEq
structure Sh where
 cs : Int
 ps : Int
 lv : List Int
 cl : List Int
 pg : List Wd
 pr : List Int
def betw (lo hi : Int) (l : List Int) : Bool := l.all fun n => decide (lo ≤ n) && decide (n ≤ hi)
def okSh (s : Sh) : Bool := decide (1 ≤ s.cs) && decide (s.cs ≤ 8) && (decide (1 ≤ s.ps) && decide (s.ps ≤ 8)) && decide ((s.lv.length : Int) = s.ps) && decide ((s.cl.length : Int) = s.ps) && decide (s.pr.length ≤ 8) && betw 0 9 s.lv && betw 0 512 s.cl && betw 0 1048576 s.pr
def okRs (s : Sh) (x : Rs) : Bool := (decide (0 ≤ x.cm) && decide (x.cm ≤ s.cs - 1)) && (decide (0 ≤ x.pz) && decide (x.pz ≤ s.ps - 1)) && (decide (0 ≤ x.tr) && decide (x.tr ≤ 32)) && decide (x.lo ≤ x.hi) && (decide (0 ≤ x.lo) && decide (x.hi ≤ 1048576))
def rkE (s : Sh) (l : List Rs) : Int := if 32 < l.length then 2 else if ptE s.pg ≠ 0 then ptE s.pg else if okSh s && l.all (okRs s) then 0 else 530
def R0 : Rs := ⟨0, 0, 0, 0, 0, false⟩
def cntB (l : List Rs) (p : Int) (i : Nat) : Bool := (l.getD i R0).rt && decide ((l.getD i R0).pz = p) && (List.range i).all fun k => !((l.getD k R0).rt && decide ((l.getD k R0).pz = p) && decide ((l.getD k R0).cm = (l.getD i R0).cm))
def cntTo (l : List Rs) (p : Int) (n : Nat) : List Int := ((List.range n).filter (cntB l p)).map Int.ofNat
def cntL (l : List Rs) (p : Int) : List Int := cntTo l p l.length
def rsAt (l : List Rs) (i : Int) : Rs := l.getD i.toNat R0
def ivOf (l : List Rs) (own : List Int) : Iv := own.map fun i => ((rsAt l i).lo, (rsAt l i).hi)
def ptsOf (s : Sh) (l : List Rs) (p : Nat) (own : List Int) (pl : List Int) (k : Nat) : Int := runW s.pg [pl.getD k 0, (own.length : Int), s.lv.getD p 0, s.cl.getD p 0, (rsAt l (own.getD k 0)).tr]
def addTo (s : Sh) (l : List Rs) (p : Nat) (own pl : List Int) : Nat → List Int → List Int
 | 0, t => t
 | k + 1, t => (addTo s l p own pl k t).set (rsAt l (own.getD k 0)).cm.toNat ((addTo s l p own pl k t).getD (rsAt l (own.getD k 0)).cm.toNat 0 + ptsOf s l p own pl k)
def addT (s : Sh) (l : List Rs) (p : Nat) (pl t : List Int) : List Int := addTo s l p (cntL l p) pl (cntL l p).length t
def dedupL {α : Type} [DecidableEq α] : List α → List α
 | [] => []
 | x :: l => if x ∈ dedupL l then dedupL l else x :: dedupL l
def stepL (s : Sh) (l : List Rs) (p : Nat) (all : List (List Int)) : List (List Int) := dedupL ((posL (ivOf l (cntL l p))).flatMap fun pl => all.map fun t => addT s l p pl t)
def ordTo (s : Sh) (l : List Rs) (n : Nat) : Nat → Option (List (List Int))
 | 0 => some [List.replicate n 0]
 | p + 1 => match ordTo s l n p with
  | none => none
  | some all => if 4096 < (stepL s l p all).length then none else some (stepL s l p all)
def ordO (s : Sh) (l : List Rs) : Option (List (List Int)) := (ordTo s l s.cs.toNat s.ps.toNat).map sortP
def rankL (x : List Int) : List Int := x.map fun n => ((x.filter fun m => decide (n < m)).length : Int) + 1
def sgnI (a b : Int) : Int := if a = b then 0 else if a < b then -1 else 1
def bestL (x : List (List Int)) : List Int := x.foldl (fun b t => List.zipWith min b (rankL t)) (rankL (x.headD []))
def worstL (x : List (List Int)) : List Int := x.foldl (fun b t => List.zipWith max b (rankL t)) (rankL (x.headD []))
def undB (x : List (List Int)) (a b : Nat) : Bool := x.any fun t => decide (sgnI (t.getD a 0) (t.getD b 0) ≠ sgnI ((x.headD []).getD a 0) ((x.headD []).getD b 0))
def undRow (x : List (List Int)) (a n : Nat) : List (Int × Int) := ((List.range' (a + 1) (n - (a + 1))).filter (undB x a)).map fun (b : Nat) => ((a : Int), (b : Int))
def undL (x : List (List Int)) (n : Nat) : List (Int × Int) := (List.range n).flatMap fun a => undRow x a n
structure Rk where
 best : List Int
 worst : List Int
 und : List (Int × Int)
def Rk0 : Rk := ⟨[], [], []⟩
def rkOf (s : Sh) (x : List (List Int)) : Rk := ⟨bestL x, worstL x, undL x s.cs.toNat⟩
def rankR (s : Sh) (l : List Rs) : Rk := if rkE s l ≠ 0 then Rk0 else match ordO s l with
 | none => Rk0
 | some x => rkOf s x
def rankE (s : Sh) (l : List Rs) : Int := if rkE s l ≠ 0 then rkE s l else match ordO s l with
 | none => 2
 | some _ => 0
def few53 (s : Sh) (l : List Rs) : Bool := decide (s.cs ≤ 4) && decide (s.ps ≤ 3) && decide (l.length ≤ 12) && decide (s.pg.length ≤ 30) && decide (s.lv.length ≤ 8) && decide (s.cl.length ≤ 8) && decide (s.pr.length ≤ 10)
end Go.Proofs.YtehoidohallfcaaGreatDoor
/- Laws of totals and ranks. Plain words. -/
namespace Go.Proofs.YtehoidohallfcaaGreatDoor
section
variable {α : Type} [DecidableEq α]
theorem mem_dedup {x : α} : ∀ {l : List α}, x ∈ dedupL l ↔ x ∈ l
 | [] => Iff.rfl
 | y :: l => by
  have ih := mem_dedup (x := x) (l := l)
  unfold dedupL
  split
  · rename_i h
    rw [ih, List.mem_cons]
    exact ⟨.inr, fun h2 => h2.elim (fun e => by rw [e]; exact mem_dedup.1 h) id⟩
  · rw [List.mem_cons, List.mem_cons, ih]
theorem nodup_dedup : ∀ (l : List α), (dedupL l).Nodup
 | [] => List.nodup_nil
 | y :: l => by
  unfold dedupL
  split
  · exact nodup_dedup l
  · rename_i h; exact List.nodup_cons.2 ⟨h, nodup_dedup l⟩
theorem dedup_map {β : Type} [DecidableEq β] {f : α → β} : ∀ {l : List α}, (∀ x ∈ l, ∀ y ∈ l, f x = f y → x = y) → dedupL (l.map f) = (dedupL l).map f
 | [], _ => rfl
 | x :: l, h => by
  have ih := dedup_map (f := f) (l := l) fun a ha b hb => h a (List.mem_cons_of_mem _ ha) b (List.mem_cons_of_mem _ hb)
  rw [List.map_cons]
  unfold dedupL
  have e : f x ∈ dedupL (l.map f) ↔ x ∈ dedupL l := by
   rw [mem_dedup, mem_dedup, List.mem_map]
   constructor
   · rintro ⟨y, hy, e⟩
     rw [← h y (List.mem_cons_of_mem _ hy) x (List.mem_cons_self ..) e]; exact hy
   · exact fun hx => ⟨x, hx, rfl⟩
  by_cases hx : x ∈ dedupL l
  · rw [if_pos (e.2 hx), if_pos hx, ih]
  · rw [if_neg (fun h2 => hx (e.1 h2)), if_neg hx, ih, List.map_cons]
end
theorem runW_bd (l : List Wd) (inp : List Int) : 0 ≤ runW l inp ∧ runW l inp ≤ 1048576 := by unfold runW; omega
theorem rs_mem {s : Sh} {l : List Rs} (h : l.all (okRs s) = true) {i : Int} (h0 : 0 ≤ i) (hi : i < l.length) : okRs s (rsAt l i) = true := by
 unfold rsAt
 rw [List.getD_eq_getElem?_getD, List.getElem?_eq_getElem (show i.toNat < l.length by omega)]
 exact List.all_eq_true.1 h _ (List.getElem_mem _)
theorem cntTo_mem {l : List Rs} {p : Int} {n : Nat} {x : Int} (h : x ∈ cntTo l p n) : 0 ≤ x ∧ x < n ∧ cntB l p x.toNat = true := by
 unfold cntTo at h
 obtain ⟨i, hi, rfl⟩ := List.mem_map.1 h
 obtain ⟨h1, h2⟩ := List.mem_filter.1 hi
 have := List.mem_range.1 h1
 exact ⟨by simp, by simp; omega, by simpa using h2⟩
theorem cntL_mem {l : List Rs} {p : Int} {x : Int} (h : x ∈ cntL l p) : 0 ≤ x ∧ x < l.length ∧ cntB l p x.toNat = true := cntTo_mem h
theorem cntTo_succ (l : List Rs) (p : Int) (n : Nat) : cntTo l p (n + 1) = cntTo l p n ++ if cntB l p n then [(n : Int)] else [] := by
 unfold cntTo
 rw [List.range_succ, List.filter_append, List.map_append]
 by_cases h : cntB l p n = true <;> simp [h]
theorem okRs_iv {s : Sh} {x : Rs} (h : okRs s x = true) : 0 ≤ x.cm ∧ x.cm < s.cs ∧ 0 ≤ x.pz ∧ x.pz < s.ps ∧ 0 ≤ x.tr ∧ x.tr ≤ 32 ∧ 0 ≤ x.lo ∧ x.lo ≤ x.hi ∧ x.hi ≤ 1048576 := by
 unfold okRs at h
 simp only [Bool.and_eq_true, decide_eq_true_eq] at h
 omega
theorem iv_get {l : List Rs} {own : List Int} {i : Nat} (hi : i < own.length) : ivLo (ivOf l own) i = (rsAt l (own.getD i 0)).lo ∧ ivHi (ivOf l own) i = (rsAt l (own.getD i 0)).hi := by
 unfold ivLo ivHi ivOf
 rw [List.getD_eq_getElem?_getD, List.getElem?_map, List.getD_eq_getElem?_getD, List.getElem?_eq_getElem hi]
 exact ⟨rfl, rfl⟩
theorem ivOf_len (l : List Rs) (own : List Int) : (ivOf l own).length = own.length := by simp [ivOf]
theorem own_mem {own : List Int} {i : Nat} (hi : i < own.length) : own.getD i 0 ∈ own := by
 rw [List.getD_eq_getElem?_getD, List.getElem?_eq_getElem hi]; exact List.getElem_mem _
theorem iv_ok {s : Sh} {l : List Rs} (h : l.all (okRs s) = true) (p : Int) : OkIv (ivOf l (cntL l p)) := fun i hi => by
 rw [ivOf_len] at hi
 obtain ⟨h1, h2, _⟩ := cntL_mem (own_mem hi)
 have h3 := okRs_iv (rs_mem h h1 h2)
 rw [(iv_get hi).1, (iv_get hi).2]
 exact ⟨h3.2.2.2.2.2.2.1, h3.2.2.2.2.2.2.2.1, h3.2.2.2.2.2.2.2.2⟩
theorem cnt_len {s : Sh} {l : List Rs} (h : l.all (okRs s) = true) {C : Nat} (hC : s.cs ≤ C) (p : Int) : (cntL l p).length ≤ C := by
 have hnd : ((cntL l p).map fun i => (rsAt l i).cm.toNat).Nodup := by
  unfold cntL cntTo
  rw [List.map_map]
  unfold List.Nodup
  rw [List.pairwise_map]
  refine ((List.pairwise_lt_range (n := l.length)).sublist (List.filter_sublist (p := cntB l p))).imp_of_mem ?_
  intro a b ha hb hab e
  obtain ⟨ha1, ha2⟩ := List.mem_filter.1 ha
  obtain ⟨hb1, hb2⟩ := List.mem_filter.1 hb
  have ha1 := List.mem_range.1 ha1
  have hb1 := List.mem_range.1 hb1
  unfold cntB at ha2 hb2
  simp only [Bool.and_eq_true, decide_eq_true_eq] at ha2 hb2
  have := List.all_eq_true.1 hb2.2 a (List.mem_range.2 hab)
  have h1 := okRs_iv (rs_mem h (i := (a : Int)) (by omega) (by omega))
  have h2 := okRs_iv (rs_mem h (i := (b : Int)) (by omega) (by omega))
  simp only [Function.comp, rsAt, Int.toNat_natCast, Int.ofNat_eq_natCast] at e h1 h2
  have e2 : (l.getD a R0).cm = (l.getD b R0).cm := by omega
  rw [ha2.1.1, e2, decide_eq_true ha2.1.2, decide_eq_true rfl] at this
  cases this
 have hsub := len_le_of_sub _ (List.range C) hnd fun x hx => by
  obtain ⟨i, hi, rfl⟩ := List.mem_map.1 hx
  obtain ⟨h1, h2, _⟩ := cntL_mem hi
  have := okRs_iv (rs_mem h h1 h2)
  exact List.mem_range.2 (by omega)
 rw [List.length_map, List.length_range] at hsub
 exact hsub
theorem addTo_len (s : Sh) (l : List Rs) (p : Nat) (own pl t : List Int) : ∀ k, (addTo s l p own pl k t).length = t.length
 | 0 => rfl
 | k + 1 => by unfold addTo; rw [List.length_set, addTo_len s l p own pl t k]
theorem pts_bd (s : Sh) (l : List Rs) (p : Nat) (own pl : List Int) (k : Nat) : 0 ≤ ptsOf s l p own pl k ∧ ptsOf s l p own pl k ≤ 1048576 := runW_bd _ _
def BdT (B : Int) (t : List Int) : Prop := ∀ x ∈ t, 0 ≤ x ∧ x ≤ B
theorem BdT.getD {B : Int} (hB : 0 ≤ B) {t : List Int} (h : BdT B t) (i : Nat) : 0 ≤ t.getD i 0 ∧ t.getD i 0 ≤ B := by
 rw [List.getD_eq_getElem?_getD]
 cases e : t[i]? with
 | none => simp [hB]
 | some x => exact h x (List.mem_of_getElem? e)
theorem mem_set {α : Type} {l : List α} {i : Nat} {a x : α} (h : x ∈ l.set i a) : x = a ∨ x ∈ l := by
 obtain ⟨j, hj⟩ := List.mem_iff_getElem?.1 h
 by_cases e : i = j
 · subst e
   rw [List.getElem?_set] at hj
   split at hj
   · split at hj
     · injection hj with hj; exact .inl hj.symm
     · cases hj
   · exact absurd rfl ‹_›
 · rw [List.getElem?_set_ne e] at hj
   exact .inr (List.mem_of_getElem? hj)
theorem addTo_bd (s : Sh) (l : List Rs) (p : Nat) (own pl : List Int) {B : Int} (hB : 0 ≤ B) {t : List Int} (h : BdT B t) : ∀ k : Nat, BdT (B + k * 1048576) (addTo s l p own pl k t)
 | 0 => by show BdT (B + ((0 : Nat) : Int) * 1048576) t; simpa using h
 | k + 1 => fun x hx => by
  have ih := addTo_bd s l p own pl hB h k
  have hp := pts_bd s l p own pl k
  unfold addTo at hx
  rcases mem_set hx with rfl | hx
  · have := ih.getD (by omega) (rsAt l (own.getD k 0)).cm.toNat
    omega
  · have := ih x hx; omega
theorem addTo_app (s : Sh) (l : List Rs) (p : Nat) (own pl t z : List Int) (hc : ∀ k, k < own.length → (rsAt l (own.getD k 0)).cm.toNat < t.length) : ∀ k, k ≤ own.length → addTo s l p own pl k (t ++ z) = addTo s l p own pl k t ++ z
 | 0, _ => rfl
 | k + 1, hk => by
  have ih := addTo_app s l p own pl t z hc k (by omega)
  have h := hc k (by omega)
  have hl := addTo_len s l p own pl t k
  unfold addTo
  rw [ih]
  obtain ⟨j, hj⟩ : ∃ j, (rsAt l (own.getD k 0)).cm.toNat = j := ⟨_, rfl⟩
  rw [hj] at h ⊢
  obtain ⟨u, hu⟩ : ∃ u, addTo s l p own pl k t = u := ⟨_, rfl⟩
  rw [hu] at hl ⊢
  rw [List.set_append_left _ _ (by omega), List.getD_eq_getElem?_getD, List.getD_eq_getElem?_getD, List.getElem?_append_left (by omega)]
structure AllT (n : Nat) (B : Int) (all : List (List Int)) : Prop where
 len : ∀ t ∈ all, t.length = n
 bd : ∀ t ∈ all, BdT B t
 ne : all ≠ []
 nd : all.Nodup
theorem stepL_all {s : Sh} {l : List Rs} (h : l.all (okRs s) = true) {p n : Nat} {B : Int} (hB : 0 ≤ B) {all : List (List Int)} (ha : AllT n B all) : AllT n (B + (cntL l p).length * 1048576) (stepL s l p all) where
 len := fun t ht => by
  obtain ⟨pl, _, h2⟩ := List.mem_flatMap.1 (mem_dedup.1 ht)
  obtain ⟨t', h3, rfl⟩ := List.mem_map.1 h2
  unfold addT
  rw [addTo_len, ha.len t' h3]
 bd := fun t ht => by
  obtain ⟨pl, _, h2⟩ := List.mem_flatMap.1 (mem_dedup.1 ht)
  obtain ⟨t', h3, rfl⟩ := List.mem_map.1 h2
  exact addTo_bd s l p _ _ hB (ha.bd t' h3) _
 ne := by
  obtain ⟨pl, hpl⟩ := List.exists_mem_of_ne_nil _ (posL_ne (iv_ok h p))
  obtain ⟨t, ht⟩ := List.exists_mem_of_ne_nil _ ha.ne
  exact List.ne_nil_of_mem (mem_dedup.2 (List.mem_flatMap.2 ⟨pl, hpl, List.mem_map.2 ⟨t, ht, rfl⟩⟩))
 nd := nodup_dedup _
theorem ordTo_all {s : Sh} {l : List Rs} (h : l.all (okRs s) = true) {C : Nat} (hC : s.cs ≤ C) {n : Nat} : ∀ {p : Nat} {all : List (List Int)}, ordTo s l n p = some all → AllT n (p * (C * 1048576)) all ∧ all.length ≤ 4096
 | 0, all, e => by
  simp only [ordTo, Option.some.injEq] at e
  subst e
  refine ⟨⟨by simp, fun t ht x hx => ?_, by simp, by simp⟩, by simp⟩
  simp at ht; subst ht
  have := List.eq_of_mem_replicate hx
  subst this; simp
 | p + 1, all, e => by
  unfold ordTo at e
  split at e
  · cases e
  · rename_i all0 e0
    split at e
    · cases e
    · injection e with e
      subst e
      obtain ⟨ih, _⟩ := ordTo_all h hC e0
      have h1 := stepL_all h (p := p) (B := (p : Int) * (C * 1048576)) (by have := Int.mul_nonneg (Int.natCast_nonneg p) (show (0 : Int) ≤ C * 1048576 by omega); exact this) ih
      refine ⟨⟨h1.len, fun t ht x hx => ?_, h1.ne, h1.nd⟩, by omega⟩
      have := h1.bd t ht x hx
      have hc := cnt_len h hC (p : Int)
      have e2 : (((p + 1 : Nat) : Int)) * (C * 1048576) = (p : Int) * (C * 1048576) + C * 1048576 := by
       rw [show ((p + 1 : Nat) : Int) = (p : Int) + 1 by omega, Int.add_mul, Int.one_mul]
      rw [e2]
      omega
theorem flatMap_map {α β γ : Type} (f : β → γ) (g : α → List β) : ∀ l : List α, (l.flatMap g).map f = l.flatMap fun x => (g x).map f
 | [] => rfl
 | x :: l => by simp [flatMap_map f g l]
theorem flatMap_congr' {α β : Type} {f g : α → List β} : ∀ {l : List α}, (∀ x ∈ l, f x = g x) → l.flatMap f = l.flatMap g
 | [], _ => rfl
 | x :: l, h => by
  rw [List.flatMap_cons, List.flatMap_cons, h x (List.mem_cons_self ..), flatMap_congr' fun y hy => h y (List.mem_cons_of_mem _ hy)]
theorem ordTo_pad {s : Sh} {l : List Rs} (h : l.all (okRs s) = true) {C : Nat} (hC : s.cs ≤ C) (d : Nat) : ∀ p : Nat, ordTo s l (C + d) p = (ordTo s l C p).map fun all => all.map fun t => t ++ List.replicate d 0
 | 0 => by unfold ordTo; simp
 | p + 1 => by
  have ih := ordTo_pad h hC d p
  cases e : ordTo s l C p with
  | none => rw [e] at ih; unfold ordTo; rw [ih, e]; rfl
  | some all =>
   rw [e] at ih
   obtain ⟨hA, _⟩ := ordTo_all h hC e
   have hst : stepL s l p (all.map fun t => t ++ List.replicate d 0) = (stepL s l p all).map fun t => t ++ List.replicate d 0 := by
    unfold stepL
    rw [← dedup_map (fun x _ y _ e => List.append_cancel_right e), flatMap_map]
    congr 1
    apply flatMap_congr'
    intro pl _
    rw [List.map_map, List.map_map]
    apply List.map_congr_left
    intro t ht
    show addTo s l p (cntL l p) pl (cntL l p).length (t ++ List.replicate d 0) = addTo s l p (cntL l p) pl (cntL l p).length t ++ List.replicate d 0
    refine addTo_app s l p _ pl t _ (fun k hk => ?_) _ (Nat.le_refl _)
    obtain ⟨h1, h2, _⟩ := cntL_mem (own_mem hk)
    have := okRs_iv (rs_mem h h1 h2)
    rw [hA.len t ht]
    omega
   have e2 : ordTo s l (C + d) (p + 1) = if 4096 < (stepL s l p (all.map fun t => t ++ List.replicate d 0)).length then none else some (stepL s l p (all.map fun t => t ++ List.replicate d 0)) := by
    conv => lhs; unfold ordTo
    rw [ih]; rfl
   have e3 : ordTo s l C (p + 1) = if 4096 < (stepL s l p all).length then none else some (stepL s l p all) := by
    conv => lhs; unfold ordTo
    rw [e]
   rw [e2, e3, hst, List.length_map]
   by_cases hb : 4096 < (stepL s l p all).length
   · rw [if_pos hb, if_pos hb]; rfl
   · rw [if_neg hb, if_neg hb]; rfl
end Go.Proofs.YtehoidohallfcaaGreatDoor
/- Faults, results by a day, and what changes in the ranking. Plain words. -/
namespace Go.Proofs.YtehoidohallfcaaGreatDoor
structure Ft (G : Type) where
 pz : Int
 kd : Int
 un : Int
 dy : Int
 gr : G
section
variable {G : Type}
def okDay (n : Int) : Bool := decide (0 ≤ n) && decide (n < 1024)
def okFt (s : Sh) (f : Ft G) : Bool := (decide (0 ≤ f.pz) && decide (f.pz < s.ps)) && (decide (1 ≤ f.kd) && decide (f.kd ≤ 3)) && okDay f.dy
def ruE (s : Sh) (l : List Rs) (fs : List (Ft G)) (by' : Int) : Int := if rkE s l ≠ 0 then rkE s l else if 16 < fs.length then 2 else if fs.all (okFt s) then (if okDay by' then 0 else 1) else 540
def begB (fr to' : Int) (f : Ft G) : Bool := decide (f.kd ≠ 3) && decide (fr < f.dy) && decide (f.dy ≤ to')
def fltB (fs : List (Ft G)) (p by' : Int) : Bool := fs.any fun f => decide (f.pz = p) && begB (-1) by' f
def resL (fs : List (Ft G)) (by' : Int) (l : List Rs) : List Rs := l.map fun x => { x with rt := x.rt && !fltB fs x.pz by' }
def ruR (s : Sh) (l : List Rs) (fs : List (Ft G)) (by' : Int) : List Rs := if ruE s l fs by' ≠ 0 then [] else resL fs by' l
def agE (s : Sh) (l : List Rs) (fs : List (Ft G)) (by' : Int) : Int := if ruE s l fs by' ≠ 0 then ruE s l fs by' else rankE s (resL fs by' l)
def agR (s : Sh) (l : List Rs) (fs : List (Ft G)) (by' : Int) : Rk := if ruE s l fs by' ≠ 0 then Rk0 else rankR s (resL fs by' l)
def whyN (fs : List (Ft G)) (fr to' : Int) : Nat := match fs.findIdx? (begB fr to') with
 | some i => i
 | none => 0
structure Cg where
 cm : Int
 b1 : Int
 b2 : Int
 a1 : Int
 a2 : Int
 ft : Int
deriving DecidableEq
def cgAt (a b : Rk) (why : Nat) (i : Nat) : Cg := ⟨i, a.best.getD i 0, a.worst.getD i 0, b.best.getD i 0, b.worst.getD i 0, why⟩
def cgB (a b : Rk) (i : Nat) : Bool := decide (a.best.getD i 0 ≠ b.best.getD i 0) || decide (a.worst.getD i 0 ≠ b.worst.getD i 0)
def cgTo (a b : Rk) (why : Nat) (n : Nat) : List Cg := ((List.range n).filter (cgB a b)).map (cgAt a b why)
def chE (s : Sh) (l : List Rs) (fs : List (Ft G)) (fr to' : Int) : Int := if agE s l fs fr ≠ 0 then agE s l fs fr else if agE s l fs to' ≠ 0 then agE s l fs to' else if to' < fr then 1 else 0
def chR (s : Sh) (l : List Rs) (fs : List (Ft G)) (fr to' : Int) : List Cg := if chE s l fs fr to' ≠ 0 then [] else cgTo (agR s l fs fr) (agR s l fs to') (whyN fs fr to') s.cs.toNat
theorem resL_len (fs : List (Ft G)) (d : Int) (l : List Rs) : (resL fs d l).length = l.length := by simp [resL]
theorem flt_iff (fs : List (Ft G)) (p d : Int) : fltB fs p d = true ↔ ∃ f, f ∈ fs ∧ f.pz = p ∧ begB (-1) d f = true := by
 unfold fltB
 rw [List.any_eq_true]
 constructor
 · rintro ⟨f, hf, h⟩
   simp only [Bool.and_eq_true, decide_eq_true_eq] at h
   exact ⟨f, hf, h⟩
 · rintro ⟨f, hf, h1, h2⟩
   exact ⟨f, hf, by simp [h1, h2]⟩
end
end Go.Proofs.YtehoidohallfcaaGreatDoor
/- With exact times there is one vector of points; ranks. Plain words. -/
namespace Go.Proofs.YtehoidohallfcaaGreatDoor
theorem rank_len (x : List Int) : (rankL x).length = x.length := by simp [rankL]
theorem fold_len {f : Int → Int → Int} {n : Nat} : ∀ {x : List (List Int)} {b : List Int}, b.length = n → (∀ t ∈ x, t.length = n) → (x.foldl (fun b t => List.zipWith f b (rankL t)) b).length = n
 | [], b, hb, _ => hb
 | t :: x, b, hb, h => by
  rw [List.foldl_cons]
  exact fold_len (by rw [List.length_zipWith, rank_len, h t (List.mem_cons_self ..), hb]; omega) fun y hy => h y (List.mem_cons_of_mem _ hy)
theorem head_len {x : List (List Int)} {n : Nat} (h0 : x ≠ []) (h : ∀ t ∈ x, t.length = n) : (x.headD []).length = n := by
 cases x with
 | nil => exact absurd rfl h0
 | cons t x => exact h t (List.mem_cons_self ..)
theorem best_len {x : List (List Int)} {n : Nat} (h0 : x ≠ []) (h : ∀ t ∈ x, t.length = n) : (bestL x).length = n ∧ (worstL x).length = n :=
 ⟨fold_len (by rw [rank_len, head_len h0 h]) h, fold_len (by rw [rank_len, head_len h0 h]) h⟩
theorem ordO_all {s : Sh} {l : List Rs} (h : l.all (okRs s) = true) (hc : 0 ≤ s.cs) {x : List (List Int)} (e : ordO s l = some x) : (∀ t ∈ x, t.length = s.cs.toNat) ∧ x ≠ [] ∧ x.length ≤ 4096 ∧ Inc x ∧ ∀ t ∈ x, BdT ((s.ps.toNat : Int) * ((s.cs.toNat : Int) * 1048576)) t := by
 unfold ordO at e
 cases e2 : ordTo s l s.cs.toNat s.ps.toNat with
 | none => rw [e2] at e; cases e
 | some all =>
  rw [e2] at e
  simp only [Option.map_some, Option.some.injEq] at e
  subst e
  obtain ⟨h1, h2⟩ := ordTo_all h (C := s.cs.toNat) (by omega) e2
  refine ⟨fun t ht => h1.len t ((mem_sortP _).1 ht), fun hn => ?_, by rw [sortP_len]; exact h2, sortP_inc h1.nd, fun t ht => h1.bd t ((mem_sortP _).1 ht)⟩
  have := sortP_len all
  rw [hn] at this
  exact h1.ne (List.eq_nil_of_length_eq_zero this.symm)
theorem rankR_len {s : Sh} {l : List Rs} (h : rankE s l = 0) : (rankR s l).best.length = s.cs.toNat ∧ (rankR s l).worst.length = s.cs.toNat := by
 unfold rankE at h
 unfold rankR
 by_cases h1 : rkE s l ≠ 0
 · rw [if_pos h1] at h; exact absurd h h1
 · rw [if_neg h1] at h ⊢
   cases e : ordO s l with
   | none => rw [e] at h; cases h
   | some x =>
    have h2 : rkE s l = 0 := Classical.byContradiction fun h3 => h1 h3
    unfold rkE at h2
    split at h2
    · cases h2
    · split at h2
      · rename_i h3; exact absurd h2 h3
      · split at h2
        · rename_i h3
          rw [Bool.and_eq_true] at h3
          have hc : 0 ≤ s.cs := by
           have := h3.1; unfold okSh at this
           simp only [Bool.and_eq_true, decide_eq_true_eq] at this
           omega
          obtain ⟨h4, h5, _⟩ := ordO_all h3.2 hc e
          exact best_len h5 h4
        · cases h2
def segP (iv : Iv) (f : Nat) (pl : List Int) (done : Nat) (fr : Int) (g : Nat) : List (List Int) := if g = 0 then [] else match grpP iv pl g fr iv.length with
 | none => []
 | some (lo, hi, many) => if hi < lo then [] else if lateP iv pl g lo iv.length then [] else nextP iv f (setP pl g ((done : Int) + 1) iv.length) (done + many) (lo + 1)
def segTo (iv : Iv) (f : Nat) (pl : List Int) (done : Nat) (fr : Int) (g : Nat) : List (List Int) := (List.range g).flatMap (segP iv f pl done fr)
section
variable {iv : Iv} {f done g : Nat} {pl : List Int} {fr : Int}
theorem nextP_done (h : done = iv.length) : nextP iv (f + 1) pl done fr = [pl] := by unfold nextP; rw [if_pos h]
theorem nextP_seg (h : done ≠ iv.length) : nextP iv (f + 1) pl done fr = segTo iv f pl done fr (2 ^ iv.length) := by
 unfold nextP; rw [if_neg h]; rfl
theorem segTo_one : segTo iv f pl done fr 1 = [] := by simp [segTo, segP]
theorem segTo_succ (g : Nat) : segTo iv f pl done fr (g + 1) = segTo iv f pl done fr g ++ segP iv f pl done fr g := by
 unfold segTo; rw [List.range_succ, List.flatMap_append]; simp
theorem segTo_le {n : Nat} (h : g ≤ n) : (segTo iv f pl done fr g).length ≤ (segTo iv f pl done fr n).length := by
 induction n with
 | zero => obtain rfl : g = 0 := by omega
           exact Nat.le_refl _
 | succ n ih =>
  by_cases e : g = n + 1
  · subst e; exact Nat.le_refl _
  · rw [segTo_succ, List.length_append]; have := ih (by omega); omega
theorem grp_none {i n : Nat} (h : grpP iv pl g fr i = none) (hn : i ≤ n) : grpP iv pl g fr n = none := by
 induction n with
 | zero => obtain rfl : i = 0 := by omega
           exact h
 | succ n ih =>
  by_cases e : i = n + 1
  · subst e; exact h
  · unfold grpP; rw [ih (by omega)]
variable {lo hi : Int} {many i : Nat}
theorem grp_skip (h : grpP iv pl g fr i = some (lo, hi, many)) (hb : g.testBit i = false) : grpP iv pl g fr (i + 1) = some (lo, hi, many) := by unfold grpP; rw [h]; simp [hb]
theorem grp_stop (h : grpP iv pl g fr i = some (lo, hi, many)) (hb : g.testBit i = true) (hp : pl.getD i 0 ≠ 0) : grpP iv pl g fr (i + 1) = none := by unfold grpP; rw [h]; simp only [hb, if_true]; rw [if_pos hp]
theorem grp_take (h : grpP iv pl g fr i = some (lo, hi, many)) (hb : g.testBit i = true) (hp : pl.getD i 0 = 0) : grpP iv pl g fr (i + 1) = some (max lo (ivLo iv i), min hi (ivHi iv i), many + 1) := by unfold grpP; rw [h]; simp only [hb, if_true]; rw [if_neg (fun h => h hp)]
theorem seg_none (h : grpP iv pl g fr iv.length = none) : segP iv f pl done fr g = [] := by unfold segP; rw [h]; simp
theorem seg_empty (h : grpP iv pl g fr iv.length = some (lo, hi, many)) (hl : hi < lo) : segP iv f pl done fr g = [] := by unfold segP; rw [h]; simp [hl]
theorem seg_late (h : grpP iv pl g fr iv.length = some (lo, hi, many)) (hl : ¬ hi < lo) (ht : lateP iv pl g lo iv.length = true) : segP iv f pl done fr g = [] := by unfold segP; rw [h]; simp only [ht, if_true, if_neg hl]; simp
theorem seg_next (hg : g ≠ 0) (h : grpP iv pl g fr iv.length = some (lo, hi, many)) (hl : ¬ hi < lo) (ht : lateP iv pl g lo iv.length = false) : segP iv f pl done fr g = nextP iv f (setP pl g ((done : Int) + 1) iv.length) (done + many) (lo + 1) := by unfold segP; rw [h]; simp only [ht, if_neg hl, if_neg hg]; rfl
theorem late_succ (k : Nat) : lateP iv pl g lo (k + 1) = (lateP iv pl g lo k || (!g.testBit k && (decide (pl.getD k 0 = 0) && decide (ivHi iv k ≤ lo)))) := by
 unfold lateP; rw [List.range_succ, List.any_append]; simp
variable {v : Int} {k : Nat}
theorem setP_skip (hb : g.testBit k = false) : setP pl g v (k + 1) = setP pl g v k := by
 apply List.ext_getElem?
 intro i
 by_cases h : i < pl.length
 · rw [setP_get h, setP_get h]
   by_cases e : i = k
   · subst e; rw [hb]; simp
   · rw [show decide (i < k + 1) = decide (i < k) by rw [decide_eq_decide]; omega]
 · rw [List.getElem?_eq_none (by rw [setP_len]; omega), List.getElem?_eq_none (by rw [setP_len]; omega)]
theorem setP_put (hb : g.testBit k = true) : (setP pl g v k).set k v = setP pl g v (k + 1) := by
 apply List.ext_getElem?
 intro i
 by_cases h : i < pl.length
 · rw [setP_get h]
   by_cases e : i = k
   · subst e
     rw [List.getElem?_set_self (by rw [setP_len]; exact h), hb]; simp
   · rw [List.getElem?_set_ne (Ne.symm e), setP_get h, show decide (i < k + 1) = decide (i < k) by rw [decide_eq_decide]; omega]
 · rw [List.getElem?_eq_none (by rw [List.length_set, setP_len]; omega), List.getElem?_eq_none (by rw [setP_len]; omega)]
theorem unset {n : Nat} (hl : pl.length = n) (hf : ∀ i, i < n → g.testBit i = true → pl.getD i 0 = 0) : setP (setP pl g v n) g 0 n = pl := by
 apply List.ext_getElem?
 intro i
 by_cases h : i < pl.length
 · rw [setP_get (by rw [setP_len]; exact h), setP_getD h]
   rw [show decide (i < n) = true by simp; omega]
   have e : pl[i]? = some (pl.getD i 0) := by rw [List.getD_eq_getElem?_getD, List.getElem?_eq_getElem h]; rfl
   rw [e]
   cases hb : g.testBit i
   · simp
   · rw [hf i (by omega) hb]; simp
 · rw [List.getElem?_eq_none (by rw [setP_len, setP_len]; omega), List.getElem?_eq_none (by omega)]
theorem placed {m : Nat} (hl : pl.length = m) (hd : done = ((List.range m).filter (isP pl)).length) (hG : Grp iv pl g fr m lo hi many) : done + many = ((List.range m).filter (isP (setP pl g ((done : Int) + 1) m))).length := by
 rw [hd, hG.many, Nat.add_comm, ← filter_or]
 · congr 1
   apply List.filter_congr
   intro x hx
   rw [isP_set hl (List.mem_range.1 hx)]
 · intro x hx h1 h2
   have := hG.free x (List.mem_range.1 hx) h1
   unfold isP at h2
   simp only [decide_eq_true_eq] at h2
   exact h2 this
theorem placed_le (pl : List Int) (m : Nat) : ((List.range m).filter (isP pl)).length ≤ m := by
 have := List.length_filter_le (isP pl) (List.range m)
 rwa [List.length_range] at this
theorem many_pos {m : Nat} (h0 : g ≠ 0) (hg : g < 2 ^ m) (hG : Grp iv pl g fr m lo hi many) : 0 < many := by
 obtain ⟨i, hi, hb⟩ := some_bit h0 hg
 rw [hG.many]
 exact List.length_pos_of_mem (List.mem_filter.2 ⟨List.mem_range.2 hi, hb⟩)
end
def mixI (f : Int → Int → Int) (b r : List Int) (c : Nat) : List Int := List.zipWith f (b.take c) (r.take c) ++ b.drop c
section
variable {f : Int → Int → Int} {b r : List Int} {c : Nat}
theorem mixI_zero : mixI f b r 0 = b := by simp [mixI]
theorem mixI_all (h : b.length = r.length) : mixI f b r b.length = List.zipWith f b r := by
 unfold mixI
 rw [List.take_of_length_le (Nat.le_refl _), List.take_of_length_le (by omega), List.drop_of_length_le (Nat.le_refl _), List.append_nil]
theorem mixI_get (hb : c ≤ b.length) (hr : c ≤ r.length) {x : Int} (hx : b[c]? = some x) : (mixI f b r c)[c]? = some x := by
 unfold mixI
 rw [List.getElem?_append_right (by simp; omega)]
 simp only [List.length_zipWith, List.length_take, List.getElem?_drop]
 rw [show c + (c - min (min c b.length) (min c r.length)) = c by omega]; exact hx
theorem mixI_step {x y : Int} (hx : b[c]? = some x) (hy : r[c]? = some y) : mixI f b r (c + 1) = (mixI f b r c).set c (f x y) := by
 obtain ⟨hb, eb⟩ := List.getElem?_eq_some_iff.1 hx
 obtain ⟨hr, er⟩ := List.getElem?_eq_some_iff.1 hy
 unfold mixI
 rw [List.take_succ_eq_append_getElem hb, List.take_succ_eq_append_getElem hr, List.zipWith_append (by simp; omega), List.set_append_right _ _ (by simp; omega)]
 simp only [List.length_zipWith, List.length_take, List.zipWith_cons_cons, List.zipWith_nil_left, List.append_assoc, List.cons_append, List.nil_append]
 rw [show c - min (min c b.length) (min c r.length) = 0 by omega, List.drop_eq_getElem_cons hb, List.set_cons_zero, eb, er]
end
def mixTo (f : Int → Int → Int) (x : List (List Int)) (k : Nat) : List Int := (x.take k).foldl (fun b t => List.zipWith f b (rankL t)) (rankL (x.headD []))
theorem mixTo_zero (f : Int → Int → Int) (x : List (List Int)) : mixTo f x 0 = rankL (x.headD []) := rfl
theorem mixTo_step {f : Int → Int → Int} {x : List (List Int)} {k : Nat} {t : List Int} (h : x[k]? = some t) : mixTo f x (k + 1) = List.zipWith f (mixTo f x k) (rankL t) := by
 obtain ⟨hk, e⟩ := List.getElem?_eq_some_iff.1 h
 unfold mixTo
 rw [List.take_succ_eq_append_getElem hk, List.foldl_append, e]; rfl
theorem mixTo_len {f : Int → Int → Int} {x : List (List Int)} {n : Nat} (h0 : x ≠ []) (h : ∀ t ∈ x, t.length = n) (k : Nat) : (mixTo f x k).length = n :=
 fold_len (by rw [rank_len, head_len h0 h]) fun t ht => h t (List.mem_of_mem_take ht)
theorem mixTo_best (x : List (List Int)) : mixTo min x x.length = bestL x := by unfold mixTo bestL; rw [List.take_length]
theorem mixTo_worst (x : List (List Int)) : mixTo max x x.length = worstL x := by unfold mixTo worstL; rw [List.take_length]
def rowTo (x : List (List Int)) (a b : Nat) : List (Int × Int) := ((List.range' (a + 1) (b - (a + 1))).filter (undB x a)).map fun (b : Nat) => ((a : Int), (b : Int))
def undTo (x : List (List Int)) (n a : Nat) : List (Int × Int) := (List.range a).flatMap fun a => undRow x a n
theorem undTo_zero (x : List (List Int)) (n : Nat) : undTo x n 0 = [] := rfl
theorem rowTo_zero (x : List (List Int)) (a : Nat) : rowTo x a (a + 1) = [] := by simp [rowTo]
theorem rowTo_step {x : List (List Int)} {a b : Nat} (h : a < b) : rowTo x a (b + 1) = rowTo x a b ++ if undB x a b then [((a : Int), (b : Int))] else [] := by
 unfold rowTo
 rw [show b + 1 - (a + 1) = (b - (a + 1)) + 1 by omega, List.range'_concat, List.filter_append, List.map_append]
 rw [show a + 1 + 1 * (b - (a + 1)) = b by omega]
 by_cases e : undB x a b <;> simp [e]
theorem undTo_step (x : List (List Int)) (n a : Nat) : undTo x n (a + 1) = undTo x n a ++ rowTo x a n := by
 unfold undTo rowTo undRow
 rw [List.range_succ, List.flatMap_append]; simp
theorem undTo_all (x : List (List Int)) (n : Nat) : undTo x n n = undL x n := rfl
theorem undTo_len (x : List (List Int)) (n : Nat) (a b : Nat) (h : b ≤ n) : (undTo x n a).length ≤ a * n ∧ (rowTo x a b).length ≤ n := by
 constructor
 · induction a with
   | zero => simp [undTo_zero]
   | succ a ih =>
    rw [undTo_step, List.length_append, Nat.add_mul, Nat.one_mul]
    have : (rowTo x a n).length ≤ n := by
     unfold rowTo
     rw [List.length_map]
     refine Nat.le_trans (List.length_filter_le _ _) ?_
     rw [List.length_range']; omega
    omega
 · unfold rowTo
   rw [List.length_map]
   refine Nat.le_trans (List.length_filter_le _ _) ?_
   rw [List.length_range']; omega
end Go.Proofs.YtehoidohallfcaaGreatDoor
