/- Order and repetition of generators, conjugation, closures of closures (law11.PermsAgain), at every input. -/
import Derived.Test.YtkekkbbdhdamjaaLawP
import Derived.Test.YtkekkbbdhdamjaaPClosed
import Derived.Test.YtkekkbbdhdamjaaAgM
import Derived.Test.YtkekkbbdhdamjaaPIsB
import Derived.Test.YtkekkbbdhdamjaaROrM
import Derived.Deep.RegionLaw
import Derived.SizedLaws
import Derived.WalkKit
import Derived.WalkSpells
import Derived.WalkLawsBesides
import Derived.Deep.LoopGhost
import Derived.Deep.QuietTactic
import Derived.BigQuiet
import Derived.StillTailTactics
import Derived.Lib.Hide
import Derived.Outline
import Derived.Lib.QuietBelow
namespace Go.Proofs.Ytkekkbbdhdamjaa
open Go.ChangeShapes Go.WideShapes Go.ChangeAt Go.RowKit Go.Deep

theorem two_new (w : World) (x : Value) (e : TypeId) : ∀ (j : Nat) (u : Value), ([x, x] : List Value)[j]? = some u → (w.alloc (.cells #[x, x] e)).cell? ((⟨w.heap.size, 0, none⟩ : Addr).add j) = some u := fun j u h => by
  have h2 := cell_of_row (w.alloc (.cells #[x, x] e)) w.heap.size j #[x, x] e (0, 0) (heap_alloc_new w _)
  have : (⟨w.heap.size, 0, none⟩ : Addr).add j = ⟨w.heap.size, j, none⟩ := by rw [add_plain, Nat.zero_add]
  rw [this, h2]
  rw [← h]; simp
theorem two_newd (w : World) (x : Value) (e : TypeId) : ∀ (j : Nat) (u : Value), ([x, x] : List Value)[j]? = some u → (w.alloc (.cells #[x, x] e)).drew.cell? ((⟨w.heap.size, 0, none⟩ : Addr).add j) = some u := fun j u h => two_new w x e j u h

/-- The two rows that grow: one of the generators' own rows, one of new rows. -/
structure Two (w : World) (base : Nat) (vb vt : Value) (b n : List (List Int)) (ia : Option Addr) (N ic : Nat) (p : List Int) : Prop where
  bk : ORows w base (· < base) 22 vb b
  bt : ORows w base (fun q => base ≤ q ∧ q < w.heap.size ∧ vt.ownBlock ≠ some q ∧ vb.ownBlock ≠ some q) 22 vt n
  ne : ∀ q, vb.ownBlock = some q → vt.ownBlock ≠ some q
  inv : Ints w ia N ic p
  ib : ∀ q, 0 < N → (Value.slice ia N ic).ownBlock = some q → q < w.heap.size ∧ vt.ownBlock ≠ some q ∧ vb.ownBlock ≠ some q
section
variable {w w' : World} {base : Nat} {vb vt : Value} {b n : List (List Int)} {ia : Option Addr} {N ic : Nat} {p : List Int}
theorem Two.below (h : Two w base vb vt b n ia N ic p) (hb : Below w.heap.size w w') : Two w' base vb vt b n ia N ic p :=
  ⟨h.bk.below hb, (h.bt.below hb).imp fun _q hq => ⟨hq.1, Nat.lt_of_lt_of_le hq.2.1 hb.size, hq.2.2⟩, h.ne, h.inv.below hb, fun q h0 e => let ⟨x, y⟩ := h.ib q h0 e; ⟨Nat.lt_of_lt_of_le x hb.size, y⟩⟩
theorem Two.back {vb' : Value} {us : List Value} {ag : Option Addr} {ng cg : Nat} {g : List Int} (h : Two w base vb vt b n ia N ic p) (hold : Olds w (· < base) us b) (hp : Ints w ag ng cg g) (hpq : ∀ q, 0 < ng → (Value.slice ag ng cg).ownBlock = some q → q < base)
    (hown : w'.ownsRow base 22 1 vb' (b.length + 2) (us ++ [.slice ag ng cg, .slice ag ng cg])) (hg : w.grownBy w' vb.ownBlock) (hfr : vb'.ownBlock = vb.ownBlock ∨ vb'.ownBlock = some w.heap.size) : Two w' base vb' vt (b ++ [g, g]) n ia N ic p := by
  have hlt := h.bk.lt
  have hr : ∀ q, vb.ownBlock = some q → ¬ q < base := fun q e hq => by have := (hlt q e).1; omega
  refine ⟨⟨us ++ [.slice ag ng cg, .slice ag ng cg], by rw [List.length_append]; exact hown, ?_⟩, ?_, ?_, h.inv.grown hg fun h0 e => ?_, fun q h0 e => ?_⟩
  · have h2 := (Olds.one hp hpq).append (Olds.one hp hpq)
    exact (hold.append h2).grown hg hr
  · obtain ⟨ut, t1, t2⟩ := h.bt
    refine ⟨ut, World.ownsRow.kept t1 hg ?_, (t2.grown hg fun q e hq => hq.2.2.2 e).imp fun q hq => ⟨hq.1, Nat.lt_of_lt_of_le hq.2.1 hg.size, hq.2.2.1, ?_⟩⟩
    · cases e : vt.ownBlock with
      | none => exact .inl rfl
      | some q => exact .inr fun e2 => h.ne q e2.symm e
    · rcases hfr with e | e
      · rw [e]; exact hq.2.2.2
      · rw [e]; intro e2; injection e2 with e2; have := hq.2.1; omega
  · intro q e
    rcases hfr with e2 | e2
    · rw [e2] at e; exact h.ne q e
    · rw [e2] at e; injection e with e
      intro e3
      have := (h.bt.lt q e3).2
      omega
  · obtain ⟨qb, qo, rfl, _⟩ := h.inv.at' h0
    exact (h.ib qb h0 rfl).2.2 e.symm
  · obtain ⟨x, y, z⟩ := h.ib q h0 e
    refine ⟨Nat.lt_of_lt_of_le x hg.size, y, ?_⟩
    rcases hfr with e2 | e2
    · rw [e2]; exact z
    · rw [e2]; intro e3; injection e3 with e3; omega
theorem Two.bent {vt' : Value} {us : List Value} {ag : Option Addr} {ng cg : Nat} {g : List Int} (h : Two w base vb vt b n ia N ic p) (hold : Olds w (fun q => base ≤ q ∧ q < w.heap.size ∧ vt.ownBlock ≠ some q ∧ vb.ownBlock ≠ some q) us n) (hp : Ints w ag ng cg g) (hpq : ∀ q, 0 < ng → (Value.slice ag ng cg).ownBlock = some q → base ≤ q ∧ q < w.heap.size ∧ vt.ownBlock ≠ some q ∧ vb.ownBlock ≠ some q)
    (hown : w'.ownsRow base 22 1 vt' (n.length + 1) (us ++ [.slice ag ng cg])) (hg : w.grownBy w' vt.ownBlock) (hfr : vt'.ownBlock = vt.ownBlock ∨ vt'.ownBlock = some w.heap.size) : Two w' base vb vt' b (n ++ [g]) ia N ic p := by
  have hlt := h.bt.lt
  have hr : ∀ q, vt.ownBlock = some q → ¬ (base ≤ q ∧ q < w.heap.size ∧ vt.ownBlock ≠ some q ∧ vb.ownBlock ≠ some q) := fun q e hq => hq.2.2.1 e
  refine ⟨?_, ⟨us ++ [.slice ag ng cg], by rw [List.length_append]; exact hown, ?_⟩, ?_, h.inv.grown hg fun h0 e => ?_, fun q h0 e => ?_⟩
  · obtain ⟨ub, t1, t2⟩ := h.bk
    refine ⟨ub, World.ownsRow.kept t1 hg ?_, t2.grown hg fun q e hq => by have := (hlt q e).1; omega⟩
    cases e : vb.ownBlock with
    | none => exact .inl rfl
    | some q => exact .inr fun e2 => h.ne q e e2.symm
  · refine ((hold.append (Olds.one hp hpq)).grown hg hr).imp fun q hq => ⟨hq.1, Nat.lt_of_lt_of_le hq.2.1 hg.size, ?_, hq.2.2.2⟩
    rcases hfr with e | e
    · rw [e]; exact hq.2.2.1
    · rw [e]; intro e2; injection e2 with e2; have := hq.2.1; omega
  · intro q e
    rcases hfr with e2 | e2
    · rw [e2]; exact h.ne q e
    · rw [e2]; intro e3; injection e3 with e3
      have := (h.bk.lt q e).2
      omega
  · obtain ⟨qb, qo, rfl, _⟩ := h.inv.at' h0
    exact (h.ib qb h0 rfl).2.1 e.symm
  · obtain ⟨x, y, z⟩ := h.ib q h0 e
    refine ⟨Nat.lt_of_lt_of_le x hg.size, ?_, z⟩
    rcases hfr with e2 | e2
    · rw [e2]; exact y
    · rw [e2]; intro e3; injection e3 with e3; omega
end
/-- Each generator twice. -/
def dupL (l : List (List Int)) : List (List Int) := l.flatMap fun g => [g, g]
theorem dup_snoc (l : List (List Int)) (g : List Int) : dupL (l ++ [g]) = dupL l ++ [g, g] := by unfold dupL; simp
theorem dup_len (l : List (List Int)) : (dupL l).length = 2 * l.length := by
  induction l with
  | nil => rfl
  | cons g l ih => unfold dupL at ih ⊢; rw [List.flatMap_cons, List.length_append, ih, List.length_cons]; simp; omega
theorem mem_dup {l : List (List Int)} {g : List Int} : g ∈ dupL l ↔ g ∈ l := by
  unfold dupL; rw [List.mem_flatMap]
  constructor
  · rintro ⟨x, hx, hm⟩; simp at hm; rw [hm]; exact hx
  · intro h; exact ⟨g, h, by simp⟩
theorem drop_rev {gens : List (List Int)} {t : Nat} {g : List Int} (h : gens[t]? = some g) : (gens.drop t).reverse = (gens.drop (t + 1)).reverse ++ [g] := by
  obtain ⟨hl, e⟩ := List.getElem?_eq_some_iff.1 h
  rw [List.drop_eq_getElem_cons hl, List.reverse_cons, e]
/-- Is the number of one of the first kinds? -/
theorem valid_or {N : Nat} {gens : List (List Int)} (hN : N ≤ 256) (hl : gens.length ≤ 6) : validE (N : Int) gens = 0 ∧ (∀ g ∈ gens, okPerm g N) ∨ validE (N : Int) gens = 110 ∧ ∃ g, g ∈ gens ∧ ¬ okPerm g N := by
  by_cases h : ∀ g ∈ gens, okPerm g N
  · exact .inl ⟨val_zero hN (by omega) h, h⟩
  · refine .inr ⟨?_, ?_⟩
    · unfold validE
      rw [if_neg (by omega), if_neg (by omega), Int.toNat_natCast, if_neg]
      intro h2
      exact h fun g hg => permB_iff.1 (List.all_eq_true.1 h2 g hg)
    · obtain ⟨g, hg⟩ := Classical.not_forall.1 h
      by_cases hm : g ∈ gens
      · exact ⟨g, hm, fun h3 => hg fun _ => h3⟩
      · exact absurd (fun hm2 => absurd hm2 hm) hg
theorem clo_valid {N : Nat} {gens : List (List Int)} (h : validE (N : Int) gens = 110) : closE (N : Int) gens = 110 ∧ closR (N : Int) gens = [] := by
  unfold closE closR
  rw [if_pos (by rw [h]; decide), if_pos (by rw [h]; decide)]; exact ⟨h, rfl⟩
theorem few_cases {N : Nat} {gens : List (List Int)} (h : fewB (N : Int) gens = true) : (N ≤ 16 ∨ 256 < N) ∧ gens.length ≤ 6 := by
  unfold fewB at h
  simp only [Bool.and_eq_true, Bool.or_eq_true, decide_eq_true_eq] at h
  exact ⟨by omega, h.2.2⟩

theorem clo_facts {N : Nat} {gens : List (List Int)} (hg : ∀ g ∈ gens, okPerm g N) : (closR (N : Int) gens).length ≤ 4096 ∧ (∀ p ∈ closR (N : Int) gens, okPerm p N) ∧ (closE (N : Int) gens = 0 → CloL N gens (closR (N : Int) gens) ∧ Inc (closR (N : Int) gens) ∧ validE (N : Int) gens = 0 ∧ orbR (N : Int) gens = orbsTo N gens N) := by
  by_cases hv : validE (N : Int) gens = 0
  · cases e : bfsL N gens with
    | none =>
      have a := clo_none hv e
      rw [a.1, a.2]
      exact ⟨by simp, fun p hp => by simp at hp, fun h => by cases h⟩
    | some M =>
      have hM := CloL.of hg e
      have a := clo_some hv e
      rw [a.1, a.2]
      exact ⟨by rw [sortP_len]; exact hM.le, fun p hp => hM.ok hg p ((mem_sortP _).1 hp), fun _ => ⟨hM.sort, sortP_inc hM.nd, hv, by unfold orbR; rw [if_neg (by simp [hv]), Int.toNat_natCast]⟩⟩
  · unfold closE closR
    rw [if_pos hv, if_pos hv]
    exact ⟨by simp, fun p hp => by simp at hp, fun h => absurd h hv⟩
theorem sameAll_yes (a0 a1 : Option Addr) (n0 c0 n1 c1 : Nat) (l : List (List Int)) (w : World) (h0 : Rows w a0 n0 c0 l) (h1 : Rows w a1 n1 c1 l) :
    Calls Try.prog 23 #[.slice a0 n0 c0, .slice a1 n1 c1] w fun e w' => e = .returned (.bool true) ∧ Below w.heap.size w w' := by
  refine (sameAll_any a0 a1 n0 c0 n1 c1 l l w h0 h1).mono ?_
  rintro e w' ⟨rfl, q, rfl⟩
  exact ⟨by simp, Below.drewN0 _ _⟩
/-- All that the walk behind the first loop wants. -/
theorem again_facts {N : Nat} {gens : List (List Int)} {q : List Int} (hN : N ≤ 256) (hl : gens.length ≤ 6) (hg : ∀ g ∈ gens, okPerm g N) (hq : okPerm q N) :
    (closE (N : Int) (dupL gens.reverse) = closE (N : Int) gens ∧ closR (N : Int) (dupL gens.reverse) = closR (N : Int) gens) ∧
    closE (N : Int) (gens.reverse.map (cjP N q)) = closE (N : Int) gens ∧ (closR (N : Int) (gens.reverse.map (cjP N q))).length = (closR (N : Int) gens).length ∧ Inc (closR (N : Int) (gens.reverse.map (cjP N q))) ∧ ∀ p ∈ closR (N : Int) gens, cjP N q p ∈ closR (N : Int) (gens.reverse.map (cjP N q)) := by
  have hm : ∀ g, g ∈ dupL gens.reverse ↔ g ∈ gens := fun g => by rw [mem_dup, List.mem_reverse]
  have hd : ∀ g ∈ dupL gens.reverse, okPerm g N := fun g h => hg g ((hm g).1 h)
  have a := clo_same (gens := dupL gens.reverse) (hens := gens) hN (by rw [dup_len, List.length_reverse]; omega) (by omega) hd hg fun p =>
    ⟨fun h => h.sub hg fun g hgm => .gen hg ((hm g).1 hgm), fun h => h.sub hd fun g hgm => .gen hd ((hm g).2 hgm)⟩
  have b := clo_cj (gens := gens) (hens := gens.reverse.map (cjP N q)) hN (by omega) (by rw [List.length_map, List.length_reverse]; omega) hg hq (fun g h => List.mem_map.2 ⟨g, List.mem_reverse.2 h, rfl⟩) fun h hh => by
    obtain ⟨g, hgm, rfl⟩ := List.mem_map.1 hh
    exact ⟨g, List.mem_reverse.1 hgm, rfl⟩
  exact ⟨a, b.1.symm, b.2.1.symm, b.2.2.1, b.2.2.2⟩
set_option maxRecDepth 20000 in
set_option maxHeartbeats 4000000 in
theorem lawAgain_any (n : Int) (a1 : Option Addr) (m1 c1 : Nat) (gens : List (List Int)) (a2 : Option Addr) (m2 c2 : Nat) (q : List Int) (W : World) (h1 : Rows W a1 m1 c1 gens) (h2 : Ints W a2 m2 c2 q) (hsz : Hid (m2 ≤ 140737488355328)) :
    Calls Try.prog 8 #[.int .i64 n, .slice a1 m1 c1, .slice a2 m2 c2] W fun e w' => e = .returned (.bool true) ∧ Below W.heap.size W w' := by
  by_cases hn : n < 0
  · go_enter Try.func8, Try.ntmps8
    go_wp2_with fail
    refine (sane11_any _).mono ?_
    rintro e w1 ⟨rfl, hB1⟩
    go_wp2_with fail
    go_ret
    exact ⟨rfl, hB1⟩
  cases hf : fewB n gens
  · have HF := Lib.hid hf
    clear hf
    go_enter Try.func8, Try.ntmps8
    go_wp2_with fail
    refine (sane11_any _).mono ?_
    rintro e w1 ⟨rfl, hB1⟩
    go_wp2_with fail
    have hc := few_any n a1 m1 c1 gens w1 (h1.below hB1)
    rw [HF.out] at hc
    refine hc.mono ?_
    rintro e w2 ⟨rfl, rfl⟩
    clear hc
    go_wp2_with fail
    go_ret
    exact ⟨rfl, hB1⟩
  obtain ⟨N, rfl⟩ : ∃ N : Nat, n = (N : Int) := ⟨n.toNat, by omega⟩
  have HF := Lib.hid hf
  obtain ⟨hN, hm1⟩ := few_cases hf
  clear hf hn
  by_cases hb : 256 < N
  · have s1 : (16 : Int) < (N : Int) := by omega
    have s2 : decide ((16 : Int) < (N : Int)) = true := decide_eq_true s1
    cases hp : permB q N
    · have HP := Lib.hid hp
      clear hp
      go_enter Try.func8, Try.ntmps8
      go_wp2_with fail
      refine (sane11_any _).mono ?_
      rintro e w1 ⟨rfl, hB1⟩
      go_wp2_with fail
      have hc := few_any N a1 m1 c1 gens w1 (h1.below hB1)
      rw [HF.out] at hc
      refine hc.mono ?_
      rintro e w2 ⟨rfl, rfl⟩
      clear hc
      go_wp2_with fail
      refine (is_big a2 m2 c2 q N w2 (h2.below hB1) hsz).mono ?_
      rintro e w3 ⟨rfl, hA⟩
      rw [HP.out]
      replace hB1 := hB1.on hA
      clear hA
      go_wp2_with fail
      go_ret
      exact ⟨rfl, hB1⟩
    · have HP := Lib.hid hp
      clear hp
      go_enter Try.func8, Try.ntmps8
      go_wp2_with fail
      refine (sane11_any _).mono ?_
      rintro e w1 ⟨rfl, hB1⟩
      go_wp2_with fail
      have hc := few_any N a1 m1 c1 gens w1 (h1.below hB1)
      rw [HF.out] at hc
      refine hc.mono ?_
      rintro e w2 ⟨rfl, rfl⟩
      clear hc
      go_wp2_with fail
      refine (is_big a2 m2 c2 q N w2 (h2.below hB1) hsz).mono ?_
      rintro e w3 ⟨rfl, hA⟩
      rw [HP.out]
      replace hB1 := hB1.on hA
      clear hA
      go_wp2_with fail
      go_ret
      exact ⟨rfl, hB1⟩
  have hN : N ≤ 16 := by omega
  clear hb
  have hNN : ¬ (16 : Int) < (N : Int) := by omega
  have hN1 : decide ((16 : Int) < (N : Int)) = false := decide_eq_false hNN
  cases hp : permB q N
  · have HP := Lib.hid hp
    clear hp
    go_enter Try.func8, Try.ntmps8
    go_wp2_with fail
    refine (sane11_any _).mono ?_
    rintro e w1 ⟨rfl, hB1⟩
    go_wp2_with fail
    have hc := few_any N a1 m1 c1 gens w1 (h1.below hB1)
    rw [HF.out] at hc
    refine hc.mono ?_
    rintro e w2 ⟨rfl, rfl⟩
    clear hc
    go_wp2_with fail
    refine (is_big a2 m2 c2 q N w2 (h2.below hB1) hsz).mono ?_
    rintro e w3 ⟨rfl, hA⟩
    rw [HP.out]
    replace hB1 := hB1.on hA
    clear hA
    go_wp2_with fail
    go_ret
    exact ⟨rfl, hB1⟩
  have HQ := Lib.hid (permB_iff.1 hp)
  have HP := Lib.hid hp
  have hm2 : m2 = N := by rw [← h2.len]; exact HQ.out.len
  obtain rfl : N = m2 := hm2.symm
  clear hp hm2
  obtain ⟨ce, hce⟩ : ∃ ce, closE (N : Int) gens = ce := ⟨_, rfl⟩
  obtain ⟨L, hLe⟩ : ∃ L, closR (N : Int) gens = L := ⟨_, rfl⟩
  have HCE := Lib.hid (And.intro hce hLe)
  have HL1 := Lib.hid h1.len
  clear hce hLe
  obtain ⟨i22, hi22, hz220, hz221, hz222⟩ := info_parts info_ints
  go_enter Try.func8, Try.ntmps8
  go_wp2_with fail
  refine (sane11_any _).mono ?_
  rintro e w1 ⟨rfl, hB1⟩
  go_wp2_with fail
  have hc := few_any N a1 m1 c1 gens w1 (h1.below hB1)
  rw [HF.out] at hc
  refine hc.mono ?_
  rintro e w2 ⟨rfl, rfl⟩
  clear hc
  go_wp2_with fail
  refine (is_big a2 N c2 q N w2 (h2.below hB1) hsz).mono ?_
  rintro e w3 ⟨rfl, hA⟩
  rw [HP.out]
  replace hB1 := hB1.on hA
  clear hA
  go_wp2_with fail
  refine (closure_any N a1 m1 c1 gens w3 (h1.below hB1)).mono ?_
  rintro e w4 ⟨la, ln, lc, rfl, hL, hA⟩
  rw [HCE.out.1]
  rw [HCE.out.2] at hL
  replace hB1 := hB1.on hA
  clear hA
  go_wp2_with fail
  have hbase : W.heap.size ≤ w4.heap.size := hB1.size
  have m1 : (w4.alloc (.cells #[] 22)).ownsRow w4.heap.size 22 1 (.slice (some ⟨w4.heap.size, 0, none⟩) 0 0) 0 [] := World.ownsRow_made w4 #[] 0 (Nat.le_refl _) (by simp [maxLen]) rfl
  have m2 : ((w4.alloc (.cells #[] 22)).alloc (.cells #[] 22)).ownsRow w4.heap.size 22 1 (.slice (some ⟨(w4.alloc (.cells #[] 22)).heap.size, 0, none⟩) 0 0) 0 [] := World.ownsRow_made (w4.alloc (.cells #[] 22)) #[] 0 (by simp) (by simp [maxLen]) rfl
  rw [World.size_alloc] at m2
  have hal : Below w4.heap.size w4 ((w4.alloc (.cells #[] 22)).alloc (.cells #[] 22)) := ((Below.refl _ _).alloc (Nat.le_refl _) _).alloc (by simp) _
  refine (rinverse_any a2 N c2 q _ ((h2.below hB1).below hal)).mono ?_
  rintro e w5 ⟨iv, rfl, hIv, hA⟩
  have hIL : invLL q = invP q N ∧ invE q = 0 := by
    have hc : invB q = true := by unfold invB; rw [HQ.out.len, HP.out]; simp; omega
    unfold invLL invE; rw [if_pos hc, if_pos hc, HQ.out.len]; exact ⟨rfl, rfl⟩
  rw [hIL.1] at hIv
  rw [hIL.2]
  have hilt := hIv.lt
  obtain ⟨ia, ic, rfl, hI⟩ := hIv.ints
  rw [(inv_ok HQ.out).len] at hI hilt ⊢
  have hT : Two w5 w4.heap.size (.slice (some ⟨w4.heap.size, 0, none⟩) 0 0) (.slice (some ⟨w4.heap.size + 1, 0, none⟩) 0 0) [] [] ia N ic (invP q N) := by
    have o1 : ORows ((w4.alloc (.cells #[] 22)).alloc (.cells #[] 22)) w4.heap.size (· < w4.heap.size) 22 (.slice (some ⟨w4.heap.size, 0, none⟩) 0 0) [] := ⟨[], m1.alloc _, Olds.nil _ _⟩
    have o2 : ORows ((w4.alloc (.cells #[] 22)).alloc (.cells #[] 22)) w4.heap.size (fun _ => False) 22 (.slice (some ⟨w4.heap.size + 1, 0, none⟩) 0 0) [] := ⟨[], m2, Olds.nil _ _⟩
    refine ⟨o1.below hA, (o2.below hA).imp fun q hq => hq.elim, fun q e => ?_, hI, fun q h0 e => ?_⟩
    · simp [Value.ownBlock] at e ⊢
      omega
    · have := hilt q e
      simp [Value.ownBlock] at this ⊢
      omega
  have hB5 := hal.on hA
  have hsz5 := hB5.size
  clear hal hA hIL hilt hIv m1 m2 hI
  have hm1' : m1 ≤ 6 := by rw [← HL1.out]; exact hm1
  have hw0 : IntKind.i64.wrap ((m1 : Int) - 1) = (m1 : Int) - 1 := by rw [IntKind.wrap_i64]; omega
  go_wp2_with fail
  go_loopw [9, 10, 13] (fun vb vt i wr => ∃ (z : Int) (t : Nat), i = .int .i64 z ∧ z + 1 = t ∧ t ≤ m1 ∧ Hid (∀ g ∈ gens.drop t, okPerm g N) ∧ Two wr w4.heap.size vb vt (dupL (gens.drop t).reverse) ((gens.drop t).reverse.map (cjP N q)) ia N ic (invP q N) ∧ Below w4.heap.size w4 wr) (fun _ _ i _ => (intOf i + 1).toNat)
  case atStart => exact ⟨(m1 : Int) - 1, m1, rfl, by omega, Nat.le_refl _, Lib.hid (by rw [List.drop_of_length_le (by rw [HL1.out]; exact Nat.le_refl _)]; simp), by rw [List.drop_of_length_le (by rw [HL1.out]; exact Nat.le_refl _)]; exact hT, hB5⟩
  case round =>
    clear hT hw0 hB5 hsz5
    obtain ⟨z, t, rfl, hz, ht, HG, hT, hBr⟩ := hrel
    rcases t with _ | t
    · obtain rfl : z = -1 := by omega
      clear hz
      have hg : ∀ g ∈ gens, okPerm g N := HG.out
      have hAF := again_facts (by omega) hm1 hg HQ.out
      have hCF := clo_facts hg
      rw [HCE.out.1, HCE.out.2] at hAF hCF
      obtain ⟨hA1, hA2, hA3, hA4, hA5⟩ := hAF
      rw [List.drop_zero] at hT
      obtain ⟨BL, hBL⟩ : ∃ BL, dupL gens.reverse = BL := ⟨_, rfl⟩
      obtain ⟨NL, hNL⟩ : ∃ NL, gens.reverse.map (cjP N q) = NL := ⟨_, rfl⟩
      rw [hBL] at hA1 hT
      rw [hNL] at hA2 hA3 hA4 hA5 hT
      obtain ⟨X, hX⟩ : ∃ X, closR (N : Int) NL = X := ⟨_, rfl⟩
      rw [hX] at hA3 hA4 hA5
      have HB1 := Lib.hid hA1
      have HN1 := Lib.hid (And.intro hA2 hX)
      have HX := Lib.hid (And.intro hA4 hA5)
      have HXL := Lib.hid hA3
      have HLL := Lib.hid hL.len
      have hln : ln ≤ 4096 := by rw [← hL.len]; exact hCF.1
      have HCF := Lib.hid hCF
      have HGG := Lib.hid hg
      obtain ⟨va, vc, rfl, hRb, _⟩ := hT.bk.rows
      obtain ⟨ta, tc, rfl, hRt, _⟩ := hT.bt.rows
      obtain ⟨bl, hbl⟩ : ∃ bl, BL.length = bl := ⟨_, rfl⟩
      obtain ⟨nl, hnl⟩ : ∃ nl, NL.length = nl := ⟨_, rfl⟩
      rw [hbl] at hRb ⊢
      rw [hnl] at hRt ⊢
      have hI := hT.inv
      clear hT hBL hNL hX hA1 hA2 hA3 hA4 hA5 hCF hg HG hbl hnl
      go_wp2_with fail
      refine (closure_any N va bl vc BL wr hRb).mono ?_
      rintro e w10 ⟨ma, mn, mc, rfl, hM, hA⟩
      rw [HB1.out.1]
      rw [HB1.out.2] at hM
      obtain rfl : ln = mn := by rw [← hM.len, HLL.out]
      replace hBr := hBr.on hA
      replace hRt := hRt.below hA
      replace hI := hI.below hA
      clear hA hRb
      go_wp2_with fail
      refine (closure_any N ta nl tc NL w10 hRt).mono ?_
      rintro e w11 ⟨xa, xn, xc, rfl, hXr, hA⟩
      rw [HN1.out.1]
      rw [HN1.out.2] at hXr
      obtain rfl : ln = xn := by rw [← hXr.len, HXL.out, HLL.out]
      replace hBr := hBr.on hA
      replace hM := hM.below hA
      replace hI := hI.below hA
      clear hA hRt
      go_wp2_with fail
      refine (sameAll_yes la ma ln lc ln mc L w11 (hL.below hBr) hM).mono ?_
      rintro e w12 ⟨rfl, hA⟩
      replace hBr := hBr.on hA
      replace hXr := hXr.below hA
      replace hI := hI.below hA
      clear hA hM
      obtain ⟨wo, hwo⟩ : ∃ wo, wo = w12 := ⟨_, rfl⟩
      rw [← hwo] at hBr hXr hI ⊢
      clear hwo
      go_wp2_with fail
      go_loopw [139] (fun i wy => ∃ j : Nat, i = .int .i64 j ∧ j ≤ ln ∧ Below wo.heap.size wo wy) (fun i _ => ln - (intOf i).toNat)
      case atStart => exact ⟨0, rfl, by omega, Below.refl _ _⟩
      case round =>
        obtain ⟨j, rfl, hj, hBy⟩ := hrel
        by_cases hltj : j < ln
        · obtain ⟨p, hp⟩ := hL.has hltj
          obtain ⟨lb, lo, rfl, hlb⟩ := hL.at' (by omega)
          obtain ⟨pa, pn, pc, ep0, hIp⟩ := hL.get hp
          have ep := ((hBr.on hBy).cell (p := ⟨lb, lo + j, none⟩) hlb).trans ep0
          have HPO : Hid (okPerm p N ∧ cjP N q p ∈ X) := Lib.hid ⟨HCF.out.2.1 p (List.mem_of_getElem? hp), HX.out.2 p (List.mem_of_getElem? hp)⟩
          have hpn : pn = N := by rw [← hIp.len, HPO.out.1.len]
          obtain rfl : N = pn := hpn.symm
          have hIp := hIp.below (hBr.on hBy)
          clear hpn hp ep0
          have s2 : (0 : Int) ≤ (j : Int) := by omega
          have s3 : (j : Int) < (ln : Int) := by omega
          go_wp2_with fail
          refine (is_true pa N pc p N wr hIp (by omega) HPO.out.1).mono ?_
          rintro e y1 ⟨rfl, hA⟩
          replace hBy := hBy.on hA
          replace hIp := hIp.below hA
          clear hA ep
          go_wp2_with fail
          refine (product_any pa ia N pc N ic p (invP q N) y1 hIp (hI.below hBy) (fun x hx => (inv_ok HQ.out).rng x hx) (by omega)).mono ?_
          rintro e y2 ⟨x1, rfl, hx1, hA⟩
          replace hBy := hBy.on hA
          obtain ⟨xa1, xc1, rfl, hX1⟩ := hx1.ints
          have hxl : (prodL p (invP q N)).length = N := by rw [prodL_len, (inv_ok HQ.out).len]
          rw [hxl] at hX1 ⊢
          clear hA hx1 hxl hIp
          go_wp2_with fail
          refine (product_any a2 xa1 N c2 N xc1 q (prodL p (invP q N)) y2 (h2.below (hB1.on (hBr.on hBy))) hX1 (fun x hx => (prod_ok HPO.out.1 (inv_ok HQ.out)).rng x hx) (by omega)).mono ?_
          rintro e y3 ⟨x2, rfl, hx2, hA⟩
          replace hBy := hBy.on hA
          obtain ⟨xa2, xc2, rfl, hX2⟩ := hx2.ints
          have hxl : (prodL q (prodL p (invP q N))).length = N := by rw [prodL_len, prodL_len, (inv_ok HQ.out).len]
          rw [hxl] at hX2 ⊢
          clear hA hx2 hxl hX1
          go_wp2_with fail
          refine (find_true xa xa2 ln xc N xc2 X (prodL q (prodL p (invP q N))) y3 (hXr.below hBy) hX2 (by omega) HX.out.1 HPO.out.2).mono ?_
          rintro e y4 ⟨z3, rfl, hA⟩
          replace hBy := hBy.on hA
          clear hA hX2
          go_wp2_with fail
          go_roundw
          case rel => exact ⟨j + 1, by go_num, by omega, hBy⟩
          case measure => simp [intOf]; omega
        · obtain rfl : ln = j := by omega
          have hBz := hBr.on hBy
          by_cases hce : ce = 0
          · subst hce
            by_cases h200 : (200 : Int) < (ln : Int)
            · have r1 : decide ((200 : Int) < (ln : Int)) = true := decide_eq_true h200
              go_wp2_with fail
              go_ret
              exact ⟨rfl, hB1.on hBz⟩
            · have r1 : decide ((200 : Int) < (ln : Int)) = false := decide_eq_false h200
              obtain ⟨hCL, hInc, hv0, ho0⟩ := HCF.out.2.2 rfl
              obtain ⟨u1, u2, u3, u4⟩ := clo_self (N := N) (by omega) (by rw [HLL.out]; omega) HGG.out hCL hInc
              have HS := Lib.hid (And.intro u1 (And.intro u2 (And.intro u3 (u4.trans ho0.symm))))
              have HV := Lib.hid hv0
              clear u1 u2 u3 u4 hCL hInc hv0 ho0
              go_wp2_with fail
              refine (closure_any N la ln lc L wr (hL.below hBz)).mono ?_
              rintro e y1 ⟨ya, yn, yc, rfl, hY, hA⟩
              rw [HS.out.1]
              rw [HS.out.2.1] at hY
              replace hBz := hBz.on hA
              clear hA
              go_wp2_with fail
              refine (orbits_any N a1 m1 c1 gens y1 (h1.below (hB1.on hBz))).mono ?_
              rintro e y2 ⟨oa, on, oc, rfl, hO, hA⟩
              rw [HV.out]
              replace hBz := hBz.on hA
              replace hY := hY.below hA
              clear hA
              go_wp2_with fail
              refine (orbits_any N la ln lc L y2 (hL.below hBz)).mono ?_
              rintro e y3 ⟨ua, un, uc, rfl, hU, hA⟩
              rw [HS.out.2.2.1]
              rw [HS.out.2.2.2] at hU
              replace hBz := hBz.on hA
              replace hY := hY.below hA
              replace hO := hO.below hA
              clear hA
              go_wp2_with fail
              refine (sameAll_yes la ya ln lc yn yc L y3 (hL.below hBz) hY).mono ?_
              rintro e y4 ⟨rfl, hA⟩
              replace hBz := hBz.on hA
              replace hU := hU.below hA
              replace hO := hO.below hA
              clear hA
              go_wp2_with fail
              refine (sameAll_yes oa ua on oc un uc _ y4 hO hU).mono ?_
              rintro e y5 ⟨rfl, hA⟩
              replace hBz := hBz.on hA
              clear hA
              go_wp2_with fail
              go_ret
              exact ⟨rfl, hB1.on hBz⟩
          · have r0 : (ce != 0) = true := by simpa using hce
            go_wp2_with fail
            go_ret
            exact ⟨rfl, hB1.on hBz⟩
    · obtain rfl : z = (t : Int) := by omega
      obtain ⟨g, hg⟩ := h1.has (i := t) (by omega)
      obtain ⟨gb, go, rfl, hgb⟩ := h1.at' (by omega)
      obtain ⟨ga, gn, gc, eg0, hIg⟩ := h1.get hg
      have eg := ((hB1.on hBr).cell (p := ⟨gb, go + t, none⟩) hgb).trans eg0
      obtain ⟨us, o1, o2⟩ := hT.bk
      have HD : Hid (gens[t]? = some g ∧ (gens.drop t).reverse = (gens.drop (t + 1)).reverse ++ [g]) := Lib.hid ⟨hg, drop_rev hg⟩
      have hdl : (dupL (gens.drop (t + 1)).reverse).length ≤ 12 := by rw [dup_len, List.length_reverse, List.length_drop]; omega
      have hnl : ((gens.drop (t + 1)).reverse.map (cjP N q)).length ≤ 6 := by rw [List.length_map, List.length_reverse, List.length_drop]; omega
      obtain ⟨b0, hb0⟩ : ∃ b0, dupL (gens.drop (t + 1)).reverse = b0 := ⟨_, rfl⟩
      obtain ⟨n0, hn0⟩ : ∃ n0, (gens.drop (t + 1)).reverse.map (cjP N q) = n0 := ⟨_, rfl⟩
      rw [hb0] at hdl hT o1 o2
      rw [hn0] at hT hnl
      have HBN := Lib.hid (And.intro hb0 hn0)
      obtain ⟨nb, hnb⟩ : ∃ nb, b0.length = nb := ⟨_, rfl⟩
      rw [hnb] at o1 hdl
      have HNB := Lib.hid hnb
      obtain ⟨av, cv, rfl, _, _⟩ := own_slice o1
      have hol := o1.lt
      have s0 : (0 : Int) ≤ (t : Int) := by omega
      have s1 : (t : Int) < (m1 : Int) := by omega
      have hbw : w4.heap.size ≤ wr.heap.size := hBr.size
      clear hz hb0 hn0 hnb hg
      go_wp2_with fail
      go_region_law (go_loud ((refine step_append_own2 rfl _ _ 31 rfl w4.heap.size 22 i22 (.slice none 0 0) 1 24 Try.underlying31 hi22 hz220 hz221 hz222 rfl (by decide) _ nb _ (o1.alloc _) rfl ⟨_, 0, none⟩ 2 2 [(.slice ga gn gc), (.slice ga gn gc)] rfl rfl ?hnews (by simp [Value.oneCell']) ?h63 ?hby ?hbase ?_; (case hnews => (first | exact two_new _ _ _ | exact two_newd _ _ _)); (case h63 => (unfold maxLen; omega)); (case hby => omega); (case hbase => (first | omega | (simp; omega))); intro v6 w6 hown6 hgrow6 hfr6)))
      all_goals
        have halb : Below wr.heap.size wr (wr.alloc (.cells #[.slice ga gn gc, .slice ga gn gc] 22)).drew := ((Below.refl _ _).alloc (Nat.le_refl _) _).drew
        have hT6 := (hT.below halb).back (o2.below halb) ((hIg.below (hB1.on hBr)).below halb) (fun q h0 e => by obtain ⟨x, y, rfl, hx⟩ := hIg.at' h0; simp [Value.ownBlock] at e; omega) (by rw [HNB.out]; exact hown6) hgrow6 hfr6
        have hB6 : Below w4.heap.size w4 w6 := (hBr.on halb).grown hgrow6 (by have := halb.size; omega) (fun q e => (hol q e).1)
        have eg6 := ((hB1.on hB6).cell (p := ⟨gb, go + t, none⟩) hgb).trans eg0
        clear halb hT hBr o1 o2 hol hown6 hgrow6 hfr6 hbw eg
        go_wp2_with fail
        refine (is_any ga gn gc g N w6 (hIg.below (hB1.on hB6)) (by omega)).mono ?_
        rintro e w7 ⟨rfl, hA⟩
        cases hpg : permB g N
        · have hbad : ce = 110 ∧ L = [] := by
            rcases valid_or (N := N) (gens := gens) (by omega) hm1 with ⟨_, h⟩ | ⟨h, _⟩
            · exact absurd (permB_iff.2 (h g (List.mem_of_getElem? HD.out.1))) (by rw [hpg]; decide)
            · have := clo_valid h; rw [HCE.out.1, HCE.out.2] at this; exact this
          obtain ⟨rfl, rfl⟩ := hbad
          obtain rfl : 0 = ln := hL.len
          clear hpg
          go_wp2_with fail
          go_ret
          exact ⟨rfl, (hB1.on hB6).on hA⟩
        · have hok := permB_iff.1 hpg
          have hgn : gn = N := by rw [← hIg.len, hok.len]
          obtain rfl : N = gn := hgn.symm
          have HOK := Lib.hid hok
          have hT7 := hT6.below hA
          have hB7 := hB6.on hA
          have eg7 := ((hB1.on hB7).cell (p := ⟨gb, go + t, none⟩) hgb).trans eg0
          clear hT6 hB6 eg6 hA hpg hok hgn
          go_wp2_with fail
          refine (product_any ga ia N gc N ic g (invP q N) w7 (hIg.below (hB1.on hB7)) hT7.inv (fun x hx => (inv_ok HQ.out).rng x hx) (by omega)).mono ?_
          rintro e w8 ⟨x1, rfl, hx1, hA⟩
          have hT8 := hT7.below hA
          have hB8 := hB7.on hA
          obtain ⟨xa, xc, rfl, hX⟩ := hx1.ints
          have hxl : (prodL g (invP q N)).length = N := by rw [prodL_len, (inv_ok HQ.out).len]
          rw [hxl] at hX ⊢
          clear hT7 hB7 eg7 hA hx1 hxl
          go_wp2_with fail
          refine (product_any a2 xa N c2 N xc q (prodL g (invP q N)) w8 (h2.below (hB1.on hB8)) hX (fun x hx => (prod_ok HOK.out (inv_ok HQ.out)).rng x hx) (by omega)).mono ?_
          rintro e w9 ⟨x2, rfl, hx2, hA⟩
          have hT9 := hT8.below hA
          have hB9 := hB8.on hA
          have hlt2 := hx2.lt
          have hlb := hT8.bk.lt
          have hlv := hT8.bt.lt
          obtain ⟨ya, yc, rfl, hY⟩ := hx2.ints
          have hyl : (prodL q (prodL g (invP q N))).length = N := by rw [prodL_len, prodL_len, (inv_ok HQ.out).len]
          rw [hyl] at hY hlt2 ⊢
          obtain ⟨ut, t1, t2⟩ := hT9.bt
          obtain ⟨nt, hnt⟩ : ∃ nt, n0.length = nt := ⟨_, rfl⟩
          rw [hnt] at t1 hnl
          have HNT := Lib.hid hnt
          obtain ⟨bv, bc, rfl, _, _⟩ := own_slice t1
          have hw9 : w4.heap.size ≤ w9.heap.size := hB9.size
          have hw8 : w4.heap.size ≤ w8.heap.size := hB8.size
          have hwt : IntKind.i64.wrap ((t : Int) - 1) = (t : Int) - 1 := by rw [IntKind.wrap_i64]; omega
          clear hT8 hB8 hA hx2 hX hyl hnt
          go_wp2_with (at_builtin; refine wpList_append_own2 _ rfl _ _ 31 rfl w4.heap.size 22 i22 (.slice none 0 0) 1 24 Try.underlying31 hi22 hz220 hz221 hz222 rfl (by decide) _ _ _ (t1.alloc _) rfl ⟨_, 0, none⟩ 1 1 [(.slice ya N yc)] rfl rfl (cell_one_new _ _ _) (by simp [Value.oneCell']) (by unfold maxLen; omega) (by omega) (by first | omega | (simp; omega)) ?_; intro v' w1 hown' hgrow hfr)
          go_roundw
          case rel =>
            have al9 : Below w9.heap.size w9 (w9.alloc (.cells #[.slice ya N yc] 22)) := (Below.refl _ _).alloc (Nat.le_refl _) _
            have hT10 := (hT9.below al9).bent ((t2.below al9).imp fun q hq => ⟨hq.1, Nat.lt_of_lt_of_le hq.2.1 al9.size, hq.2.2⟩) (hY.below al9) (fun z h0 e => by
              obtain ⟨h3, h4⟩ := hlt2 z e
              have h5 := al9.size
              refine ⟨by omega, by omega, fun e2 => ?_, fun e2 => ?_⟩
              · have := (hlv z e2).2; omega
              · have := (hlb z e2).2; omega) (by rw [HNT.out]; exact hown') hgrow hfr
            refine ⟨(t : Int) - 1, t, rfl, by omega, by omega, Lib.hid ?_, ?_, (hB9.on al9).grown hgrow (by have := al9.size; omega) fun z e => (hlv z e).1⟩
            · intro g' hg'
              obtain ⟨hl, e⟩ := List.getElem?_eq_some_iff.1 HD.out.1
              rw [List.drop_eq_getElem_cons hl, e] at hg'
              rcases List.mem_cons.1 hg' with rfl | hg'
              · exact HOK.out
              · exact HG.out g' hg'
            · rw [HD.out.2, dup_snoc, HBN.out.1, List.map_append, HBN.out.2]
              exact hT10
          case measure => simp [intOf] <;> omega
section
variable {H : Type} {enc : TypeId × Value → H} {W : World}
set_option maxRecDepth 100000 in
theorem open_Lz {v : Value} {d : DataW H} {p : List MemPlace} {base : Nat} (hval : Value.okWide Try.prog W .any base 22 v) (hd : DataW.Trod enc Try.prog W 0 (fun _ => true) true 22 v d p) :
    ∃ a n c l, v = .slice a n c ∧ Ints W a n c l ∧ (n = 0 ∨ ∃ el sp, d = .slice el sp ∧ el.length = n) := by
  obtain ⟨a0, len, cap, rfl⟩ := okWide_slice Try.underlying22 hval
  obtain ⟨fuel, hf⟩ := hd
  rcases open_ints Try.underlying22 Try.underlying3 row_cells3 hf with ⟨hcs, _⟩ | ⟨a, len', cap', zs, hcs, _, hl, hm, hz, hx, hcell, hwz⟩
  · simp [Value.cells] at hcs
    obtain ⟨rfl, rfl, rfl⟩ := hcs
    exact ⟨none, 0, 0, [], rfl, Ints.nil W, .inl rfl⟩
  · simp [Value.cells] at hcs
    obtain ⟨rfl, rfl, rfl⟩ := hcs
    simp only [if_true] at hz
    injection hx with hx _
    exact ⟨_, _, _, _, rfl, ints_of hl hm hz hcell, .inr ⟨_, _, hx, by simp [lits, hz]; omega⟩⟩
theorem bytes3 : Try.prog.bytesOf 3 = 8 := by kernel_rfl
end
set_option maxRecDepth 100000 in
set_option maxHeartbeats 2000000 in
theorem lifted (os : Os) (started : os.Started) (H : Type) (enc : TypeId × Value → H) :
    ReturnsInHanded {} Try.checked os 8 .any (Rows.permsAgainSpec.pre6 enc Try.prog Try.f8 Rows.permsAgainRow.domain false) (Rows.permsAgainSpec.post enc Try.prog Try.f8 false true false false) := by
  refine returnsInHanded_of_change_sized (C := Try.checked) row_own started (by kernel_rfl) Try.func8
    (ChangeSpec.witness6 (enc := enc) (C := Try.checked) false ⟨#[], #[.int .i64 0, .slice none 0 0, .slice none 0 0], []⟩ 8 (by kernel_rfl) (by kernel_rfl) (by kernel_rfl) (by kernel_rfl)) ?_
  intro W base args ds gs before hval0 hW _ hsz0 _
  have hsz : (DataW.weightsEach Try.prog (Try.f8.params.toList ++ Rows.permsAgainSpec.plain.varTypes Try.prog) (ds ++ gs)).all (· ≤ reachBytes) = true := hsz0
  clear hsz0
  have hval : ∀ (j : Nat) t v, Try.f8.params[j]? = some t → args[j]? = some v → Value.okWide Try.prog W .any base t v := hval0
  have hW' := hW
  obtain ⟨p, q, hA0, hV, rfl, _, _⟩ := hW
  have hA : DataW.TrodAll enc Try.prog W 0 (fun _ => true) true Try.f8.params.toList args.toList ds p := hA0
  rw [Try.params8] at hA hval hsz
  obtain ⟨v0, v1, v2, d0, d1, d2, p0, p1, p2, rfl, rfl, rfl, h0, h1, h2⟩ := trodAll_three hA
  obtain ⟨rfl, rfl⟩ := trodVars_none hV
  obtain ⟨n, rfl, rfl, rfl, _⟩ := open_int Try.underlying3 (hval 0 3 v0 rfl rfl) h0
  obtain ⟨a1, n1, c1, ll1, rfl, h1', _⟩ := open_LL (hval 1 31 v1 rfl rfl) h1
  obtain ⟨a2, n2, c2, l2, rfl, h2', hel⟩ := open_Lz (hval 2 22 v2 rfl rfl) h2
  have hz : Hid (n2 ≤ 140737488355328) := Lib.hid (by
    rcases hel with e | ⟨el, sp, rfl, e⟩
    · omega
    · have := sized_slice hsz (j := 2) (t := 22) (e := 3) rfl rfl Try.underlying22
      have h47 := reachBytes_lt
      rw [bytes3] at this
      omega)
  refine (lawAgain_any n a1 n1 c1 ll1 a2 n2 c2 l2 W h1' h2' hz).mono fun e W' ⟨he, hb⟩ => ?_
  subst he
  exact ⟨_, rfl, law_post hW' rfl rfl (by kernel_rfl) rfl hb⟩
set_option maxHeartbeats 2000000 in
theorem permsAgain_closed : joinedFacts Try.prog 8 Try.f8 Rows.permsAgainSpec Rows.permsAgainRow = true := by
  unfold joinedFacts
  refine bt (bt (bt (bt (bt (bt (bt (bt (bt (bt (bt (bt (bt (bt (bt (bt (bt (bt (bt (bt (bt (bt (bt (bt (bt (bt (bt (bt (bt (bt (bt ?a0 ?a1) ?a2) ?a3) ?a4) ?a5) ?a6) ?a7) ?a8) ?a9) ?a10) ?a11) ?a12) ?a13) ?a14) ?a15) ?a16) ?a17) ?a18) ?a19) ?a20) ?a21) ?a22) ?a23) ?a24) ?a25) ?a26) ?a27) ?a28) ?a29) ?a30) ?a31
  case a25 => exact prog_enter
  case a26 => exact prog_lifts
  case a27 => exact prog_make
  all_goals as_aux_lemma => kernel_rfl
theorem permsAgain_holds : Rows.PermsAgainSaid :=
  OpenClaim.holds_of_wide 8 Try.f8 rfl rfl rfl rfl rfl rfl rfl ⟨rfl, rfl, rfl, rfl, rfl⟩ rfl rfl rfl rfl rfl (by kernel_rfl) Try.func8 permsAgain_closed
    (of_decide_eq_true (by kernel_rfl)) (by unfold Func.isWrapper; rw [if_neg (of_decide_eq_false (by kernel_rfl))]; exact ⟨rfl, rfl⟩)
    (fun os started H enc _ => lifted os started H enc)
#print axioms permsAgain_holds
end Go.Proofs.Ytkekkbbdhdamjaa
