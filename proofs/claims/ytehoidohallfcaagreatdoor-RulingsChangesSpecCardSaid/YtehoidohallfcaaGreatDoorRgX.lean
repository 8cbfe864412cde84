/- Contract of ranking.Ranking. -/
import Derived.Test.YtehoidohallfcaaGreatDoorOrdB
import Derived.Test.YtehoidohallfcaaGreatDoorRfX
import Derived.Test.YtehoidohallfcaaGreatDoorRuX
namespace Go.Proofs.YtehoidohallfcaaGreatDoor
open Go.RowKit
theorem compareQ (a b : Int) (W : World) : Calls Tryz.prog 53 #[.int .i64 a, .int .i64 b] W fun e w' => e = .returned (.int .i64 (sgnI a b)) ∧ ∃ k, w' = W.drewN k :=
 (compare_any a b W).mono fun e w' h => ⟨h.1, 0, by rw [← h.2]; rfl⟩
theorem rank1_any (ta : Option Addr) (tn tc : Nat) (t : List Int) (a b : Nat) (x y fi : Int) (pa pb pf : Nat) (W : World) (hT : Ints W ta tn tc t) (ha : t[a]? = some x) (hb : t[b]? = some y)
 (d1 : W.cell? ⟨pa, 0, none⟩ = some (.int .i64 (a : Int))) (d2 : W.cell? ⟨pb, 0, none⟩ = some (.int .i64 (b : Int))) (d3 : W.cell? ⟨pf, 0, none⟩ = some (.int .i64 fi)) :
 Calls Tryz.prog 55 #[.slice ta tn tc, .pointer (some ⟨pa, 0, none⟩), .pointer (some ⟨pb, 0, none⟩), .pointer (some ⟨pf, 0, none⟩)] W fun e w' => RetB W (.bool (sgnI x y != fi)) e w' := by
 have la : a < tn := by rw [← hT.len]; exact (List.getElem?_eq_some_iff.1 ha).1
 have lb : b < tn := by rw [← hT.len]; exact (List.getElem?_eq_some_iff.1 hb).1
 obtain ⟨b0, o0, rfl, hl⟩ := hT.at' (by omega)
 have e0 := hT.get ha
 have e1 := hT.get hb
 have hm0 := hT.mx
 have hc0 := hT.cap
 unfold maxLen at hm0
 have s0 : (0 : Int) ≤ (a : Int) := by omega
 have s1 : (a : Int) < (tn : Int) := by omega
 have s2 : (0 : Int) ≤ (b : Int) := by omega
 have s3 : (b : Int) < (tn : Int) := by omega
 clear hT ha hb
 go_enter Tryz.func55, Tryz.ntmps55
 go_wp2_with (go_quiet ((go_at_call 53; first | exact quiet_ofY (compareQ x y _) | exact quiet_ofX (compareQ x y _) (by first | exact ⟨_, rfl⟩ | exact ⟨_, World.drewN_drewN.symm⟩ | exact ⟨0, rfl⟩))))
 go_ret
 exact ⟨rfl, (by first | exact Below.refl _ _ | exact Below.drewN0 _ _ | exact (Below.drewN0 _ _).drew | exact (Below.refl _ _).drew | exact below_drewN (Below.drewN0 _ _) _)⟩
theorem rankR_bad {s : Sh} {l : List Rs} (h : rankE s l ≠ 0) : rankR s l = Rk0 := by
 unfold rankE at h
 unfold rankR
 split
 · rfl
 · rename_i h1
   rw [if_neg h1] at h
   cases e : ordO s l with
   | none => rfl
   | some x => rw [e] at h; exact absurd rfl h
theorem rk_facts0 {s : Sh} {l : List Rs} (h : rkE s l = 0) : l.length ≤ 32 ∧ 1 ≤ s.cs ∧ (∀ x ∈ l, okRs s x = true) ∧ s.cs ≤ 8 ∧ 1 ≤ s.ps ∧ s.ps ≤ 8 := by
 unfold rkE at h
 split at h
 · cases h
 · split at h
   · rename_i h2; exact absurd h h2
   · split at h
     · rename_i h1 _ h3
       rw [Bool.and_eq_true] at h3
       have h4 := h3.1
       unfold okSh at h4
       simp only [Bool.and_eq_true, decide_eq_true_eq] at h4
       exact ⟨by omega, by omega, fun x hx => List.all_eq_true.1 h3.2 x hx, by omega, by omega, by omega⟩
     · cases h
theorem rankR_ok {s : Sh} {l : List Rs} (h : rankE s l = 0) : ∃ x, rkE s l = 0 ∧ ordO s l = some x ∧ ordR s l = x ∧ rankR s l = rkOf s x ∧ x ≠ [] ∧ x.length ≤ 4096 ∧ (∀ t ∈ x, t.length = s.cs.toNat) ∧ 1 ≤ s.cs := by
 unfold rankE at h
 split at h
 · rename_i h1; exact absurd h h1
 · rename_i h1
   have h0 : rkE s l = 0 := Classical.byContradiction fun h3 => h1 h3
   cases e : ordO s l with
   | none => rw [e] at h; cases h
   | some x =>
    obtain ⟨_, h2, h3, _⟩ := rk_facts0 h0
    obtain ⟨h4, h5, h6, _⟩ := ordO_all (List.all_eq_true.2 h3) (by omega) e
    refine ⟨x, h0, rfl, (ordE_some h0 e).2, by unfold rankR; rw [if_neg h1, e], h5, h6, h4, h2⟩
open Go.RowKit
def RetRk (W : World) (r : Rk) (E : Int) (e : Ending) (w' : World) : Prop := ∃ R : Sr, R.r = r ∧ e = .returned (.tuple #[.agg #[.slice R.ba R.bn R.bc, .slice R.wa R.wn R.wc, .slice R.ua R.un R.uc], .int .i64 E]) ∧ R.In w' ∧ R.New W.heap.size ∧ Below W.heap.size W w'
theorem RetRk.bad {W w' : World} {E : Int} (hb : Below W.heap.size W w') : RetRk W Rk0 E (.returned (.tuple #[.agg #[.slice none 0 0, .slice none 0 0, .slice none 0 0], .int .i64 E])) w' :=
 ⟨⟨Rk0, none, 0, 0, none, 0, 0, none, 0, 0⟩, rfl, rfl, ⟨Ints.nil _, Ints.nil _, SL.nil _ _ _⟩, ⟨(fun q e => by cases e), (fun q e => by cases e), (fun q e => by cases e)⟩, hb⟩
structure RgI (S : Sp) (W : World) (base : Nat) (b w : List Int) (bv wv uv : Value) (X : World) : Prop where
 b1 : Box X W.heap.size #[.int .i64 S.sh.cs, .int .i64 S.sh.ps, .slice S.la S.ln S.lc, .slice S.ca S.cn S.cc, .slice S.pa S.pn S.pc, .slice S.ra S.rn S.rc] 25
 b2 : Box X (W.heap.size + 1) #[bv, wv, uv] 35
 ob : OwnInts X base 3 bv b
 ow : OwnInts X base 3 wv w
 ne : bv.ownBlock ≠ wv.ownBlock
 bel : Below W.heap.size W X
 hb : W.heap.size + 2 ≤ base
theorem region_tmps {c : Code} {P : Program} {Q : Exit → Act → World → Prop} {a : Act} {w : World} {R : Nat → Nat → Nat → Nat → World → Prop} {F : Nat → Nat → Nat → Nat → Act}
 (h : c.wp P (NormQ fun _ a' w' => ∃ g1 c1 g2 c2, a' = F g1 c1 g2 c2 ∧ R g1 c1 g2 c2 w') a w) (hk : ∀ g1 c1 g2 c2 w', R g1 c1 g2 c2 w' → Q .normal (F g1 c1 g2 c2) w') : c.wp P Q a w :=
 wp_mono h fun e a' w' ⟨he, g1, c1, g2, c2, ha, hr⟩ => by subst he ha; exact hk _ _ _ _ _ hr
theorem region_fix {c : Code} {P : Program} {Q : Exit → Act → World → Prop} {a : Act} {w : World} {R : World → Prop} {F : Act}
 (h : c.wp P (NormQ fun _ a' w' => a' = F ∧ R w') a w) (hk : ∀ w', R w' → Q .normal F w') : c.wp P Q a w :=
 wp_mono h fun e a' w' ⟨he, ha, hr⟩ => by subst he ha; exact hk _ hr
theorem rank_own (a : Option Addr) (n c : Nat) (x : List Int) (W : World) (h0 : Ints W a n c x) (hn : n ≤ 1000000) (h1 : 0 < n) :
 Calls Tryz.prog 21 #[.slice a n c] W fun e w' => ∃ g cc, e = .returned (.slice (some ⟨g, 0, none⟩) n cc) ∧ OwnInts w' W.heap.size 3 (.slice (some ⟨g, 0, none⟩) n cc) (rankL x) ∧ W.heap.size ≤ g ∧ g < w'.heap.size ∧ Below W.heap.size W w' := by
 refine (rank_any a n c x W h0 hn).mono ?_
 rintro e w' ⟨v, rfl, hO, hB⟩
 have hl : (rankL x).length = n := by rw [rank_len, h0.len]
 obtain ⟨va, vc, rfl, _, _⟩ := own_slice hO
 rw [hl] at hO ⊢
 have hO2 := hO
 unfold OwnInts at hO2
 rw [hl] at hO2
 obtain ⟨b, rfl, h2, h3, _⟩ := own_spot hO2 h1
 exact ⟨b, vc, rfl, hO, h2, h3, hB⟩
structure RgG (S : Sp) (W : World) (p q : Value) (X : World) : Prop where
 b1 : Box X W.heap.size #[.int .i64 S.sh.cs, .int .i64 S.sh.ps, .slice S.la S.ln S.lc, .slice S.ca S.cn S.cc, .slice S.pa S.pn S.pc, .slice S.ra S.rn S.rc] 25
 b2 : Box X (W.heap.size + 1) #[p, q, .slice none 0 0] 35
 bel : Below W.heap.size W X
theorem RgG.below {S : Sp} {W X Y : World} {p q : Value} (h : RgG S W p q X) (hb : Below X.heap.size X Y) : RgG S W p q Y := ⟨h.b1.below hb, h.b2.below hb, h.bel.on hb⟩
theorem RgG.set0 {S : Sp} {W X : World} {p q : Value} (h : RgG S W p q X) (v : Value) : RgG S W v q (X.setCell ⟨W.heap.size + 1, 0, none⟩ v) := ⟨h.b1.setOther _ (by show W.heap.size ≠ W.heap.size + 1; omega), by simpa using h.b2.set 0 v, h.bel.setCell (by show W.heap.size ≤ W.heap.size + 1; omega) _⟩
theorem RgG.set1 {S : Sp} {W X : World} {p q : Value} (h : RgG S W p q X) (v : Value) : RgG S W p v (X.setCell ⟨W.heap.size + 1, 1, none⟩ v) := ⟨h.b1.setOther _ (by show W.heap.size ≠ W.heap.size + 1; omega), by simpa using h.b2.set 1 v, h.bel.setCell (by show W.heap.size ≤ W.heap.size + 1; omega) _⟩
theorem KpR.put {s b : Nat} {A B : World} (h : KpR s b A B) {p : Addr} (hp : s ≤ p.block) (v : Value) : KpR s b A (B.setCell p v) :=
 ⟨Nat.le_trans h.1 (by simp [World.setCell]), fun k h1 h2 => (Below.heap_setCell B p v k (by omega)).trans (h.2 k h1 h2)⟩
theorem KpR.grown {s b : Nat} {A B C : World} {row : Option Nat} (h : KpR s b A B) (hg : B.grownBy C row) (hs : s ≤ A.heap.size) (hr : ∀ r, row = some r → s ≤ r) : KpR s b A C :=
 ⟨Nat.le_trans h.1 hg.size, fun k h1 h2 => (hg.block k (by have := h.1; omega) (fun e => by have := hr k e.symm; omega)).trans (h.2 k h1 h2)⟩
theorem RowsN.kept {w w' : World} {base b : Nat} {a : Option Addr} {n c : Nat} {ll : List (List Int)} (h : RowsN w base a n c ll) (hk : KpR w.heap.size b w w') (hb : b < base) : RowsN w' base a n c ll := by
 have hc : ∀ g o, a = some ⟨g, o, none⟩ → ∀ i, i < n → w'.cell? ⟨g, o + i, none⟩ = w.cell? ⟨g, o + i, none⟩ := fun g o e i hi => by
  obtain ⟨b', o', e', hl⟩ := h.rows.at' (by omega)
  rw [e] at e'
  obtain ⟨rfl, rfl⟩ : g = b' ∧ o = o' := by simpa using e'
  have h2 := h.nb (by omega) g o e
  exact World.cell?_of_block (w := w) (hk.2 g hl (by omega))
 refine ⟨⟨h.rows.len, h.rows.cap, h.rows.mx, fun hn => ?_, fun g o e i hi => ?_⟩, h.nb, fun g o e i hi ai ni ci hc2 => h.rn g o e i hi ai ni ci (by rw [← hc g o e i hi]; exact hc2)⟩
 · obtain ⟨g, o, e, hl⟩ := h.rows.at' hn
   exact ⟨g, o, e, Nat.lt_of_lt_of_le hl hk.1⟩
 · obtain ⟨ai, ni, ci, h1, hI⟩ := h.rows.row g o e i hi
   refine ⟨ai, ni, ci, by rw [hc g o e i hi]; exact h1, ⟨hI.len, hI.cap, hI.mx, fun hn => ?_, fun g2 o2 e2 j hj => ?_⟩⟩
   · obtain ⟨g2, o2, e2, hl⟩ := hI.at' hn
     exact ⟨g2, o2, e2, Nat.lt_of_lt_of_le hl hk.1⟩
   · obtain ⟨b', o', e', hl⟩ := hI.at' (by omega)
     rw [e2] at e'
     obtain ⟨rfl, rfl⟩ : g2 = b' ∧ o2 = o' := by simpa using e'
     have h3 := h.rn g o e i hi ai ni ci h1 (by omega) g2 (by rw [e2]; rfl)
     exact (World.cell?_of_block (w := w) (hk.2 g2 hl (by omega))).trans (hI.cell g2 o2 e2 j hj)
theorem Box.kept {w w' : World} {B s b : Nat} {cs : Array Value} {t : TypeId} (h : Box w B cs t) (hk : KpR s b w w') (h1 : B < s) (h2 : B ≠ b) : Box w' B cs t := (hk.2 B h1 h2).trans h
theorem ownInts_set {w : World} {base b n c : Nat} {e : TypeId} {l : List Int} (h : OwnInts w base e (.slice (some ⟨b, 0, none⟩) n c) l) (hn : l.length = n) {x : Nat} (hx : x < n) (v : Int) : OwnInts (w.setCell ⟨b, x, none⟩ (.int .i64 v)) base e (.slice (some ⟨b, 0, none⟩) n c) (l.set x v) := by
 unfold OwnInts at h ⊢
 rw [List.length_set, List.map_set, hn]
 rw [hn] at h
 exact ownsRow_set h x _ (by omega)
theorem own_ints {w : World} {base n c : Nat} {e : TypeId} {a : Option Addr} {l : List Int} (h : OwnInts w base e (.slice a n c) l) (hn : l.length = n) : Ints w a n c l := by
 obtain ⟨a', c', e1, hI⟩ := h.ints
 injection e1 with x y z
 subst x z
 rw [hn] at hI; exact hI
structure RgJ (W w1 : World) (g1 c1 g2 c2 tn : Nat) (B L : List Int) (uv : Value) (X : World) : Prop where
 b2 : Box X (W.heap.size + 1) #[.slice (some ⟨g1, 0, none⟩) tn c1, .slice (some ⟨g2, 0, none⟩) tn c2, uv] 35
 o1 : OwnInts X w1.heap.size 3 (.slice (some ⟨g1, 0, none⟩) tn c1) B
 o2 : OwnInts X w1.heap.size 3 (.slice (some ⟨g2, 0, none⟩) tn c2) L
 l1 : B.length = tn
 l2 : L.length = tn
 kp : KpR w1.heap.size (W.heap.size + 1) w1 X
 bel : Below W.heap.size W X
section
variable {W w1 : World} {g1 c1 g2 c2 tn : Nat} {B L : List Int} {uv : Value} {X Y : World}
theorem RgJ.below (h : RgJ W w1 g1 c1 g2 c2 tn B L uv X) (hb : Below X.heap.size X Y) : RgJ W w1 g1 c1 g2 c2 tn B L uv Y :=
 ⟨h.b2.below hb, h.o1.below hb, h.o2.below hb, h.l1, h.l2, h.kp.grown (grown_of_below hb none) (Nat.le_refl _) (fun r e => by cases e), h.bel.on hb⟩
theorem RgJ.mix (h : RgJ W w1 g1 c1 g2 c2 tn B L uv X) (hne : g1 ≠ g2) (hw : W.heap.size + 1 < w1.heap.size) {j : Nat} (hj : j < tn) (a b : Int) :
 RgJ W w1 g1 c1 g2 c2 tn (B.set j a) (L.set j b) uv ((X.setCell ⟨g1, j, none⟩ (.int .i64 a)).setCell ⟨g2, j, none⟩ (.int .i64 b)) := by
 have k1 : w1.heap.size ≤ g1 := (h.o1.lt _ rfl).1
 have k2 : w1.heap.size ≤ g2 := (h.o2.lt _ rfl).1
 refine ⟨(h.b2.setOther _ ?_).setOther _ ?_, (ownInts_set h.o1 h.l1 hj a).setOther _ ?_, ownInts_set (h.o2.setOther _ ?_) h.l2 hj b, by rw [List.length_set]; exact h.l1, by rw [List.length_set]; exact h.l2, (h.kp.put (by exact k1) _).put (by exact k2) _, (h.bel.setCell ?_ _).setCell ?_ _⟩
 · show W.heap.size + 1 ≠ g1; omega
 · show W.heap.size + 1 ≠ g2; omega
 · simp [Value.ownBlock]; omega
 · simp [Value.ownBlock]; omega
 · have := h.bel.size; show W.heap.size ≤ g1; omega
 · have := h.bel.size; show W.heap.size ≤ g2; omega
end
theorem RgJ.grown {W w1 : World} {g1 c1 g2 c2 tn : Nat} {B L : List Int} {uv : Value} {X Y : World} {row : Option Nat} (h : RgJ W w1 g1 c1 g2 c2 tn B L uv X) (hg : X.grownBy Y row) (hw : W.heap.size + 1 < w1.heap.size) (hr : ∀ r, row = some r → w1.heap.size ≤ r ∧ r ≠ g1 ∧ r ≠ g2) : RgJ W w1 g1 c1 g2 c2 tn B L uv Y :=
 ⟨h.b2.grown hg (fun e => by have := (hr _ e).1; omega), h.o1.grown hg (.inr fun e => (hr g1 e.symm).2.1 rfl), h.o2.grown hg (.inr fun e => (hr g2 e.symm).2.2 rfl), h.l1, h.l2, h.kp.grown hg (Nat.le_refl _) (fun r e => (hr r e).1), h.bel.grown hg h.bel.size (fun r e => by have := (hr r e).1; omega)⟩
theorem RgJ.setU {W w1 : World} {g1 c1 g2 c2 tn : Nat} {B L : List Int} {uv : Value} {X : World} (h : RgJ W w1 g1 c1 g2 c2 tn B L uv X) (hw : W.heap.size + 1 < w1.heap.size) (v : Value) : RgJ W w1 g1 c1 g2 c2 tn B L v (X.setCell ⟨W.heap.size + 1, 2, none⟩ v) := by
 have k1 : w1.heap.size ≤ g1 := (h.o1.lt _ rfl).1
 have k2 : w1.heap.size ≤ g2 := (h.o2.lt _ rfl).1
 exact ⟨by simpa using h.b2.set 2 v, h.o1.setOther _ (by simp [Value.ownBlock]; omega), h.o2.setOther _ (by simp [Value.ownBlock]; omega), h.l1, h.l2, h.kp.trans (KpR.set _ 2 v), h.bel.setCell (by show W.heap.size ≤ W.heap.size + 1; omega) _⟩
def RgU (W w1 : World) (g1 c1 g2 c2 tn : Nat) (B L : List Int) (U : List (Int × Int)) (X : World) : Prop := ∃ uv, RgJ W w1 g1 c1 g2 c2 tn B L uv X ∧ OwnSL encPr 2 X w1.heap.size 84 uv U ∧ uv.ownBlock ≠ some g1 ∧ uv.ownBlock ≠ some g2
theorem RgU.below {W w1 : World} {g1 c1 g2 c2 tn : Nat} {B L : List Int} {U : List (Int × Int)} {X Y : World} (h : RgU W w1 g1 c1 g2 c2 tn B L U X) (hb : Below X.heap.size X Y) : RgU W w1 g1 c1 g2 c2 tn B L U Y :=
 let ⟨uv, h1, h2, h3⟩ := h; ⟨uv, h1.below hb, h2.below hb, h3⟩
theorem own_box_ne {w : World} {base n k B : Nat} {e t : TypeId} {v : Value} {xs : List Value} {cs : Array Value} (h : w.ownsRow base e k v n xs) (hb : Box w B cs t) (hne : e ≠ t) : v.ownBlock ≠ some B := by
 rcases h.2 with ⟨rfl, _⟩ | ⟨g, cap, cur, rfl, _, hg, _⟩
 · intro e; cases e
 · intro e2
   simp only [Value.ownBlock, Option.some.injEq] at e2
   subst e2
   have h2 : w.heap[g]? = some (.cells cs t (0, 0)) := hb
   rw [hg] at h2; injection h2 with h2; injection h2 with _ h2
   exact hne h2
theorem new2 (w : World) (x y : Value) (t : TypeId) : ∀ j u, [x, y][j]? = some u → (w.alloc (.cells #[x, y] t)).cell? (Addr.add ⟨w.heap.size, 0, none⟩ j) = some u := by
 intro j u hu
 have hb := Box.new w #[x, y] t
 have hj := (List.getElem?_eq_some_iff.1 hu).1
 have e : (Addr.add ⟨w.heap.size, 0, none⟩ j) = ⟨w.heap.size, j, none⟩ := by
  simp only [Addr.add]
  split
  · rename_i h0; rw [h0]
  · rw [Nat.zero_add]
 rw [e, hb.cell j]; simpa using hu
theorem app_facts {W w1 w4 w5 : World} {g1 c1 g2 c2 tn : Nat} {B L : List Int} {U : List (Int × Int)} {ua : Option Addr} {un uc Ba Bb : Nat} {a b : Int} {v' : Value} {p q : Int}
 (hJ : RgJ W w1 g1 c1 g2 c2 tn B L (.slice ua un uc) w4) (hw : W.heap.size + 1 < w1.heap.size) (hown : w4.ownsRow w1.heap.size 84 2 (.slice ua un uc) un (U.flatMap encPr)) (hu1 : (Value.slice ua un uc).ownBlock ≠ some g1) (hu2 : (Value.slice ua un uc).ownBlock ≠ some g2)
 (hXa : Box w4 Ba #[.int .i64 a] 3) (hXb : Box w4 Bb #[.int .i64 b] 3) (hBa : W.heap.size + 1 < Ba) (hBb : W.heap.size + 1 < Bb)
 (hown' : w5.ownsRow w1.heap.size 84 2 v' (un + 1) (U.flatMap encPr ++ [.int .i64 p, .int .i64 q])) (hun : U.length = un)
 (hg : (w4.alloc (.cells #[.int .i64 p, .int .i64 q] 84)).grownBy w5 (Value.slice ua un uc).ownBlock) (hfr : v'.ownBlock = (Value.slice ua un uc).ownBlock ∨ v'.ownBlock = some (w4.alloc (.cells #[.int .i64 p, .int .i64 q] 84)).heap.size) :
 ∃ va' vc', v' = .slice va' (un + 1) vc' ∧ w5.cell? ⟨W.heap.size + 1, 2, none⟩ = some (.slice ua un uc) ∧ w5.frozen? ⟨W.heap.size + 1, 2, none⟩ = false ∧ W.heap.size + 1 < w5.heap.size ∧
  Box (w5.setCell ⟨W.heap.size + 1, 2, none⟩ v') Ba #[.int .i64 a] 3 ∧ Box (w5.setCell ⟨W.heap.size + 1, 2, none⟩ v') Bb #[.int .i64 b] 3 ∧ RgU W w1 g1 c1 g2 c2 tn B L (U ++ [(p, q)]) (w5.setCell ⟨W.heap.size + 1, 2, none⟩ v') := by
 have hlu := World.ownsRow.lt hown
 have hr5 : ∀ r, (Value.slice ua un uc).ownBlock = some r → w1.heap.size ≤ r ∧ r ≠ g1 ∧ r ≠ g2 := fun r e => ⟨(hlu r e).1, fun h => hu1 (by rw [e, h]), fun h => hu2 (by rw [e, h])⟩
 have h5 := (hJ.below (al0 w4 #[.int .i64 p, .int .i64 q] 84)).grown hg hw hr5
 obtain ⟨va', vc', rfl, _, _⟩ := own_slice hown'
 have hlu' := World.ownsRow.lt hown'
 have ha5 := (hXa.alloc (.cells #[.int .i64 p, .int .i64 q] 84)).grown hg (own_box_ne hown hXa (by decide))
 have hb5 := (hXb.alloc (.cells #[.int .i64 p, .int .i64 q] 84)).grown hg (own_box_ne hown hXb (by decide))
 have k1 : g1 < w4.heap.size := (hJ.o1.lt _ rfl).2
 have k2 : g2 < w4.heap.size := (hJ.o2.lt _ rfl).2
 have n1 : (Value.slice va' (un + 1) vc').ownBlock ≠ some g1 := by
  rcases hfr with h | h
  · rw [h]; exact hu1
  · rw [h, World.size_alloc]; intro e; injection e with e; omega
 have n2 : (Value.slice va' (un + 1) vc').ownBlock ≠ some g2 := by
  rcases hfr with h | h
  · rw [h]; exact hu2
  · rw [h, World.size_alloc]; intro e; injection e with e; omega
 have k5 := h5.b2.cell 2
 simp only [List.getElem?_toArray, List.getElem?_cons_zero, List.getElem?_cons_succ] at k5
 refine ⟨va', vc', rfl, k5, h5.b2.frozen 2, h5.b2.lt, ha5.setOther _ (by show Ba ≠ W.heap.size + 1; omega), hb5.setOther _ (by show Bb ≠ W.heap.size + 1; omega), _, h5.setU hw _, ?_, n1, n2⟩
 refine OwnSL.setOther ?_ _ (fun e => ?_)
 · exact OwnSL.snoc (by rw [hun]; exact hown')
 · have := (hlu' _ e).1
   have h3 : w1.heap.size ≤ W.heap.size + 1 := this
   omega
theorem info_pr : (Tryz.prog.info? 84).map (fun i => (i.zero, i.size, i.bytes)) = some (some (.agg #[.int .i64 0, .int .i64 0]), 2, 16) := by kernel_rfl
theorem cell_alloc {w : World} {p : Addr} {v : Value} (h : w.cell? p = some v) (o : Obj) : (w.alloc o).cell? p = some v :=
 (((Below.refl w.heap.size w).alloc (Nat.le_refl _) o).cell (World.block_lt_of_cell? w _ h)).trans h
def boxN (w : World) (p : Value) : Nat := match p with
 | .pointer (some q) => match w.cell? q with
  | some v => (intOf v).toNat
  | none => 0
 | _ => 0
theorem boxN_of {w : World} {B b : Nat} {t : TypeId} (h : Box w B #[.int .i64 (b : Int)] t) : boxN w (.pointer (some ⟨B, 0, none⟩)) = b := by
 have := h.cell 0
 simp only [List.getElem?_toArray, List.getElem?_cons_zero] at this
 simp [boxN, this, intOf]
theorem undB_any (x : List (List Int)) (a b : Nat) {t0 : List Int} (h : x.headD [] = t0) : (x.any fun t => (sgnI (t.getD a 0) (t.getD b 0) != sgnI (t0.getD a 0) (t0.getD b 0))) = undB x a b := by
 unfold undB
 rw [h]
 congr 1
 funext t
 rw [Bool.eq_iff_iff]; simp
set_option maxRecDepth 20000 in
set_option maxHeartbeats 8000000 in
theorem ranking_any (S : Sp) (al : Option Addr) (nl cl : Nat) (l : List Rs) (W : World) (ht : Tab W) (hS : S.In W) (h0 : SL encRs 6 W al nl cl l) (h4 : S.sh.cs ≤ 4) :
 Calls Tryz.prog 36 #[.agg #[.int .i64 S.sh.cs, .int .i64 S.sh.ps, .slice S.la S.ln S.lc, .slice S.ca S.cn S.cc, .slice S.pa S.pn S.pc, .slice S.ra S.rn S.rc], .slice al nl cl] W (RetRk W (rankR S.sh l) (rankE S.sh l)) := by
 have hx1 : Box ((W.alloc (.cells #[.int .i64 S.sh.cs, .int .i64 S.sh.ps, .slice S.la S.ln S.lc, .slice S.ca S.cn S.cc, .slice S.pa S.pn S.pc, .slice S.ra S.rn S.rc] 25)).alloc (.cells #[.slice none 0 0, .slice none 0 0, .slice none 0 0] 35)) W.heap.size #[.int .i64 S.sh.cs, .int .i64 S.sh.ps, .slice S.la S.ln S.lc, .slice S.ca S.cn S.cc, .slice S.pa S.pn S.pc, .slice S.ra S.rn S.rc] 25 := (Box.new W _ _).alloc _
 have hx2 := Box.new (W.alloc (.cells #[.int .i64 S.sh.cs, .int .i64 S.sh.ps, .slice S.la S.ln S.lc, .slice S.ca S.cn S.cc, .slice S.pa S.pn S.pc, .slice S.ra S.rn S.rc] 25)) #[.slice none 0 0, .slice none 0 0, .slice none 0 0] 35
 rw [World.size_alloc] at hx2
 have hbb : Below W.heap.size W ((W.alloc (.cells #[.int .i64 S.sh.cs, .int .i64 S.sh.ps, .slice S.la S.ln S.lc, .slice S.ca S.cn S.cc, .slice S.pa S.pn S.pc, .slice S.ra S.rn S.rc] 25)).alloc (.cells #[.slice none 0 0, .slice none 0 0, .slice none 0 0] 35)) := ((Below.refl _ _).alloc (Nat.le_refl _) _).alloc (by simp) _
 obtain ⟨w0, hw0⟩ : ∃ w0, (W.alloc (.cells #[.int .i64 S.sh.cs, .int .i64 S.sh.ps, .slice S.la S.ln S.lc, .slice S.ca S.cn S.cc, .slice S.pa S.pn S.pc, .slice S.ra S.rn S.rc] 25)).alloc (.cells #[.slice none 0 0, .slice none 0 0, .slice none 0 0] 35) = w0 := ⟨_, rfl⟩
 rw [hw0] at hx1 hx2 hbb
 have HO := Lib.hid (orders_any S al nl cl l w0 (ht.below hbb) (hS.below hbb) (h0.below hbb) h4)
 have HW0 := Lib.hid hw0
 clear hw0
 obtain ⟨d0, d1, d2, d3, d4, d5⟩ := hx1.g6
 by_cases he : rankE S.sh l = 0
 rotate_left
 · obtain ⟨E, hE⟩ : ∃ E, rankE S.sh l = E := ⟨_, rfl⟩
   have HR := Lib.hid (rankR_bad he)
   rw [hE] at he HO
   have HE := Lib.hid hE
   have g1 : (E != 0) = true := by simpa using he
   clear hE he
   go_enter Tryz.func36, Tryz.ntmps36
   go_wp2_with fail
   rw [HW0.out]
   go_wp2_with fail
   refine HO.out.mono ?_
   rintro e w1 ⟨xa, xn, xc, rfl, hR1, hB1⟩
   obtain ⟨e0, e1, e2⟩ := (hx2.below hB1).g3
   have f0 := (hx2.below hB1).frozen 0
   have f1 := (hx2.below hB1).frozen 1
   have f2 := (hx2.below hB1).frozen 2
   have l2 := (hx2.below hB1).lt
   go_wp2_with fail
   have hy := (((hx2.below hB1).set 0 (.slice none 0 0)).set 1 (.slice none 0 0)).set 2 (.slice none 0 0)
   simp only [s_t, s_z, s_s] at hy
   obtain ⟨y0, y1, y2⟩ := hy.g3
   refine bodyPost_ret (v := .tuple #[.agg #[.slice none 0 0, .slice none 0 0, .slice none 0 0], .int .i64 E]) (by simp [results, Tryz.results36, go_sem, y0, y1, y2]) rfl ?_
   rw [HR.out, HE.out]
   exact RetRk.bad (((((hbb.on hB1).setCell (by simp) _).setCell (by simp) _).setCell (by simp) _))
 obtain ⟨x, hrk, hord, hordR, hrkR, hne, hlen, hcs, hcs1⟩ := rankR_ok he
 have HE := Lib.hid he
 rw [he, hordR] at HO
 obtain ⟨t0, hh, ht0⟩ : ∃ t0, x[0]? = some t0 ∧ x.headD [] = t0 := by
  cases x with
  | nil => exact absurd rfl hne
  | cons t x => exact ⟨t, rfl, rfl⟩
 have HCS := Lib.hid hcs
 have HX0 := Lib.hid ht0
 have HNE := Lib.hid hne
 have HRK := Lib.hid hrkR
 have htl := hcs t0 (List.mem_of_getElem? hh)
 clear he hrk hord hordR hrkR hcs hne ht0
 go_enter Tryz.func36, Tryz.ntmps36
 go_wp2_with fail
 rw [HW0.out]
 go_wp2_with fail
 refine HO.out.mono ?_
 rintro e w1 ⟨xa, xn, xc, rfl, hR1, hB1⟩
 obtain ⟨xb, xo, ta, tn, tc, rfl, c0, hT0⟩ : ∃ xb xo ta tn tc, xa = some ⟨xb, xo, none⟩ ∧ w1.cell? ⟨xb, xo, none⟩ = some (.slice ta tn tc) ∧ Ints w1 ta tn tc t0 := by
  obtain ⟨b, o, e, _⟩ := hR1.rows.at' (by rw [← hR1.rows.len]; exact (List.getElem?_eq_some_iff.1 hh).1)
  subst e
  obtain ⟨ta, tn, tc, h1, h2⟩ := hR1.rows.nth hh
  exact ⟨b, o, ta, tn, tc, rfl, h1, h2⟩
 have htn : tn = S.sh.cs.toNat := by rw [← hT0.len]; exact htl
 have hw01 : W.heap.size + 1 < w0.heap.size := hx2.lt
 have hxb : W.heap.size + 1 < xb := by have h1 := hR1.nb (by rw [← hR1.rows.len]; exact (List.getElem?_eq_some_iff.1 hh).1) xb xo rfl; have h2 := hx2.lt; omega
 have hx1 := hx1.below hB1
 have hx2 := hx2.below hB1
 have hb1 := hbb.on hB1
 have hxn : (0 : Int) < (xn : Int) := by have := (List.getElem?_eq_some_iff.1 hh).1; rw [hR1.rows.len] at this; omega
 have hxN : 0 < xn := by omega
 have hx4 : xn ≤ 4096 := by rw [← hR1.rows.len]; exact hlen
 have HR1 := Lib.hid hR1
 have HH := Lib.hid hh
 clear hR1 hh hbb hB1 d0 d1 d2 d3 d4 d5
 have htn1 : 0 < tn ∧ tn ≤ 8 := by rw [htn]; omega
 obtain ⟨htn1, htn8⟩ := htn1
 have hG0 : RgG S W (.slice none 0 0) (.slice none 0 0) w1 := ⟨hx1, hx2, hb1⟩
 have hxw : W.heap.size + 1 < w1.heap.size := hx2.lt
 have HG0 := Lib.hid hG0
 have HT0 := Lib.hid hT0
 have HTN := Lib.hid htn
 have HTL := Lib.hid htl
 clear hx1 hx2 hb1 hG0 hT0 htn htl
 go_wp2_with fail
 apply region_tmps (R := fun g1 c1 g2 c2 w' => RgG S W (.slice (some ⟨g1, 0, none⟩) tn c1) (.slice (some ⟨g2, 0, none⟩) tn c2) w' ∧ OwnInts w' w1.heap.size 3 (.slice (some ⟨g1, 0, none⟩) tn c1) (rankL t0) ∧ OwnInts w' w1.heap.size 3 (.slice (some ⟨g2, 0, none⟩) tn c2) (rankL t0) ∧ g1 ≠ g2 ∧ KpR w1.heap.size (W.heap.size + 1) w1 w')
 · refine wp_region_held_drew (S := fun w' => w'.cell? ⟨xb, xo, none⟩ = some (.slice ta tn tc)) (by kernel_rfl) c0 (fun hS => ?_)
   have hbd : Below w1.heap.size w1 w1.drew := (Below.refl _ _).drew
   have hG := HG0.out.below hbd
   have hT := HT0.out.below hbd
   have hRw : KpR w1.heap.size (W.heap.size + 1) w1 w1.drew := KpR.of_below hbd (Nat.le_refl _)
   refine wpAnyH_take (i := 0) (v := ?_) rfl (by kernel_rfl) (by kernel_rfl) (by kernel_rfl) NormQ.hq (Or.inl ⟨by rfl, ?_⟩) (by assumption) ?_
   rotate_left
   focus
    intro w hSw
    (try dsimp only at hSw)
    (try go_split_ands)
    go_simp
    try with_reducible rfl
   (try simp only [Act.put, l_t, l_z, s_t, s_z, s_s])
   refine wpAnyH_take (i := 1) (v := ?_) rfl (by kernel_rfl) (by kernel_rfl) (by kernel_rfl) NormQ.hq (Or.inl ⟨by rfl, ?_⟩) (by assumption) ?_
   rotate_left
   focus
    intro w hSw
    (try dsimp only at hSw)
    (try go_split_ands)
    go_simp
    try with_reducible rfl
   (try simp only [Act.put, l_t, l_s, l_z, s_t, s_z, s_s])
   refine wpAnyH_take (i := 2) (v := ?_) rfl (by kernel_rfl) (by kernel_rfl) (by kernel_rfl) NormQ.hq (Or.inl ⟨by rfl, ?_⟩) (by assumption) ?_
   rotate_left
   focus
    intro w hSw
    (try dsimp only at hSw)
    (try go_split_ands)
    go_simp
    try with_reducible rfl
   (try simp only [Act.put, l_t, l_s, l_z, s_t, s_z, s_s])
   refine wpAnyH_take (i := 4) (v := ?_) rfl (by kernel_rfl) (by kernel_rfl) (by kernel_rfl) NormQ.hq (Or.inl ⟨by rfl, ?_⟩) (by assumption) ?_
   rotate_left
   focus
    intro w hSw
    (try dsimp only at hSw)
    (try go_split_ands)
    go_simp
    try with_reducible rfl
   (try simp only [Act.put, l_t, l_s, l_z, s_t, s_z, s_s])
   refine wpAnyH_take (i := 5) (v := ?_) rfl (by kernel_rfl) (by kernel_rfl) (by kernel_rfl) NormQ.hq (Or.inl ⟨by rfl, ?_⟩) (by assumption) ?_
   rotate_left
   focus
    intro w hSw
    (try dsimp only at hSw)
    (try go_split_ands)
    go_simp
    try with_reducible rfl
   (try simp only [Act.put, l_t, l_s, l_z, s_t, s_z, s_s])
   refine wpAnyH_take (i := 6) (v := ?_) rfl (by kernel_rfl) (by kernel_rfl) (by kernel_rfl) NormQ.hq (Or.inl ⟨by rfl, ?_⟩) (by assumption) ?_
   rotate_left
   focus
    intro w hSw
    (try dsimp only at hSw)
    (try go_split_ands)
    go_simp
    try with_reducible rfl
   (try simp only [Act.put, l_t, l_s, l_z, s_t, s_z, s_s])
   refine wpAnyH_ready (rs := [3]) (by kernel_rfl) (by simp) (AllReadyH.cons rfl (fun K hK => ?_) AllReadyH.nil)
   · skip
     go_simp
     go_at_call 21
     refine (rank_own _ _ _ _ _ hT (by omega) (by omega)).mono ?_
     rintro e wA ⟨gA, ccA, rfl, oA, la, lb, hbN⟩
     refine hK.out _ _ ((hbN.cell (p := ⟨xb, xo, none⟩) (World.block_lt_of_cell? _ _ hS)).trans hS) (fun hS => ?_)
     clear hK K
     (try simp only [Act.put, l_t, l_s, l_z, s_t, s_z, s_s])
     replace hG := hG.below hbN
     replace hRw := hRw.grown (grown_of_below hbN none) (Nat.le_refl _) (by intro b e; cases e)
     replace hT := hT.below hbN
     have hbA := hbd.on hbN
     clear hbN hbd
     refine wpAnyH_take (i := 8) (v := ?_) rfl (by kernel_rfl) (by kernel_rfl) (by kernel_rfl) NormQ.hq (Or.inl ⟨by rfl, ?_⟩) (by assumption) ?_
     rotate_left
     focus
      intro w hSw
      (try dsimp only at hSw)
      (try go_split_ands)
      go_simp
      try with_reducible rfl
     (try simp only [Act.put, l_t, l_s, l_z, s_t, s_z, s_s])
     refine wpAnyH_ready (rs := [7]) (by kernel_rfl) (by simp) (AllReadyH.cons rfl (fun K hK => ?_) AllReadyH.nil)
     go_simp
     go_at_call 21
     refine (rank_own _ _ _ _ _ hT (by omega) (by omega)).mono ?_
     rintro e wB ⟨gB, ccB, rfl, oB, mA, mB, hbN⟩
     refine hK.out _ _ ((hbN.cell (p := ⟨xb, xo, none⟩) (World.block_lt_of_cell? _ _ hS)).trans hS) (fun hS => ?_)
     clear hK K
     (try simp only [Act.put, l_t, l_s, l_z, s_t, s_z, s_s])
     replace hG := hG.below hbN
     replace hRw := hRw.grown (grown_of_below hbN none) (Nat.le_refl _) (by intro b e; cases e)
     replace oA := oA.below hbN
     have hbB := hbA.on hbN
     have hne : gA ≠ gB := by omega
     replace oA := oA.mono (base' := w1.heap.size) (Nat.le_refl _)
     replace oB := oB.mono (base' := w1.heap.size) hbA.size
     clear hbN hbA la lb mA mB
     obtain ⟨k0, k1, _⟩ := hG.b2.g3
     have f0 := hG.b2.frozen 0
     have kl := hG.b2.lt
     have hA1 : w1.heap.size ≤ gA := (oA.lt _ rfl).1
     have hB1 : w1.heap.size ≤ gB := (oB.lt _ rfl).1
     refine wpAnyH_ready (rs := [9]) (by kernel_rfl) (by simp) (AllReadyH.cons rfl (fun K hK => ?_) AllReadyH.nil)
     go_simp
     refine hK.out _ _ ((World.cell?_setCell_other _ _ _ _ (by intro e; injection e with e _; omega)).trans hS) (fun hS => ?_)
     clear hK K
     (try simp only [Act.put, l_t, l_s, l_z, s_t, s_z, s_s])
     replace hG := hG.set0 (.slice (some ⟨gA, 0, none⟩) tn ccA)
     replace oA := oA.setOther (a := ⟨W.heap.size + 1, 0, none⟩) (.slice (some ⟨gA, 0, none⟩) tn ccA) (by simp [Value.ownBlock]; omega)
     replace oB := oB.setOther (a := ⟨W.heap.size + 1, 0, none⟩) (.slice (some ⟨gA, 0, none⟩) tn ccA) (by simp [Value.ownBlock]; omega)
     replace hRw := hRw.trans (KpR.set _ 0 (.slice (some ⟨gA, 0, none⟩) tn ccA))
     clear k0 k1 f0 kl
     obtain ⟨_, k1, _⟩ := hG.b2.g3
     have f1 := hG.b2.frozen 1
     have kl := hG.b2.lt
     refine wpAnyH_take (i := 10) (v := ?_) rfl (by kernel_rfl) (by kernel_rfl) (by kernel_rfl) NormQ.hq (Or.inl ⟨by rfl, ?_⟩) (by assumption) ?_
     rotate_left
     focus
      intro w hSw
      (try dsimp only at hSw)
      (try go_split_ands)
      go_simp
      try with_reducible rfl
     (try simp only [Act.put, l_t, l_s, l_z, s_t, s_z, s_s])
     refine wpAnyH_ready (rs := [11]) (by kernel_rfl) (by simp) (AllReadyH.cons rfl (fun K hK => ?_) AllReadyH.nil)
     go_simp
     refine hK.out _ _ ((World.cell?_setCell_other _ _ _ _ (by intro e; injection e with e _; omega)).trans hS) (fun hS => ?_)
     clear hK K
     (try simp only [Act.put, l_t, l_s, l_z, s_t, s_z, s_s])
     replace hG := hG.set1 (.slice (some ⟨gB, 0, none⟩) tn ccB)
     replace oA := oA.setOther (a := ⟨W.heap.size + 1, 1, none⟩) (.slice (some ⟨gB, 0, none⟩) tn ccB) (by simp [Value.ownBlock]; omega)
     replace oB := oB.setOther (a := ⟨W.heap.size + 1, 1, none⟩) (.slice (some ⟨gB, 0, none⟩) tn ccB) (by simp [Value.ownBlock]; omega)
     replace hRw := hRw.trans (KpR.set _ 1 (.slice (some ⟨gB, 0, none⟩) tn ccB))
     refine wpAnyH_done (by kernel_rfl) ?_ _
     exact ⟨rfl, gA, ccA, gB, ccB, rfl, hG, oA, oB, hne, hRw⟩
 rintro g1 c1 g2 c2 w2 ⟨hG, oA, oB, hne, hkw⟩
 have HJ0 : Hid (RgJ W w1 g1 c1 g2 c2 tn (rankL t0) (rankL t0) (.slice none 0 0) w2) := Lib.hid ⟨hG.b2, oA, oB, by rw [rank_len]; exact HT0.out.len, by rw [rank_len]; exact HT0.out.len, hkw, hG.bel⟩
 have HB1 := Lib.hid HG0.out.b1
 have HW1 := Lib.hid HG0.out.bel
 clear hG oA oB hkw c0
 go_wp2_with fail
 go_loopw [36] (fun i wr => ∃ k : Nat, i = .int .i64 k ∧ k ≤ xn ∧ RgJ W w1 g1 c1 g2 c2 tn (mixTo min x k) (mixTo max x k) (.slice none 0 0) wr) (fun i _ => xn - (intOf i).toNat)
 case atStart => exact ⟨0, rfl, by omega, by rw [mixTo_zero, mixTo_zero, HX0.out]; exact HJ0.out⟩
 case round =>
  clear HJ0
  obtain ⟨k, rfl, hk, hJ⟩ := hrel
  by_cases hlt : k < xn
  · obtain ⟨t, hxk⟩ : ∃ t, x[k]? = some t := ⟨_, List.getElem?_eq_getElem (by rw [HR1.out.rows.len]; exact hlt)⟩
    obtain ⟨ta', tn', tc', e0, hIt⟩ := (HR1.out.kept hJ.kp hw01).rows.nth hxk
    have htl := HCS.out t (List.mem_of_getElem? hxk)
    have htn' : tn' = tn := by rw [← hIt.len, htl, HTN.out]
    subst htn'
    have HXK := Lib.hid hxk
    have hrl : (rankL t).length = tn' := by rw [rank_len, htl, HTN.out]
    have HRL := Lib.hid hrl
    have HJ := Lib.hid hJ
    have s0 : (0 : Int) ≤ (k : Int) := by omega
    have s1 : (k : Int) < (xn : Int) := by omega
    have hRO := Lib.hid (rank_own ta' tn' tc' t wr hIt (by omega) (by omega))
    have hg12 : g1 < wr.heap.size ∧ g2 < wr.heap.size := ⟨(hJ.o1.lt _ rfl).2, (hJ.o2.lt _ rfl).2⟩
    obtain ⟨hg1, hg2⟩ := hg12
    clear hxk htl hrl hIt hJ
    go_wp2_with fail
    refine hRO.out.mono ?_
    rintro e w3 ⟨g3, c3, rfl, o3, l3a, l3b, hB3⟩
    have HJ3 := Lib.hid (HJ.out.below hB3)
    have HO3 := Lib.hid o3
    clear hRO hB3 o3
    go_wp2_with fail
    go_loopw [43] (fun i wv => ∃ j : Nat, i = .int .i64 j ∧ j ≤ tn' ∧ RgJ W w1 g1 c1 g2 c2 tn' (mixI min (mixTo min x k) (rankL t) j) (mixI max (mixTo max x k) (rankL t) j) (.slice none 0 0) wv ∧ OwnInts wv wr.heap.size 3 (.slice (some ⟨g3, 0, none⟩) tn' c3) (rankL t)) (fun i _ => tn' - (intOf i).toNat)
    case atStart => exact ⟨0, rfl, by omega, by rw [mixI_zero, mixI_zero]; exact HJ3.out, HO3.out⟩
    case round =>
     clear HJ3 HO3
     obtain ⟨j, rfl, hj, hJv, hOv⟩ := hrel
     have hlB : (mixTo min x k).length = tn' := by rw [HTN.out]; exact mixTo_len HNE.out HCS.out k
     have hlW : (mixTo max x k).length = tn' := by rw [HTN.out]; exact mixTo_len HNE.out HCS.out k
     by_cases hltj : j < tn'
     · obtain ⟨p, hp⟩ : ∃ p, (mixTo min x k)[j]? = some p := ⟨_, List.getElem?_eq_getElem (by rw [hlB]; exact hltj)⟩
       obtain ⟨q, hq⟩ : ∃ q, (mixTo max x k)[j]? = some q := ⟨_, List.getElem?_eq_getElem (by rw [hlW]; exact hltj)⟩
       obtain ⟨r, hr⟩ : ∃ r, (rankL t)[j]? = some r := ⟨_, List.getElem?_eq_getElem (by rw [HRL.out]; exact hltj)⟩
       have hgp := mixI_get (f := min) (r := rankL t) (by rw [hlB]; exact hj) (by rw [HRL.out]; exact hj) hp
       have hgq := mixI_get (f := max) (r := rankL t) (by rw [hlW]; exact hj) (by rw [HRL.out]; exact hj) hq
       obtain ⟨d0, d1, _⟩ := hJv.b2.g3
       have e1 := (own_ints hJv.o1 hJv.l1).get hgp
       have e2 := (own_ints hJv.o2 hJv.l2).get hgq
       have e3 := (own_ints hOv HRL.out).get hr
       simp only [Nat.zero_add] at e1 e2 e3
       have hz1 := hJv.o1
       have hz2 := hJv.o2
       have hz3 := hOv
       unfold OwnInts at hz1 hz2 hz3
       rw [hJv.l1] at hz1
       rw [hJv.l2] at hz2
       rw [HRL.out] at hz3
       obtain ⟨_, ez1, _, hb1, f1⟩ := own_spot hz1 (by omega)
       obtain ⟨_, ez2, _, hb2, f2⟩ := own_spot hz2 (by omega)
       obtain ⟨_, ez3, _, hb3, _⟩ := own_spot hz3 (by omega)
       injection ez1 with ez1; injection ez1 with ez1 _
       injection ez2 with ez2; injection ez2 with ez2 _
       injection ez3 with ez3; injection ez3 with ez3 _
       subst ez1 ez2 ez3
       have f1j := f1 j
       have f2j := f2 j
       have hg31 : g3 ≠ g1 := by omega
       have hg32 : g3 ≠ g2 := by omega
       have HM1 := Lib.hid (mixI_step (f := min) hp hr)
       have HM2 := Lib.hid (mixI_step (f := max) hq hr)
       have HN : Hid (RgJ W w1 g1 c1 g2 c2 tn' (mixI min (mixTo min x k) (rankL t) (j + 1)) (mixI max (mixTo max x k) (rankL t) (j + 1)) (.slice none 0 0) ((wr.setCell ⟨g1, j, none⟩ (.int .i64 (min p r))).setCell ⟨g2, j, none⟩ (.int .i64 (max q r)))) := Lib.hid (by rw [HM1.out, HM2.out]; exact hJv.mix hne hxw hltj _ _)
       have HO : Hid (OwnInts ((wr.setCell ⟨g1, j, none⟩ (.int .i64 (min p r))).setCell ⟨g2, j, none⟩ (.int .i64 (max q r))) _ 3 (.slice (some ⟨g3, 0, none⟩) tn' c3) (rankL t)) := Lib.hid ((hOv.setOther _ (by simp [Value.ownBlock]; exact hg31)).setOther _ (by simp [Value.ownBlock]; exact hg32))
       have y0 : (0 : Int) ≤ (j : Int) := by omega
       have y1 : (j : Int) < (tn' : Int) := by omega
       clear hJv hOv hz1 hz2 hz3 f1 f2 hp hq hr hgp hgq hlB hlW
       go_wp2_with fail
       go_region
       go_wp2_with fail
       go_roundw
       case rel => exact ⟨j + 1, by go_num, by omega, HN.out.below (Below.refl _ _).drew, HO.out.below (Below.refl _ _).drew⟩
       case measure => simp [intOf]; omega
     · obtain rfl : tn' = j := by omega
       have hS1 := mixTo_step (f := min) HXK.out
       have hS2 := mixTo_step (f := max) HXK.out
       have hE1 : mixI min (mixTo min x k) (rankL t) tn' = mixTo min x (k + 1) := by rw [hS1, ← mixI_all (by rw [hlB, HRL.out]), hlB]
       have hE2 : mixI max (mixTo max x k) (rankL t) tn' = mixTo max x (k + 1) := by rw [hS2, ← mixI_all (by rw [hlW, HRL.out]), hlW]
       rw [hE1, hE2] at hJv
       have HJv := Lib.hid hJv
       clear hJv hOv hS1 hS2 hE1 hE2 hlB hlW
       go_wp2_with fail
       go_roundw
       case rel => exact ⟨k + 1, by go_num, by omega, HJv.out⟩
       case measure => simp [intOf]; omega
  · obtain rfl : xn = k := by omega
    have hJx := hJ
    rw [show mixTo min x xn = bestL x by rw [← mixTo_best, HR1.out.rows.len], show mixTo max x xn = worstL x by rw [← mixTo_worst, HR1.out.rows.len]] at hJx
    have HJ := Lib.hid hJx
    have hb1 := HB1.out.kept hJ.kp (by omega) (by omega)
    clear hJ hJx
    obtain ⟨d0, d1, d2, d3, d4, d5⟩ := hb1.g6
    obtain ⟨C, hC⟩ : ∃ C : Nat, S.sh.cs = (C : Int) := ⟨S.sh.cs.toNat, by omega⟩
    have HC := Lib.hid hC
    rw [hC] at d0
    have hC4 : C ≤ 4 := by omega
    have hCt : tn = C := by rw [HTN.out, hC]; exact Int.toNat_natCast C
    subst hCt
    clear hC hb1
    go_wp2_with fail
    go_loopw [74] (fun i wr => ∃ a : Nat, i = .int .i64 a ∧ a ≤ tn ∧ RgU W w1 g1 c1 g2 c2 tn (bestL x) (worstL x) (undTo x tn a) wr) (fun i _ => tn - (intOf i).toNat)
    case atStart => exact ⟨0, rfl, by omega, _, HJ.out, OwnSL.nil _ _ _ _ _, by simp [Value.ownBlock], by simp [Value.ownBlock]⟩
    case round =>
     clear HJ d0 d1 d2 d3 d4 d5
     obtain ⟨a, rfl, ha, hU⟩ := hrel
     by_cases hlta : a < tn
     rotate_left
     · obtain rfl : tn = a := by omega
       obtain ⟨uv, hJ, hO, _⟩ := hU
       obtain ⟨ua, uc, rfl, hSL⟩ := hO.sl encPr_len
       obtain ⟨d0, d1, d2⟩ := hJ.b2.g3
       have f0 := hJ.b2.frozen 0
       have f1 := hJ.b2.frozen 1
       have f2 := hJ.b2.frozen 2
       have hy := ((hJ.b2.set 0 (.slice (some ⟨g1, 0, none⟩) tn c1)).set 1 (.slice (some ⟨g2, 0, none⟩) tn c2)).set 2 (.slice ua (undTo x tn tn).length uc)
       simp only [s_t, s_z, s_s] at hy
       obtain ⟨y0, y1, y2⟩ := hy.g3
       have hbW : W.heap.size ≤ W.heap.size + 1 := by omega
       have HK : Hid (RetRk W (rkOf S.sh x) 0 (.returned (.tuple #[.agg #[.slice (some ⟨g1, 0, none⟩) tn c1, .slice (some ⟨g2, 0, none⟩) tn c2, .slice ua (undTo x tn tn).length uc], .int .i64 0])) (((wr.setCell ⟨W.heap.size + 1, 0, none⟩ (.slice (some ⟨g1, 0, none⟩) tn c1)).setCell ⟨W.heap.size + 1, 1, none⟩ (.slice (some ⟨g2, 0, none⟩) tn c2)).setCell ⟨W.heap.size + 1, 2, none⟩ (.slice ua (undTo x tn tn).length uc))) := by
        have hg1 : w1.heap.size ≤ g1 := (hJ.o1.lt _ rfl).1
        have hg2 : w1.heap.size ≤ g2 := (hJ.o2.lt _ rfl).1
        have hlu := hO.lt
        have q1 : (Value.slice (some (⟨g1, 0, none⟩ : Addr)) tn c1).ownBlock ≠ some (W.heap.size + 1) := by simp [Value.ownBlock]; omega
        have q2 : (Value.slice (some (⟨g2, 0, none⟩ : Addr)) tn c2).ownBlock ≠ some (W.heap.size + 1) := by simp [Value.ownBlock]; omega
        have q3 : (Value.slice ua (undTo x tn tn).length uc).ownBlock ≠ some (W.heap.size + 1) := fun e => by have := (hlu _ e).1; omega
        refine Lib.hid ⟨⟨rkOf S.sh x, some ⟨g1, 0, none⟩, tn, c1, some ⟨g2, 0, none⟩, tn, c2, ua, (undTo x tn tn).length, uc⟩, rfl, rfl, ⟨?_, ?_, ?_⟩, ⟨(fun q e => by have := hJ.bel.size; have h1 := hJ.kp.1; simp only [Value.ownBlock, Option.some.injEq] at e; omega), (fun q e => by simp only [Value.ownBlock, Option.some.injEq] at e; omega), (fun q e => by have := (hlu _ e).1; omega)⟩, ((hJ.bel.setCell hbW _).setCell hbW _).setCell hbW _⟩
        · exact (((own_ints hJ.o1 hJ.l1).setOther _ (fun _ => q1)).setOther _ (fun _ => q1)).setOther _ (fun _ => q1)
        · exact (((own_ints hJ.o2 hJ.l2).setOther _ (fun _ => q2)).setOther _ (fun _ => q2)).setOther _ (fun _ => q2)
        · have h3 : SL encPr 2 wr ua (undTo x tn tn).length uc (undL x S.sh.cs.toNat) := by
           rw [HC.out, Int.toNat_natCast, ← undTo_all]; exact hSL
          exact ((h3.setOther _ (fun _ => q3)).setOther _ (fun _ => q3)).setOther _ (fun _ => q3)
       obtain ⟨un, hun⟩ : ∃ un, (undTo x tn tn).length = un := ⟨_, rfl⟩
       have kl := hJ.b2.lt
       rw [hun] at HK y0 y1 y2 d2
       clear hJ hO hSL hy hun
       go_wp2_with fail
       refine bodyPost_ret (v := .tuple #[.agg #[.slice (some ⟨g1, 0, none⟩) tn c1, .slice (some ⟨g2, 0, none⟩) tn c2, .slice ua un uc], .int .i64 0]) (by simp [results, Tryz.results36, go_sem, y0, y1, y2]) rfl ?_
       rw [HRK.out, HE.out]
       exact HK.out
     obtain ⟨wo, hwo⟩ : ∃ wo, wo = wr := ⟨_, rfl⟩
     rw [← hwo] at hU ⊢
     clear hwo
     have hba : Below wo.heap.size wo ((wo.alloc (.cells #[.int .i64 (a : Int)] 3)).alloc (.cells #[.int .i64 ((a : Int) + 1)] 3)) := ((Below.refl _ _).alloc (Nat.le_refl _) _).alloc (by simp) _
     have hXa : Box ((wo.alloc (.cells #[.int .i64 (a : Int)] 3)).alloc (.cells #[.int .i64 ((a : Int) + 1)] 3)) wo.heap.size #[.int .i64 (a : Int)] 3 := (Box.new wo _ _).alloc _
     have hXb := Box.new (wo.alloc (.cells #[.int .i64 (a : Int)] 3)) #[.int .i64 ((a : Int) + 1)] 3
     rw [World.size_alloc] at hXb
     have hwo1 : w1.heap.size ≤ wo.heap.size := by obtain ⟨uv, hJ, _⟩ := hU; exact hJ.kp.1
     have HU0 := Lib.hid (hU.below hba)
     have HXA := Lib.hid hXa
     have HXB := Lib.hid hXb
     clear hU hba hXa hXb
     go_wp2_with fail
     obtain ⟨Ba, hBa⟩ : ∃ Ba, wo.heap.size = Ba := ⟨_, rfl⟩
     rw [hBa] at HXA HXB hwo1 ⊢
     go_loopw [12] (fun p wv => ∃ b Bb : Nat, p = .pointer (some ⟨Bb, 0, none⟩) ∧ a + 1 ≤ b ∧ b ≤ tn ∧ Box wv Bb #[.int .i64 (b : Int)] 3 ∧ Box wv Ba #[.int .i64 (a : Int)] 3 ∧ W.heap.size + 1 < Bb ∧ RgU W w1 g1 c1 g2 c2 tn (bestL x) (worstL x) (undTo x tn a ++ rowTo x a b) wv) (fun p wv => tn - boxN wv p)
     case atStart => exact ⟨a + 1, Ba + 1, rfl, by omega, by omega, by have := HXB.out; push_cast; exact this, HXA.out, by omega, by rw [rowTo_zero, List.append_nil]; exact HU0.out⟩
     case round =>
      clear HU0 HXA HXB hBa
      obtain ⟨b, Bb, rfl, hb1, hb2, hXb, hXa, hBb, hU⟩ := hrel
      obtain ⟨uv, hJ, hO, hu1, hu2⟩ := hU
      have hsh := HB1.out.kept hJ.kp (by omega) (by omega)
      obtain ⟨d0, -, -, -, -, -⟩ := hsh.g6
      rw [HC.out] at d0
      have cb : wr.cell? ⟨Bb, 0, none⟩ = some (.int .i64 (b : Int)) := by simpa using hXb.cell 0
      have ca : wr.cell? ⟨Ba, 0, none⟩ = some (.int .i64 (a : Int)) := by simpa using hXa.cell 0
      by_cases hltb : b < tn
      rotate_left
      · obtain rfl : tn = b := by omega
        have HE1 : Hid (RgU W w1 g1 c1 g2 c2 tn (bestL x) (worstL x) (undTo x tn (a + 1)) wr) := Lib.hid (by rw [undTo_step]; exact ⟨uv, hJ, hO, hu1, hu2⟩)
        clear hJ hO hu1 hu2 hXb hXa hsh
        go_wp2_with fail
        go_roundw
        case rel => exact ⟨a + 1, by go_num, by omega, HE1.out⟩
        case measure => simp [intOf]; omega
      obtain ⟨xa2, xn2, xc2, c0, hT⟩ := (HR1.out.kept hJ.kp hw01).rows.nth HH.out
      rw [Nat.add_zero] at c0
      have hxn2 : xn2 = tn := by rw [← hT.len, HTL.out, HTN.out]
      subst hxn2
      obtain ⟨tb, to', rfl, htb⟩ := hT.at' (by omega)
      obtain ⟨va, hva⟩ := hT.has (i := a) (by omega)
      obtain ⟨vb, hvb⟩ := hT.has (i := b) (by omega)
      have ea := hT.get hva
      have eb := hT.get hvb
      have hm0 := hT.mx
      have hc0 := hT.cap
      unfold maxLen at hm0
      have HVA := Lib.hid hva
      have HVB := Lib.hid hvb
      have HJ := Lib.hid hJ
      have HOU := Lib.hid hO
      have HU1 := Lib.hid hu1
      have HU2 := Lib.hid hu2
      have HXA := Lib.hid hXa
      have HXB := Lib.hid hXb
      have s0 : (0 : Int) ≤ (a : Int) := by omega
      have s1 : (a : Int) < (xn2 : Int) := by omega
      have s2 : (0 : Int) ≤ (b : Int) := by omega
      have s3 : (b : Int) < (xn2 : Int) := by omega
      clear hT hva hvb hJ hO hu1 hu2 hXa hXb hsh
      go_wp2_with fail
      apply region_fix (R := fun w' => w' = wr.drew.alloc (.cells #[.int .i64 (sgnI va vb)] 3))
      · refine wp_region_held_drew (S := fun w' => w'.cell? ⟨xb, xo, none⟩ = some (.slice (some ⟨tb, to', none⟩) xn2 xc2) ∧ w'.cell? ⟨Ba, 0, none⟩ = some (.int .i64 (a : Int)) ∧ w'.cell? ⟨Bb, 0, none⟩ = some (.int .i64 (b : Int)) ∧ w'.cell? ⟨tb, to' + a, none⟩ = some (.int .i64 va) ∧ w'.cell? ⟨tb, to' + b, none⟩ = some (.int .i64 vb)) (by kernel_rfl) ⟨c0, ca, cb, ea, eb⟩ (fun hS => ?_)
        refine wpAnyH_take (i := 0) (v := ?_) rfl (by kernel_rfl) (by kernel_rfl) (by kernel_rfl) NormQ.hq (Or.inl ⟨by rfl, ?_⟩) (by assumption) ?_
        rotate_left
        focus
         intro w hSw
         (try dsimp only at hSw)
         (try go_split_ands)
         go_simp
         try with_reducible rfl
        (try simp only [Act.put, l_t, l_z, s_t, s_z, s_s])
        refine wpAnyH_take (i := 1) (v := ?_) rfl (by kernel_rfl) (by kernel_rfl) (by kernel_rfl) NormQ.hq (Or.inl ⟨by rfl, ?_⟩) (by assumption) ?_
        rotate_left
        focus
         intro w hSw
         (try dsimp only at hSw)
         (try go_split_ands)
         go_simp
         try with_reducible rfl
        (try simp only [Act.put, l_t, l_s, l_z, s_t, s_z, s_s])
        refine wpAnyH_take (i := 2) (v := ?_) rfl (by kernel_rfl) (by kernel_rfl) (by kernel_rfl) NormQ.hq (Or.inl ⟨by rfl, ?_⟩) (by assumption) ?_
        rotate_left
        focus
         intro w hSw
         (try dsimp only at hSw)
         (try go_split_ands)
         go_simp
         try with_reducible rfl
        (try simp only [Act.put, l_t, l_s, l_z, s_t, s_z, s_s])
        refine wpAnyH_take (i := 3) (v := ?_) rfl (by kernel_rfl) (by kernel_rfl) (by kernel_rfl) NormQ.hq (Or.inl ⟨by rfl, ?_⟩) (by assumption) ?_
        rotate_left
        focus
         intro w hSw
         (try dsimp only at hSw)
         (try go_split_ands)
         go_simp
         try with_reducible rfl
        (try simp only [Act.put, l_t, l_s, l_z, s_t, s_z, s_s])
        refine wpAnyH_take (i := 4) (v := ?_) rfl (by kernel_rfl) (by kernel_rfl) (by kernel_rfl) NormQ.hq (Or.inl ⟨by rfl, ?_⟩) (by assumption) ?_
        rotate_left
        focus
         intro w hSw
         (try dsimp only at hSw)
         (try go_split_ands)
         go_simp
         try with_reducible rfl
        (try simp only [Act.put, l_t, l_s, l_z, s_t, s_z, s_s])
        refine wpAnyH_take (i := 5) (v := ?_) rfl (by kernel_rfl) (by kernel_rfl) (by kernel_rfl) NormQ.hq (Or.inl ⟨by rfl, ?_⟩) (by assumption) ?_
        rotate_left
        focus
         intro w hSw
         (try dsimp only at hSw)
         (try go_split_ands)
         go_simp
         try with_reducible rfl
        (try simp only [Act.put, l_t, l_s, l_z, s_t, s_z, s_s])
        refine wpAnyH_take (i := 6) (v := ?_) rfl (by kernel_rfl) (by kernel_rfl) (by kernel_rfl) NormQ.hq (Or.inl ⟨by rfl, ?_⟩) (by assumption) ?_
        rotate_left
        focus
         intro w hSw
         (try dsimp only at hSw)
         (try go_split_ands)
         go_simp
         try with_reducible rfl
        (try simp only [Act.put, l_t, l_s, l_z, s_t, s_z, s_s])
        refine wpAnyH_take (i := 7) (v := ?_) rfl (by kernel_rfl) (by kernel_rfl) (by kernel_rfl) NormQ.hq (Or.inl ⟨by rfl, ?_⟩) (by assumption) ?_
        rotate_left
        focus
         intro w hSw
         (try dsimp only at hSw)
         (try go_split_ands)
         go_simp
         try with_reducible rfl
        (try simp only [Act.put, l_t, l_s, l_z, s_t, s_z, s_s])
        refine wpAnyH_take (i := 8) (v := ?_) rfl (by kernel_rfl) (by kernel_rfl) (by kernel_rfl) NormQ.hq (Or.inl ⟨by rfl, ?_⟩) (by assumption) ?_
        rotate_left
        focus
         intro w hSw
         (try dsimp only at hSw)
         (try go_split_ands)
         go_simp
         try with_reducible rfl
        (try simp only [Act.put, l_t, l_s, l_z, s_t, s_z, s_s])
        refine wpAnyH_take (i := 9) (v := ?_) rfl (by kernel_rfl) (by kernel_rfl) (by kernel_rfl) NormQ.hq (Or.inl ⟨by rfl, ?_⟩) (by assumption) ?_
        rotate_left
        focus
         intro w hSw
         (try dsimp only at hSw)
         (try go_split_ands)
         go_simp
         try with_reducible rfl
        (try simp only [Act.put, l_t, l_s, l_z, s_t, s_z, s_s])
        refine wpAnyH_take (i := 10) (v := ?_) rfl (by kernel_rfl) (by kernel_rfl) (by kernel_rfl) NormQ.hq (Or.inl ⟨by rfl, ?_⟩) (by assumption) ?_
        rotate_left
        focus
         intro w hSw
         (try dsimp only at hSw)
         (try go_split_ands)
         go_simp
         try with_reducible rfl
        (try simp only [Act.put, l_t, l_s, l_z, s_t, s_z, s_s])
        refine wpAnyH_take (i := 11) (v := ?_) rfl (by kernel_rfl) (by kernel_rfl) (by kernel_rfl) NormQ.hq (Or.inl ⟨by rfl, ?_⟩) (by assumption) ?_
        rotate_left
        focus
         intro w hSw
         (try dsimp only at hSw)
         (try go_split_ands)
         go_simp
         try with_reducible rfl
        (try simp only [Act.put, l_t, l_s, l_z, s_t, s_z, s_s])
        obtain ⟨h1, h2, h3, h4', h5⟩ := hS
        refine wpAnyH_ready (rs := [12, 13]) (by kernel_rfl) (by simp) (AllReadyH.cons rfl (fun K hK => ?_) (AllReadyH.cons rfl (fun K hK => ?_) AllReadyH.nil))
        · skip
          go_simp
          go_at_call 53
          refine (compare_any va vb _).mono ?_
          rintro e w' ⟨rfl, rfl⟩
          refine hK.out _ _ (⟨h1, h2, h3, h4', h5⟩) (fun hS => ?_)
          clear hK K
          (try simp only [Act.put, l_t, l_s, l_z, s_t, s_z, s_s])
          refine wpAnyH_ready (rs := [13]) (by kernel_rfl) (by simp) (AllReadyH.cons rfl (fun K hK => ?_) AllReadyH.nil)
          go_simp
          refine hK.out _ _ (⟨cell_alloc h1 _, cell_alloc h2 _, cell_alloc h3 _, cell_alloc h4' _, cell_alloc h5 _⟩) (fun hS => ?_)
          clear hK K
          (try simp only [Act.put, l_t, l_s, l_z, s_t, s_z, s_s])
          refine wpAnyH_ready (rs := [14]) (by kernel_rfl) (by simp) (AllReadyH.cons rfl (fun K hK => ?_) AllReadyH.nil)
          go_simp
          refine hK.out _ _ (⟨cell_alloc h1 _, cell_alloc h2 _, cell_alloc h3 _, cell_alloc h4' _, cell_alloc h5 _⟩) (fun hS => ?_)
          clear hK K
          (try simp only [Act.put, l_t, l_s, l_z, s_t, s_z, s_s])
          refine wpAnyH_done (by kernel_rfl) ?_ _
          exact ⟨rfl, rfl, rfl⟩
        · skip
          go_simp
          refine hK.out _ _ (⟨cell_alloc h1 _, cell_alloc h2 _, cell_alloc h3 _, cell_alloc h4' _, cell_alloc h5 _⟩) (fun hS => ?_)
          clear hK K
          (try simp only [Act.put, l_t, l_s, l_z, s_t, s_z, s_s])
          refine wpAnyH_ready (rs := [12]) (by kernel_rfl) (by simp) (AllReadyH.cons rfl (fun K hK => ?_) AllReadyH.nil)
          go_simp
          go_at_call 53
          refine (compare_any va vb _).mono ?_
          rintro e w' ⟨rfl, rfl⟩
          refine hK.out _ _ (⟨cell_alloc h1 _, cell_alloc h2 _, cell_alloc h3 _, cell_alloc h4' _, cell_alloc h5 _⟩) (fun hS => ?_)
          clear hK K
          (try simp only [Act.put, l_t, l_s, l_z, s_t, s_z, s_s])
          refine wpAnyH_ready (rs := [14]) (by kernel_rfl) (by simp) (AllReadyH.cons rfl (fun K hK => ?_) AllReadyH.nil)
          go_simp
          refine hK.out _ _ (⟨cell_alloc h1 _, cell_alloc h2 _, cell_alloc h3 _, cell_alloc h4' _, cell_alloc h5 _⟩) (fun hS => ?_)
          clear hK K
          (try simp only [Act.put, l_t, l_s, l_z, s_t, s_z, s_s])
          refine wpAnyH_done (by kernel_rfl) ?_ _
          exact ⟨rfl, rfl, rfl⟩
      rintro w3 rfl
      have hbz : Below wr.heap.size wr (wr.drew.alloc (.cells #[.int .i64 (sgnI va vb)] 3)) := (Below.refl _ _).drew.alloc (by exact Nat.le_refl _) _
      have hXf : Box (wr.drew.alloc (.cells #[.int .i64 (sgnI va vb)] 3)) wr.heap.size #[.int .i64 (sgnI va vb)] 3 := Box.new wr.drew _ _
      obtain ⟨wz, hwz⟩ : ∃ wz, wr.drew.alloc (.cells #[.int .i64 (sgnI va vb)] 3) = wz := ⟨_, rfl⟩
      rw [hwz] at hbz hXf ⊢
      clear hwz c0 ca cb ea eb d0
      have HJz := Lib.hid (HJ.out.below hbz)
      have HOz := Lib.hid (HOU.out.below hbz)
      have HXAz := Lib.hid (HXA.out.below hbz)
      have HXBz := Lib.hid (HXB.out.below hbz)
      have hRC := Lib.hid (row_contains 55 #[.pointer (some ⟨Ba, 0, none⟩), .pointer (some ⟨Bb, 0, none⟩), .pointer (some ⟨wr.heap.size, 0, none⟩)] (some ⟨xb, xo, none⟩) xn xc x (fun t => sgnI (t.getD a 0) (t.getD b 0) != sgnI va vb) wz (enters_of Tryz.func55 (by kernel_rfl) rfl) (HR1.out.kept HJz.out.kp hw01).rows
       (fun t ht ta3 n3 c3 W' hb hI => rank1_any ta3 n3 c3 t a b (t.getD a 0) (t.getD b 0) (sgnI va vb) Ba Bb wr.heap.size W' hI
        (by rw [List.getD_eq_getElem?_getD, List.getElem?_eq_getElem (by rw [HCS.out t ht, ← HTN.out]; omega)]; rfl) (by rw [List.getD_eq_getElem?_getD, List.getElem?_eq_getElem (by rw [HCS.out t ht, ← HTN.out]; omega)]; rfl)
        (by simpa using (HXAz.out.below hb).cell 0) (by simpa using (HXBz.out.below hb).cell 0) (by simpa using (hXf.below hb).cell 0)))
      have hva0 : va = t0.getD a 0 := by rw [List.getD_eq_getElem?_getD, HVA.out]; rfl
      have hvb0 : vb = t0.getD b 0 := by rw [List.getD_eq_getElem?_getD, HVB.out]; rfl
      rw [show (x.any fun t => sgnI (t.getD a 0) (t.getD b 0) != sgnI va vb) = undB x a b by rw [hva0, hvb0]; exact undB_any x a b HX0.out] at hRC
      clear hva0 hvb0 hXf
      go_wp2_with fail
      refine hRC.out.mono ?_
      rintro e w4 ⟨rfl, hB4⟩
      clear hRC
      have hJ4 := HJz.out.below hB4
      have hO4 := HOz.out.below hB4
      have HXA4 := Lib.hid (HXAz.out.below hB4)
      have HXB4 := Lib.hid (HXBz.out.below hB4)
      have hRT := rowTo_step (x := x) (show a < b by omega)
      have cb4 : w4.cell? ⟨Bb, 0, none⟩ = some (.int .i64 (b : Int)) := by simpa using HXB4.out.cell 0
      have ca4 : w4.cell? ⟨Ba, 0, none⟩ = some (.int .i64 (a : Int)) := by simpa using HXA4.out.cell 0
      have hba4 := HXA4.out.lt
      have hbb4 := HXB4.out.lt
      cases hub : undB x a b
      · rw [hub] at hRT
        have HUE : Hid (RgU W w1 g1 c1 g2 c2 xn2 (bestL x) (worstL x) (undTo x xn2 a ++ rowTo x a (b + 1)) w4) := Lib.hid ⟨uv, hJ4, by rw [hRT]; simpa using hO4, HU1.out, HU2.out⟩
        have HXE := HXA4
        clear hub hRT hJ4 hO4
        go_wp2_with fail
        go_roundw
        case rel => exact ⟨b + 1, w4.heap.size, rfl, by omega, by omega, by have := Box.new w4 #[.int .i64 ((b : Int) + 1)] 3; push_cast; exact this, HXE.out.alloc _, by have := HUE.out; obtain ⟨_, h, _⟩ := this; have := h.kp.1; omega, HUE.out.below (al0 _ _ _)⟩
        case measure =>
         have e1 := boxN_of HXB.out
         have e2 := boxN_of (show Box (w4.alloc (.cells #[.int .i64 ((b : Int) + 1)] 3)) w4.heap.size #[.int .i64 ((b + 1 : Nat) : Int)] 3 from by have := Box.new w4 #[.int .i64 ((b : Int) + 1)] 3; push_cast; exact this)
         rw [e1, e2]; omega
      · rw [hub] at hRT
        obtain ⟨un, hun⟩ : ∃ un, (undTo x xn2 a ++ rowTo x a b).length = un := ⟨_, rfl⟩
        have hun2 : un ≤ 32 := by
         have := undTo_len x xn2 a b (by omega)
         rw [← hun, List.length_append]
         have h3 : a * xn2 ≤ 4 * 4 := Nat.mul_le_mul (by omega) (by omega)
         omega
        obtain ⟨ua, uc, rfl, _, _⟩ := own_slice hO4
        rw [hun] at hJ4 hO4 HU1 HU2
        have hown := hO4
        unfold OwnSL at hown
        rw [hun] at hown
        obtain ⟨_, _, d2⟩ := hJ4.b2.g3
        have f2 := hJ4.b2.frozen 2
        have l2 := hJ4.b2.lt
        have hsw4 := hJ4.kp.1
        obtain ⟨i22, hi22, hz220, hz221, hz222⟩ := info_parts info_pr
        have HJ4 := Lib.hid hJ4
        have HRT := Lib.hid hRT
        have HUN := Lib.hid hun
        have hlu := World.ownsRow.lt hown
        have HLU := Lib.hid hlu
        clear hub hRT hJ4 hO4 hun hlu
        go_wp2_with (at_builtin; refine wpList_append_own2 _ rfl _ _ 33 rfl w1.heap.size 84 i22 (.agg #[.int .i64 0, .int .i64 0]) 2 16 Tryz.underlying33 hi22 hz220 hz221 hz222 rfl (by decide) _ _ _ (hown.alloc _) rfl ⟨_, 0, none⟩ 1 1 [.int .i64 (a : Int), .int .i64 (b : Int)] rfl rfl (new2 _ _ _ _) (by simp [Value.oneCell']) (by unfold maxLen; omega) (by omega) (by first | omega | (simp; omega)) ?_; intro v' w5 hown' hgrow hfr; obtain ⟨va', vc', rfl, k5, f5, l5, hXA6, hXB6, hU6⟩ := app_facts HJ4.out hxw hown HU1.out HU2.out HXA4.out HXB4.out (by omega) hBb hown' HUN.out hgrow hfr; have HXA6 := Lib.hid hXA6; have HXB6 := Lib.hid hXB6; have HU6 := Lib.hid hU6; have cb6 := hXB6.cell 0; simp only [List.getElem?_toArray, List.getElem?_cons_zero] at cb6; clear hXA6 hXB6 hU6 hown' hgrow hfr hown)
        obtain ⟨w6, hw6⟩ : ∃ w6, w5.setCell ⟨W.heap.size + 1, 2, none⟩ (.slice va' (un + 1) vc') = w6 := ⟨_, rfl⟩
        have hs6 : w5.heap.size = w6.heap.size := by rw [← hw6]; simp [World.setCell]
        rw [hw6] at HXA6 HXB6 HU6 ⊢
        rw [hs6]
        have HUE : Hid (RgU W w1 g1 c1 g2 c2 xn2 (bestL x) (worstL x) (undTo x xn2 a ++ rowTo x a (b + 1)) w6) := Lib.hid (by rw [HRT.out]; simp only [if_true, ← List.append_assoc]; exact HU6.out)
        have HXE := HXA6
        go_roundw
        case rel => exact ⟨b + 1, w6.heap.size, rfl, by omega, by omega, by have := Box.new w6 #[.int .i64 ((b : Int) + 1)] 3; push_cast; exact this, HXE.out.alloc _, by have := HUE.out; obtain ⟨_, h, _⟩ := this; have := h.kp.1; omega, HUE.out.below (al0 _ _ _)⟩
        case measure =>
         have e1 := boxN_of HXB.out
         have e2 := boxN_of (show Box (w6.alloc (.cells #[.int .i64 ((b : Int) + 1)] 3)) w6.heap.size #[.int .i64 ((b + 1 : Nat) : Int)] 3 from by have := Box.new w6 #[.int .i64 ((b : Int) + 1)] 3; push_cast; exact this)
         rw [e1, e2]; omega
end Go.Proofs.YtehoidohallfcaaGreatDoor
