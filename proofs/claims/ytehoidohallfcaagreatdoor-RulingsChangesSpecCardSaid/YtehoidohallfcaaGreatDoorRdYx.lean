/- push: what its regions make, word by word; the operation 1. -/
import Derived.Test.YtehoidohallfcaaGreatDoorRdOx
import Derived.Test.YtehoidohallfcaaGreatDoorLaX
namespace Go.Proofs.YtehoidohallfcaaGreatDoor
open Go.RowKit
section
variable {P : Program} {Q : Exit → Act → World → Prop}
theorem region_ex {α : Type} {c : Code} {a : Act} {w : World} {R : α → World → Prop} {F : α → Act}
 (h : c.wp P (NormQ fun _ a' w' => ∃ x, a' = F x ∧ R x w') a w) (hk : ∀ x w', R x w' → Q .normal (F x) w') : c.wp P Q a w :=
 wp_mono h fun e a' w' ⟨he, x, ha, hr⟩ => by subst he ha; exact hk _ _ hr
theorem region_ex2 {α β : Type} {c : Code} {a : Act} {w : World} {R : α → β → World → Prop} {F : α → β → Act}
 (h : c.wp P (NormQ fun _ a' w' => ∃ x y, a' = F x y ∧ R x y w') a w) (hk : ∀ x y w', R x y w' → Q .normal (F x y) w') : c.wp P Q a w :=
 wp_mono h fun e a' w' ⟨he, x, y, ha, hr⟩ => by subst he ha; exact hk _ _ _ hr
end
theorem encPe_len : ∀ x, (encPe x).length = 2 := fun _ => rfl
theorem SL.flatC {α : Type} {enc : α → List Value} {k : Nat} {w : World} {a : Option Addr} {n c : Nat} {l : List α} (h : SL enc k w a n c l) (hk : ∀ x, (enc x).length = k) (hk0 : 0 < k) :
 ∀ ad, a = some ad → ∀ j u, (l.flatMap enc)[j]? = some u → w.cell? (ad.add j) = some u := by
 intro ad e j u hu
 have hj := (List.getElem?_eq_some_iff.1 hu).1
 rw [flat_len hk] at hj
 have hi : j / k < l.length := Nat.div_lt_of_lt_mul (by rw [Nat.mul_comm]; exact hj)
 obtain ⟨x, hx⟩ : ∃ x, l[j / k]? = some x := ⟨_, List.getElem?_eq_getElem hi⟩
 have hm : j % k < k := Nat.mod_lt _ hk0
 have hje : j / k * k + j % k = j := by rw [Nat.mul_comm]; exact Nat.div_add_mod j k
 have hg := flat_get hk l _ x hx _ hm
 rw [hje, hu] at hg
 obtain ⟨b, o, e2, _⟩ := h.at' (by rw [← h.len]; exact Nat.lt_of_le_of_lt (Nat.zero_le _) hi)
 rw [e] at e2
 injection e2 with e2
 subst e2; subst e
 have := h.cell b o rfl _ x hx _ u hg.symm
 rw [Nat.add_assoc, hje] at this
 rw [Addr.add_mid]; exact this
theorem SL.nilN {α : Type} {enc : α → List Value} {k : Nat} {w : World} {a : Option Addr} {n c : Nat} {l : List α} (h : SL enc k w a n c l) : a = none → n = 0 := fun e => by
 rcases Nat.eq_zero_or_pos n with h0 | h0
 · exact h0
 · obtain ⟨b, o, e2, _⟩ := h.at' h0
   rw [e] at e2; cases e2
inductive Kd
 | e
 | r (n : Nat) (xs : List Value)
 | s
 | t (m : Nat)
 | b (c : Bool)
 | p (c : Bool)
 | pp (c : Bool) (u : Value)
 | i
 | q
 | no
def Fk (B : Nat) : Kd → Value → World → Prop
 | .e, v, w => ∃ a0, v = .slice a0 0 0 ∧ w.ownsRow B 264 2 v 0 []
 | .r n xs, v, w => w.ownsRow B 264 2 v n xs
 | .s, v, _ => ∃ s, v = .string s
 | .t m, v, w => ∃ (b : Nat) (S : List ByteArray), v = .slice (some ⟨b, 0, none⟩) m m ∧ Box w b (S.map Value.string).toArray 9 ∧ S.length = m
 | .b c, v, w => ∃ (b : Nat) (s : ByteArray), v = .agg #[.bool c, .slice (some ⟨b, 0, none⟩) 1 1] ∧ Box w b #[.string s] 9
 | .p c, v, w => ∃ (g b : Nat) (s : ByteArray), v = .slice (some ⟨g, 0, none⟩) 1 1 ∧ Box w g #[.bool c, .slice (some ⟨b, 0, none⟩) 1 1] 264 ∧ Box w b #[.string s] 9
 | .pp c u, v, w => ∃ (g : Nat), v = .slice (some ⟨g, 0, none⟩) 1 1 ∧ Box w g #[.bool c, u] 264
 | .i, v, w => ∃ a, v = .slice a 5 5 ∧ SL encStr 1 w a 5 5 nameS
 | .q, v, w => ∃ (p : Addr) (s : ByteArray), v = .pointer (some p) ∧ w.cell? p = some (.string s)
 | .no, _, _ => True
theorem Fk.below {B : Nat} : ∀ {k : Kd} {v : Value} {w w' : World}, Fk B k v w → Below w.heap.size w w' → Fk B k v w'
 | .e, _, _, _, ⟨a0, h1, h2⟩, hb => ⟨a0, h1, ownsRow_below' h2 hb⟩
 | .r _ _, _, _, _, h, hb => ownsRow_below' (show World.ownsRow _ _ _ _ _ _ _ from h) hb
 | .s, _, _, _, h, _ => h
 | .t _, _, _, _, ⟨b, S, h1, h2, h3⟩, hb => ⟨b, S, h1, h2.below hb, h3⟩
 | .b _, _, _, _, ⟨b, s, h1, h2⟩, hb => ⟨b, s, h1, h2.below hb⟩
 | .p _, _, _, _, ⟨g, b, s, h1, h2, h3⟩, hb => ⟨g, b, s, h1, h2.below hb, h3.below hb⟩
 | .pp _ _, _, _, _, ⟨g, h1, h2⟩, hb => ⟨g, h1, h2.below hb⟩
 | .i, _, _, _, ⟨a, h1, h2⟩, hb => ⟨a, h1, h2.below hb⟩
 | .q, _, _, _, ⟨p, s, h1, h2⟩, hb => ⟨p, s, h1, (hb.cell (World.block_lt_of_cell? _ _ h2)).trans h2⟩
 | .no, _, _, _, _, _ => trivial
def kindOf : List (Nat × Kd) → Nat → Kd
 | [], _ => .no
 | (i, k) :: r, j => if j = i then k else kindOf r j
def Fl (B : Nat) (l : List (Nat × Kd)) : Nat → Value → World → Prop := fun i v w => Fk B (kindOf l i) v w
theorem Fl.below {B : Nat} {l : List (Nat × Kd)} : ∀ i v (w w' : World), Fl B l i v w → Below w.heap.size w w' → Fl B l i v w' := fun _ _ _ _ h hb => Fk.below h hb
theorem info_pe : (Tryz.prog.info? 264).map (fun i => (i.zero, i.size, i.bytes)) = some (some (.agg #[.bool false, .slice none 0 0]), 2, 32) := by kernel_rfl
theorem Prts.put {W w : World} {B : Nat} {v : Value} {ps : List Pe} {m T : Nat} {cm : Bool} {a : Option Addr} {k c : Nat} {S : List ByteArray} (hb : Below W.heap.size W w)
 (h : w.ownsRow B 264 2 v (m + 1) ((ps.take m).flatMap encPe ++ [.bool cm, .slice a k c])) (hm : m ≤ ps.length) (htx : ∀ p ∈ ps, ∃ S, SL encStr 1 W p.a p.n p.c S) (hs : SL encStr 1 w a k c S) (hsum : ((ps.take m).map (·.n)).sum + k ≤ T) :
 ∃ a' n' c', v = .slice a' n' c' ∧ Prts w a' n' c' ((ps.take m).map (·.cmp) ++ [cm]) T ∧ n' = m + 1 := by
 have hO : OwnSL encPe 2 w B 264 v (ps.take m ++ [⟨cm, a, k, c⟩]) := by
  unfold OwnSL
  rw [flat_snoc, List.length_append, List.length_take, Nat.min_eq_left hm]
  exact h
 obtain ⟨a', c', rfl, hS⟩ := hO.sl encPe_len
 refine ⟨_, _, _, rfl, ⟨_, hS, by rw [List.map_append]; rfl, fun p hp => ?_, ?_⟩, by rw [List.length_append, List.length_take, Nat.min_eq_left hm]; rfl⟩
 · rcases List.mem_append.1 hp with hp | hp
   · obtain ⟨S', h'⟩ := htx p (List.mem_of_mem_take hp)
     exact ⟨S', h'.below hb⟩
   · rw [List.mem_singleton.1 hp]; exact ⟨S, hs⟩
 · rw [List.map_append, List.sum_append]; simpa using hsum
theorem one_text {w : World} {b : Nat} {s : ByteArray} (h : Box w b #[.string s] 9) : SL encStr 1 w (some ⟨b, 0, none⟩) 1 1 [s] where
 len := rfl
 cap := Nat.le_refl _
 mx := by simp [maxLen]
 at' := fun _ => ⟨b, 0, rfl, h.lt⟩
 cell := fun b' o e i x hx j v hv => by
  injection e with e
  injection e with e1 e2
  subst e1; subst e2
  have hi : i = 0 := by cases i with | zero => rfl | succ i => simp at hx
  subst hi
  have hj : j = 0 := by cases j with | zero => rfl | succ j => simp [encStr] at hv
  subst hj
  simp [encStr] at hx hv
  subst hx; subst hv
  exact h.cell 0
theorem box_texts {w : World} {b m : Nat} {S : List ByteArray} (h : Box w b (S.map Value.string).toArray 9) (hm : S.length = m) (hmx : m ≤ maxLen) : SL encStr 1 w (some ⟨b, 0, none⟩) m m S where
 len := hm
 cap := Nat.le_refl _
 mx := hmx
 at' := fun _ => ⟨b, 0, rfl, h.lt⟩
 cell := fun b' o e i x hx j v hv => by
  injection e with e
  injection e with e1 e2
  subst e1; subst e2
  have hj : j = 0 := by cases j with | zero => rfl | succ j => simp [encStr] at hv
  subst hj
  simp [encStr] at hv
  subst hv
  rw [show 0 + i * 1 + 0 = i by omega, h.cell i]
  simp [hx]
theorem own_box_ne2 {w : World} {base n k B : Nat} {e t : TypeId} {v : Value} {xs : List Value} {cs : Array Value} (h : w.ownsRow base e k v n xs) (hb : Box w B cs t) (hne : e ≠ t) : v.ownBlock ≠ some B := by
 intro he
 rcases h.2 with ⟨rfl, _⟩ | ⟨g, cap, cur, rfl, _, hg, _⟩
 · cases he
 · simp only [Value.ownBlock, Option.some.injEq] at he
   subst he
   rw [hb] at hg
   injection hg with hg
   injection hg with _ h2 _
   exact hne h2.symm
open Go.RowKit
theorem sum3 {l : List Nat} {m x y z : Nat} (hl : l.length = m + 3) (h0 : l[m]? = some x) (h1 : l[m + 1]? = some y) (h2 : l[m + 2]? = some z) : (l.take m).sum + (x + y + z) = l.sum := by
 have e0 := (List.getElem?_eq_some_iff.1 h0).2
 have e1 := (List.getElem?_eq_some_iff.1 h1).2
 have e2 := (List.getElem?_eq_some_iff.1 h2).2
 conv => rhs; rw [← List.take_append_drop m l]
 rw [List.sum_append, List.drop_eq_getElem_cons (by omega), List.drop_eq_getElem_cons (by omega), List.drop_eq_getElem_cons (by omega), List.drop_eq_nil_of_le (by omega)]
 simp only [List.sum_cons, List.sum_nil, e0, e1, e2]
 omega
theorem sum2 {l : List Nat} {m x y : Nat} (hl : l.length = m + 2) (h0 : l[m]? = some x) (h1 : l[m + 1]? = some y) : (l.take m).sum + (x + y) = l.sum := by
 have e0 := (List.getElem?_eq_some_iff.1 h0).2
 have e1 := (List.getElem?_eq_some_iff.1 h1).2
 conv => rhs; rw [← List.take_append_drop m l]
 rw [List.sum_append, List.drop_eq_getElem_cons (by omega), List.drop_eq_getElem_cons (by omega), List.drop_eq_nil_of_le (by omega)]
 simp only [List.sum_cons, List.sum_nil, e0, e1]
 omega
theorem flat_take {α : Type} {enc : α → List Value} {l : List α} {m j : Nat} {u : Value} (h : ((l.take m).flatMap enc)[j]? = some u) : (l.flatMap enc)[j]? = some u := by
 conv => lhs; rw [← List.take_append_drop m l]
 rw [List.flatMap_append, List.getElem?_append_left (List.getElem?_eq_some_iff.1 h).1]
 exact h
set_option maxRecDepth 20000 in
set_option maxHeartbeats 4000000 in
theorem rpushbad (a : Option Addr) (n c : Nat) (st : List Bool) (T : Nat) (op nn : Int) (W : World) (hP : Prts W a n c st T) (k1 : op ≠ 1) (k2 : op ≠ 2) (hb : nn ≠ 0 ∨ op < 3 ∨ 10 < op) :
 Calls Tryz.prog 164 #[.slice a n c, .agg #[.int .i64 op, .int .i64 nn]] W fun e w' => ∃ a' n' c', e = .returned (.tuple #[.slice a' n' c', .bool false]) ∧ Below W.heap.size W w' := by
 obtain ⟨ps, hps, hst, htx, hsum⟩ := hP
 obtain ⟨i9, hi9, hz90, hz91, hz92⟩ := info_parts info_pe
 have hbx := Box.new W #[.int .i64 op, .int .i64 nn] 91
 have hbb : Below W.heap.size W (W.alloc (.cells #[.int .i64 op, .int .i64 nn] 91)) := al0 _ _ _
 have HBN := Lib.hid hbx
 have HBX := Lib.hid hbb
 have HFC : Hid (∀ w, Below W.heap.size W w → ∀ ad, a = some ad → ∀ j u, (ps.flatMap encPe)[j]? = some u → w.cell? (ad.add j) = some u) := Lib.hid fun w hb => (hps.below hb).flatC encPe_len (by decide)
 have HPL := Lib.hid hps.len
 have HPS := Lib.hid hps
 have HST := Lib.hid hst
 have HTX := Lib.hid htx
 have HSUM := Lib.hid hsum
 clear hbb hbx hps hst htx hsum
 have e1 : (op == 1) = false := by simpa using k1
 have e2 : (op == 2) = false := by simpa using k2
 by_cases c1 : nn = 0
 · have g1 : (nn != 0) = false := by simpa using c1
   by_cases c2 : op < 3
   · have g2 : decide (op < 3) = true := by simpa using c2
     clear k1 k2 hb c1 c2
     go_enter Tryz.func164, Tryz.ntmps164
     go_wp2_with fail
     refine bodyPost_ret (v := .tuple #[.slice none 0 0, .bool false]) (by simp [results, Tryz.results164, go_sem]) rfl ⟨none, 0, 0, rfl, HBX.out⟩
   · have g2 : decide (op < 3) = false := by simp; omega
     have g3 : decide (10 < op) = true := by simp; omega
     clear k1 k2 hb c1 c2
     go_enter Tryz.func164, Tryz.ntmps164
     go_wp2_with fail
     refine bodyPost_ret (v := .tuple #[.slice none 0 0, .bool false]) (by simp [results, Tryz.results164, go_sem]) rfl ⟨none, 0, 0, rfl, HBX.out⟩
 · have g1 : (nn != 0) = true := by simpa using c1
   clear k1 k2 hb c1
   go_enter Tryz.func164, Tryz.ntmps164
   go_wp2_with fail
   refine bodyPost_ret (v := .tuple #[.slice none 0 0, .bool false]) (by simp [results, Tryz.results164, go_sem]) rfl ⟨none, 0, 0, rfl, HBX.out⟩
set_option maxRecDepth 20000 in
set_option maxHeartbeats 4000000 in
theorem rpush10bad (a : Option Addr) (n c : Nat) (st : List Bool) (T : Nat) (W : World) (hP : Prts W a n c st T) (hn : n ≤ 100) (hb : ¬ (3 ≤ n ∧ st[n - 3]? = some true ∧ st[n - 2]? = some false ∧ st[n - 1]? = some false)) :
 Calls Tryz.prog 164 #[.slice a n c, .agg #[.int .i64 10, .int .i64 0]] W fun e w' => ∃ a' n' c', e = .returned (.tuple #[.slice a' n' c', .bool false]) ∧ Below W.heap.size W w' := by
 obtain ⟨ps, hps, hst, htx, hsum⟩ := hP
 obtain ⟨i9, hi9, hz90, hz91, hz92⟩ := info_parts info_pe
 have hbx := Box.new W #[.int .i64 10, .int .i64 0] 91
 have hbb : Below W.heap.size W (W.alloc (.cells #[.int .i64 10, .int .i64 0] 91)) := al0 _ _ _
 have HBN := Lib.hid hbx
 have HBX := Lib.hid hbb
 have HFC : Hid (∀ w, Below W.heap.size W w → ∀ ad, a = some ad → ∀ j u, (ps.flatMap encPe)[j]? = some u → w.cell? (ad.add j) = some u) := Lib.hid fun w hb => (hps.below hb).flatC encPe_len (by decide)
 have HPL := Lib.hid hps.len
 have HPS := Lib.hid hps
 have HST := Lib.hid hst
 have HTX := Lib.hid htx
 have HSUM := Lib.hid hsum
 clear hbb hbx hps hst htx hsum
 by_cases c1 : n < 3
 · have g1 : decide ((n : Int) < 3) = true := by simp; omega
   have g2 : decide (n < 3) = true := by simpa using c1
   clear hb
   go_enter Tryz.func164, Tryz.ntmps164
   go_wp2_with fail
   refine bodyPost_ret (v := .tuple #[.slice none 0 0, .bool false]) (by simp [results, Tryz.results164, go_sem]) rfl ⟨none, 0, 0, rfl, HBX.out⟩
 have g1 : decide ((n : Int) < 3) = false := by simp; omega
 have g2 : decide (n < 3) = false := by simpa using c1
 obtain ⟨m, rfl⟩ : ∃ m, n = m + 3 := ⟨n - 3, by omega⟩
 rw [show m + 3 - 3 = m by omega, show m + 3 - 2 = m + 1 by omega, show m + 3 - 1 = m + 2 by omega] at hb
 obtain ⟨b, o, rfl, hbl⟩ := HPS.out.at' (by omega)
 obtain ⟨p0, hp0⟩ := HPS.out.get (i := m) (by omega)
 obtain ⟨p1, hp1⟩ := HPS.out.get (i := m + 1) (by omega)
 obtain ⟨p2, hp2⟩ := HPS.out.get (i := m + 2) (by omega)
 have q0 := HPS.out.cell b o rfl m p0 hp0 0 _ rfl
 have q1 := HPS.out.cell b o rfl (m + 1) p1 hp1 0 _ rfl
 have q2 := HPS.out.cell b o rfl (m + 2) p2 hp2 0 _ rfl
 rw [Nat.add_zero] at q0 q1 q2
 have r0 : st[m]? = some p0.cmp := by rw [← HST.out, List.getElem?_map, hp0]; rfl
 have r1 : st[m + 1]? = some p1.cmp := by rw [← HST.out, List.getElem?_map, hp1]; rfl
 have r2 : st[m + 2]? = some p2.cmp := by rw [← HST.out, List.getElem?_map, hp2]; rfl
 rw [r0, r1, r2] at hb
 have HB := Lib.hid hb
 clear hb hp0 hp1 hp2 r0 r1 r2
 cases hc0 : p0.cmp
 · rw [hc0] at q0
   go_enter Tryz.func164, Tryz.ntmps164
   go_wp2_with fail
   refine bodyPost_ret (v := .tuple #[.slice none 0 0, .bool false]) (by simp [results, Tryz.results164, go_sem]) rfl ⟨none, 0, 0, rfl, HBX.out⟩
 rw [hc0] at q0
 cases hc1 : p1.cmp
 rotate_left
 · rw [hc1] at q1
   go_enter Tryz.func164, Tryz.ntmps164
   go_wp2_with fail
   refine bodyPost_ret (v := .tuple #[.slice none 0 0, .bool false]) (by simp [results, Tryz.results164, go_sem]) rfl ⟨none, 0, 0, rfl, HBX.out⟩
 rw [hc1] at q1
 cases hc2 : p2.cmp
 · exact absurd (by rw [hc0, hc1, hc2]; exact ⟨by omega, rfl, rfl, rfl⟩) HB.out
 · rw [hc2] at q2
   go_enter Tryz.func164, Tryz.ntmps164
   go_wp2_with fail
   refine bodyPost_ret (v := .tuple #[.slice none 0 0, .bool false]) (by simp [results, Tryz.results164, go_sem]) rfl ⟨none, 0, 0, rfl, HBX.out⟩
set_option maxRecDepth 20000 in
set_option maxHeartbeats 4000000 in
theorem rpush3bad (a : Option Addr) (n c : Nat) (st : List Bool) (T : Nat) (op : Int) (W : World) (hP : Prts W a n c st T) (hn : n ≤ 100) (h3 : 3 ≤ op) (h9 : op < 10) (hb : ¬ (2 ≤ n ∧ st[n - 2]? = some false ∧ st[n - 1]? = some false)) :
 Calls Tryz.prog 164 #[.slice a n c, .agg #[.int .i64 op, .int .i64 0]] W fun e w' => ∃ a' n' c', e = .returned (.tuple #[.slice a' n' c', .bool false]) ∧ Below W.heap.size W w' := by
 obtain ⟨ps, hps, hst, htx, hsum⟩ := hP
 obtain ⟨i9, hi9, hz90, hz91, hz92⟩ := info_parts info_pe
 have hbx := Box.new W #[.int .i64 op, .int .i64 0] 91
 have hbb : Below W.heap.size W (W.alloc (.cells #[.int .i64 op, .int .i64 0] 91)) := al0 _ _ _
 have HBN := Lib.hid hbx
 have HBX := Lib.hid hbb
 have HFC : Hid (∀ w, Below W.heap.size W w → ∀ ad, a = some ad → ∀ j u, (ps.flatMap encPe)[j]? = some u → w.cell? (ad.add j) = some u) := Lib.hid fun w hb => (hps.below hb).flatC encPe_len (by decide)
 have HPL := Lib.hid hps.len
 have HPS := Lib.hid hps
 have HST := Lib.hid hst
 have HTX := Lib.hid htx
 have HSUM := Lib.hid hsum
 clear hbb hbx hps hst htx hsum
 have e1 : (op == 1) = false := by simp; omega
 have e2 : (op == 2) = false := by simp; omega
 have e3 : decide (op < 3) = false := by simp; omega
 have e4 : decide (10 < op) = false := by simp; omega
 have e5 : (op == 10) = false := by simp; omega
 clear h3 h9
 by_cases c1 : n < 2
 · have g1 : decide ((n : Int) < 2) = true := by simp; omega
   have g2 : decide (n < 2) = true := by simpa using c1
   clear hb
   go_enter Tryz.func164, Tryz.ntmps164
   go_wp2_with fail
   refine bodyPost_ret (v := .tuple #[.slice none 0 0, .bool false]) (by simp [results, Tryz.results164, go_sem]) rfl ⟨none, 0, 0, rfl, HBX.out⟩
 have g1 : decide ((n : Int) < 2) = false := by simp; omega
 have g2 : decide (n < 2) = false := by simpa using c1
 obtain ⟨m, rfl⟩ : ∃ m, n = m + 2 := ⟨n - 2, by omega⟩
 rw [show m + 2 - 2 = m by omega, show m + 2 - 1 = m + 1 by omega] at hb
 obtain ⟨b, o, rfl, hbl⟩ := HPS.out.at' (by omega)
 obtain ⟨p0, hp0⟩ := HPS.out.get (i := m) (by omega)
 obtain ⟨p1, hp1⟩ := HPS.out.get (i := m + 1) (by omega)
 have q0 := HPS.out.cell b o rfl m p0 hp0 0 _ rfl
 have q1 := HPS.out.cell b o rfl (m + 1) p1 hp1 0 _ rfl
 rw [Nat.add_zero] at q0 q1
 have r0 : st[m]? = some p0.cmp := by rw [← HST.out, List.getElem?_map, hp0]; rfl
 have r1 : st[m + 1]? = some p1.cmp := by rw [← HST.out, List.getElem?_map, hp1]; rfl
 rw [r0, r1] at hb
 have HB := Lib.hid hb
 clear hb hp0 hp1 r0 r1
 cases hc0 : p0.cmp
 rotate_left
 · rw [hc0] at q0
   go_enter Tryz.func164, Tryz.ntmps164
   go_wp2_with fail
   refine bodyPost_ret (v := .tuple #[.slice none 0 0, .bool false]) (by simp [results, Tryz.results164, go_sem]) rfl ⟨none, 0, 0, rfl, HBX.out⟩
 rw [hc0] at q0
 cases hc1 : p1.cmp
 · exact absurd (by rw [hc0, hc1]; exact ⟨by omega, rfl, rfl⟩) HB.out
 · rw [hc1] at q1
   go_enter Tryz.func164, Tryz.ntmps164
   go_wp2_with fail
   refine bodyPost_ret (v := .tuple #[.slice none 0 0, .bool false]) (by simp [results, Tryz.results164, go_sem]) rfl ⟨none, 0, 0, rfl, HBX.out⟩
open Go.RowKit
set_option maxRecDepth 20000 in
set_option maxHeartbeats 4000000 in
theorem rpush1p (a : Option Addr) (n c : Nat) (st : List Bool) (T : Nat) (nn : Int) (W : World) (hP : Prts W a n c st T) (hn : n ≤ 100) (_hT : T ≤ 1000) (hnn : -9223372036854775808 ≤ nn ∧ nn ≤ 9223372036854775807) (c1 : 0 ≤ nn) :
 Calls Tryz.prog 164 #[.slice a n c, .agg #[.int .i64 1, .int .i64 nn]] W fun e w' => ∃ a' n' c', e = .returned (.tuple #[.slice a' n' c', .bool (decide (0 ≤ nn ∧ nn ≤ 1048576))]) ∧ Below W.heap.size W w' ∧ Prts w' a' n' c' (st ++ [false]) (T + 6) ∧ n' ≤ n + 1 := by
 obtain ⟨ps, hps, hst, htx, hsum⟩ := hP
 obtain ⟨i9, hi9, hz90, hz91, hz92⟩ := info_parts info_pe
 have hbx := Box.new W #[.int .i64 1, .int .i64 nn] 91
 have hbb : Below W.heap.size W (W.alloc (.cells #[.int .i64 1, .int .i64 nn] 91)) := al0 _ _ _
 have hsz : (W.alloc (.cells #[.int .i64 1, .int .i64 nn] 91)).heap.size = W.heap.size + 1 := by simp
 obtain ⟨wx, hwx⟩ : ∃ wx, W.alloc (.cells #[.int .i64 1, .int .i64 nn] 91) = wx := ⟨_, rfl⟩
 rw [hwx] at hbx hbb hsz
 have d0 : wx.cell? ⟨W.heap.size, 0, none⟩ = some (.int .i64 1) := hbx.cell 0
 have d1 : wx.cell? ⟨W.heap.size, 1, none⟩ = some (.int .i64 nn) := hbx.cell 1
 have HWX := Lib.hid hwx
 have HBX := Lib.hid hbb
 have HNN := Lib.hid hnn
 have HNIL := Lib.hid hps.nilN
 have HFL : Hid ((ps.flatMap encPe).length = n * 2) := Lib.hid (by rw [flat_len encPe_len, hps.len])
 have HFC : Hid (∀ w, Below W.heap.size W w → ∀ ad, a = some ad → ∀ j u, (ps.flatMap encPe)[j]? = some u → w.cell? (ad.add j) = some u) := Lib.hid fun w hb => (hps.below hb).flatC encPe_len (by decide)
 have HPL : Hid (ps.take n = ps) := Lib.hid (List.take_of_length_le (by rw [hps.len]; exact Nat.le_refl _))
 have HPL2 := HPL
 have HPL3 : Hid ((ps.take n).map (·.cmp) ++ [false] = st ++ [false]) := Lib.hid (by rw [HPL.out, hst])
 have HPM : Hid (n ≤ ps.length) := Lib.hid (by rw [hps.len]; exact Nat.le_refl _)
 have HTX := Lib.hid htx
 have HSUM := Lib.hid hsum
 clear hwx hbb hbx hnn hps hst htx hsum
 have g1 : decide (0 ≤ nn) = true := by simpa using c1
 have HV : Hid (decide (0 ≤ nn ∧ nn ≤ 1048576) = decide (nn ≤ 1048576)) := Lib.hid (by simp [c1])
 go_enter Tryz.func164, Tryz.ntmps164
 go_wp2_with fail
 rw [HWX.out]
 go_wp2_with fail
 apply region_ex2 (α := Nat → Value) (β := Value) (R := fun u v w' => Below W.heap.size W w' ∧ ∃ (b : Nat) (s : ByteArray), Box w' b #[.string s] 9 ∧ w'.ownsRow (W.heap.size + 1) 264 2 v (n + 1) (ps.flatMap encPe ++ [.bool false, .slice (some ⟨b, 0, none⟩) 1 1]))
 · refine wp_region_held_drew (S := fun w' => w'.cell? ⟨W.heap.size, 1, none⟩ = some (.int .i64 nn)) (by kernel_rfl) d1 (fun hS => ?_)
   have hBd : Below wx.heap.size wx wx.drew := (Below.refl _ _).drew
   refine takeN 1 (v := ?_) rfl (by kernel_rfl) (by rfl) (fun w hSw => ?_) (by assumption) ?_
   rotate_left
   focus ((try dsimp only at hSw); (try go_split_ands); go_simp; try with_reducible rfl)
   (try simp only [PS])
   refine takeN 3 (v := ?_) rfl (by kernel_rfl) (by rfl) (fun w hSw => ?_) (by assumption) ?_
   rotate_left
   focus ((try dsimp only at hSw); (try go_split_ands); go_simp; try with_reducible rfl)
   (try simp only [PS])
   refine takeN 4 (v := ?_) rfl (by kernel_rfl) (by rfl) (fun w hSw => ?_) (by assumption) ?_
   rotate_left
   focus ((try dsimp only at hSw); (try go_split_ands); go_simp; try with_reducible rfl)
   (try simp only [PS])
   refine takeN 10 (v := ?_) rfl (by kernel_rfl) (by rfl) (fun w hSw => ?_) (by assumption) ?_
   rotate_left
   focus ((try dsimp only at hSw); (try go_split_ands); go_simp; try with_reducible rfl)
   (try simp only [PS])
   refine takeN 11 (v := ?_) rfl (by kernel_rfl) (by rfl) (fun w hSw => ?_) (by assumption) ?_
   rotate_left
   focus ((try dsimp only at hSw); (try go_split_ands); go_simp; try with_reducible rfl)
   (try simp only [PS])
   refine takeN 12 (v := ?_) rfl (by kernel_rfl) (by rfl) (fun w hSw => ?_) (by assumption) ?_
   rotate_left
   focus ((try dsimp only at hSw); (try go_split_ands); go_simp; try with_reducible rfl)
   (try simp only [PS])
   refine wpAnyH_late [(0, 16), (2, 18), (5, 21), (6, 22), (7, 23), (8, 24)] (Fl (W.heap.size + 1) [(0, .e), (2, .r n (ps.flatMap encPe)), (5, .s), (6, .t 1), (7, .b false), (8, .p false)]) (f := 8) (fun _ => undef) (by (simp only [putL, Act.put, l_t, l_s, l_z, s_t, s_z, s_s])) (by kernel_rfl) (fun w w' h hb => (hb.cell (World.block_lt_of_cell? w _ h)).trans h) Fl.below hS ?_ ?_
   · (intro i hi; simp only [List.map_cons, List.map_nil, List.mem_cons, List.not_mem_nil, or_false] at hi)
     rcases hi with rfl | rfl | rfl | rfl | rfl | rfl
     · refine LateOp.of rfl rfl (by simp) (by decide) (fun u w A hA hS hB hd K hK => ?_)
       have hBx := hBd.trans (hB.mono hBd.size)
       refine step_value (v := .slice (some ⟨w.heap.size, 0, none⟩) 0 0) (w' := w.alloc (.cells #[] 264)) rfl (by rw [hA]; clear hA hd hK; (simp only [putL, Act.put, l_t, l_s, l_z, s_t, s_z, s_s]); go_simp) ?_
       exact hK.out _ _ ⟨_, rfl, OwnSL.made0 encPe 2 w _ (W.heap.size + 1) (by have := hBx.size; omega)⟩ (al0 _ _ _)
     · refine LateOp.of rfl rfl (by simp) (by decide) (fun u w A hA hS hB hd K hK => ?_)
       have hBx := hBd.trans (hB.mono hBd.size)
       obtain ⟨a0, e0, h0⟩ := hd 0 (by simp) (by kernel_rfl)
       rw [e0] at h0
       refine step_append_empty rfl _ _ 260 rfl (W.heap.size + 1) 264 i9 _ 2 32 Tryz.underlying260 hi9 hz90 hz91 hz92 rfl a0 h0 (by rw [hA]; (simp only [putL, Act.put, l_t, l_s, l_z, s_t, s_z, s_s]); exact e0) a n c (ps.flatMap encPe) (by rw [hA]; (simp only [putL, Act.put, l_t, l_s, l_z, s_t, s_z, s_s]); exact rfl) HNIL.out HFL.out (HFC.out w (HBX.out.trans (hBx.mono HBX.out.size))) (by unfold maxLen; omega) (by omega) (by have := hBx.size; omega) (fun v' w' h1 h2 => ?_)
       exact hK.out _ _ h1 h2
     · refine LateOp.of rfl rfl (by simp) (by decide) (fun u w A hA hS hB hd K hK => ?_)
       refine step_enter (f := 257) (args := #[.int .i64 nn]) rfl (by rw [hA]; clear hA hd hK; (simp only [putL, Act.put, l_t, l_s, l_z, s_t, s_z, s_s]); go_simp) ((rdecimal_any nn w HNN.out).mono ?_)
       rintro e w' ⟨⟨s, rfl, -⟩, hb⟩
       exact ⟨_, rfl, hK.out _ _ ⟨s, rfl⟩ hb⟩
     · refine LateOp.of rfl rfl (by simp) (by decide) (fun u w A hA hS hB hd K hK => ?_)
       obtain ⟨s, e5⟩ := hd 5 (by simp) (by kernel_rfl)
       refine step_value (v := .slice (some ⟨w.heap.size, 0, none⟩) 1 1) (w' := w.alloc (.cells #[.string s] 9)) rfl (by rw [hA]; clear hA hd hK; (simp only [putL, Act.put, l_t, l_s, l_z, s_t, s_z, s_s]); simp only [e5]; go_simp) ?_
       exact hK.out _ _ ⟨_, [s], rfl, Box.new _ _ _, rfl⟩ (al0 _ _ _)
     · refine LateOp.of rfl rfl (by simp) (by decide) (fun u w A hA hS hB hd K hK => ?_)
       obtain ⟨b, S, e6, hb, hl⟩ := hd 6 (by simp) (by kernel_rfl)
       obtain ⟨s, rfl⟩ : ∃ s, S = [s] := by
        match S, hl with
        | [s], _ => exact ⟨s, rfl⟩
       refine step_value (v := .agg #[.bool false, .slice (some ⟨b, 0, none⟩) 1 1]) (w' := w) rfl (by rw [hA]; clear hA hd hK; (simp only [putL, Act.put, l_t, l_s, l_z, s_t, s_z, s_s]); simp only [e6]; go_simp) ?_
       exact hK.out _ _ ⟨b, s, rfl, hb⟩ (Below.refl _ _)
     · refine LateOp.of rfl rfl (by simp) (by decide) (fun u w A hA hS hB hd K hK => ?_)
       obtain ⟨b, s, e7, hb⟩ := hd 7 (by simp) (by kernel_rfl)
       refine step_value (v := .slice (some ⟨w.heap.size, 0, none⟩) 1 1) (w' := w.alloc (.cells #[.bool false, .slice (some ⟨b, 0, none⟩) 1 1] 264)) rfl (by rw [hA]; clear hA hd hK; (simp only [putL, Act.put, l_t, l_s, l_z, s_t, s_z, s_s]); simp only [e7]; go_simp) ?_
       exact hK.out _ _ ⟨_, b, s, rfl, Box.new _ _ _, hb.alloc _⟩ (al0 _ _ _)
   · intro u w hS hB hF
     (simp only [putL, Act.put, l_t, l_s, l_z, s_t, s_z, s_s])
     have hBx := hBd.trans (hB.mono hBd.size)
     have h2 : Fk (W.heap.size + 1) (.r n (ps.flatMap encPe)) (u 2) w := hF 2 (by simp)
     obtain ⟨g, b, s, e8, hg, hb⟩ : Fk (W.heap.size + 1) (.p false) (u 8) w := hF 8 (by simp)
     have hw2 : w.ownsRow (W.heap.size + 1) 264 2 (u 2) n (ps.flatMap encPe) := h2
     have hnb := own_box_ne2 hw2 hb (by decide)
     have hnl := hw2.lt
     refine wpAnyH_ready (rs := [9]) (by kernel_rfl) (by simp) (AllReadyH.cons rfl (fun K hK => ?_) AllReadyH.nil)
     refine step_append_any rfl _ _ 260 rfl (W.heap.size + 1) 264 i9 _ 2 32 Tryz.underlying260 hi9 hz90 hz91 hz92 rfl (by decide) (u 2) n _ hw2 rfl (some ⟨g, 0, none⟩) 1 1 [.bool false, .slice (some ⟨b, 0, none⟩) 1 1] e8 (fun h => by cases h) rfl (fun ad e j x hx => by injection e with e; subst e; rw [Addr.add_mid, Nat.zero_add, hg.cell j]; simpa using hx) (by simp [Value.oneCell']) (by unfold maxLen; omega) (by omega) (by have := hBx.size; omega) ?_
     intro v' w8 hown' hgrow hfr
     have hS8 : w8.cell? ⟨W.heap.size, 1, none⟩ = some (.int .i64 nn) := (World.cell?_of_block (w := w) (hgrow.block W.heap.size (World.block_lt_of_cell? w _ hS) (fun e => by have := (hnl _ e.symm).1; omega))).trans hS
     refine hK.out _ _ hS8 (fun hS => ?_)
     clear hK K
     (try simp only [PS])
     refine takeN 13 (v := ?_) rfl (by kernel_rfl) (by rfl) (fun w hSw => ?_) (by assumption) ?_
     rotate_left
     focus ((try dsimp only at hSw); (try go_split_ands); go_simp; try with_reducible rfl)
     (try simp only [PS])
     refine takeN 14 (v := ?_) rfl (by kernel_rfl) (by rfl) (fun w hSw => ?_) (by assumption) ?_
     rotate_left
     focus ((try dsimp only at hSw); (try go_split_ands); go_simp; try with_reducible rfl)
     (try simp only [PS])
     refine takeN 15 (v := ?_) rfl (by kernel_rfl) (by rfl) (fun w hSw => ?_) (by assumption) ?_
     rotate_left
     focus ((try dsimp only at hSw); (try go_split_ands); go_simp; try with_reducible rfl)
     (try simp only [PS])
     refine takeN 16 (v := ?_) rfl (by kernel_rfl) (by rfl) (fun w hSw => ?_) (by assumption) ?_
     rotate_left
     focus ((try dsimp only at hSw); (try go_split_ands); go_simp; try with_reducible rfl)
     (try simp only [PS])
     refine takeN 17 (v := ?_) rfl (by kernel_rfl) (by rfl) (fun w hSw => ?_) (by assumption) ?_
     rotate_left
     focus ((try dsimp only at hSw); (try go_split_ands); go_simp; try with_reducible rfl)
     (try simp only [PS])
     refine takeN 18 (v := ?_) rfl (by kernel_rfl) (by rfl) (fun w hSw => ?_) (by assumption) ?_
     rotate_left
     focus ((try dsimp only at hSw); (try go_split_ands); go_simp; try with_reducible rfl)
     (try simp only [PS])
     refine takeN 19 (v := ?_) rfl (by kernel_rfl) (by rfl) (fun w hSw => ?_) (by assumption) ?_
     rotate_left
     focus ((try dsimp only at hSw); (try go_split_ands); go_simp; try with_reducible rfl)
     (try simp only [PS])
     refine wpAnyH_done (by kernel_rfl) ?_ _
     refine ⟨rfl, u, v', rfl, ?_, b, s, hb.grown hgrow hnb, hown'⟩
     exact (HBX.out.trans (hBx.mono HBX.out.size)).grown hgrow (HBX.out.trans (hBx.mono HBX.out.size)).size (fun q e => by have := (hnl q e).1; omega)
 rintro u v w1 ⟨hB1, b, s, hb, hown⟩
 have hpt := Prts.put (T := T + 6) (m := n) hB1 (by rw [HPL.out]; exact hown) HPM.out HTX.out (one_text hb) (by rw [HPL2.out]; have := HSUM.out; omega)
 rw [HPL3.out] at hpt
 obtain ⟨a', n', c', rfl, hP, hn'⟩ := hpt
 have HP := Lib.hid hP
 clear hP hown hb
 go_wp2_with fail
 refine bodyPost_ret (v := .tuple #[.slice a' n' c', .bool (decide (nn ≤ 1048576))]) (by simp [results, Tryz.results164, go_sem]) rfl ⟨a', n', c', by rw [HV.out], hB1, HP.out, by omega⟩
open Go.RowKit
set_option maxRecDepth 20000 in
set_option maxHeartbeats 4000000 in
theorem rpush1n (a : Option Addr) (n c : Nat) (st : List Bool) (T : Nat) (nn : Int) (W : World) (hP : Prts W a n c st T) (hn : n ≤ 100) (_hT : T ≤ 1000) (hnn : -9223372036854775808 ≤ nn ∧ nn ≤ 9223372036854775807) (c1 : ¬ 0 ≤ nn) :
 Calls Tryz.prog 164 #[.slice a n c, .agg #[.int .i64 1, .int .i64 nn]] W fun e w' => ∃ a' n' c', e = .returned (.tuple #[.slice a' n' c', .bool (decide (0 ≤ nn ∧ nn ≤ 1048576))]) ∧ Below W.heap.size W w' ∧ Prts w' a' n' c' (st ++ [false]) (T + 6) ∧ n' ≤ n + 1 := by
 obtain ⟨ps, hps, hst, htx, hsum⟩ := hP
 obtain ⟨i9, hi9, hz90, hz91, hz92⟩ := info_parts info_pe
 have hbx := Box.new W #[.int .i64 1, .int .i64 nn] 91
 have hbb : Below W.heap.size W (W.alloc (.cells #[.int .i64 1, .int .i64 nn] 91)) := al0 _ _ _
 have hsz : (W.alloc (.cells #[.int .i64 1, .int .i64 nn] 91)).heap.size = W.heap.size + 1 := by simp
 obtain ⟨wx, hwx⟩ : ∃ wx, W.alloc (.cells #[.int .i64 1, .int .i64 nn] 91) = wx := ⟨_, rfl⟩
 rw [hwx] at hbx hbb hsz
 have d0 : wx.cell? ⟨W.heap.size, 0, none⟩ = some (.int .i64 1) := hbx.cell 0
 have d1 : wx.cell? ⟨W.heap.size, 1, none⟩ = some (.int .i64 nn) := hbx.cell 1
 have HWX := Lib.hid hwx
 have HBX := Lib.hid hbb
 have HNN := Lib.hid hnn
 have HNIL := Lib.hid hps.nilN
 have HFL : Hid ((ps.flatMap encPe).length = n * 2) := Lib.hid (by rw [flat_len encPe_len, hps.len])
 have HFC : Hid (∀ w, Below W.heap.size W w → ∀ ad, a = some ad → ∀ j u, (ps.flatMap encPe)[j]? = some u → w.cell? (ad.add j) = some u) := Lib.hid fun w hb => (hps.below hb).flatC encPe_len (by decide)
 have HPL : Hid (ps.take n = ps) := Lib.hid (List.take_of_length_le (by rw [hps.len]; exact Nat.le_refl _))
 have HPL2 := HPL
 have HPL3 : Hid ((ps.take n).map (·.cmp) ++ [false] = st ++ [false]) := Lib.hid (by rw [HPL.out, hst])
 have HPM : Hid (n ≤ ps.length) := Lib.hid (by rw [hps.len]; exact Nat.le_refl _)
 have HTX := Lib.hid htx
 have HSUM := Lib.hid hsum
 clear hwx hbb hbx hnn hps hst htx hsum
 have g1 : decide (0 ≤ nn) = false := by simpa using c1
 have HV : Hid (decide (0 ≤ nn ∧ nn ≤ 1048576) = false) := Lib.hid (by simp [c1])
 go_enter Tryz.func164, Tryz.ntmps164
 go_wp2_with fail
 rw [HWX.out]
 go_wp2_with fail
 apply region_ex2 (α := Nat → Value) (β := Value) (R := fun u v w' => Below W.heap.size W w' ∧ ∃ (b : Nat) (s : ByteArray), Box w' b #[.string s] 9 ∧ w'.ownsRow (W.heap.size + 1) 264 2 v (n + 1) (ps.flatMap encPe ++ [.bool false, .slice (some ⟨b, 0, none⟩) 1 1]))
 · refine wp_region_held_drew (S := fun w' => w'.cell? ⟨W.heap.size, 1, none⟩ = some (.int .i64 nn)) (by kernel_rfl) d1 (fun hS => ?_)
   have hBd : Below wx.heap.size wx wx.drew := (Below.refl _ _).drew
   refine wpAnyH_take (i := 1) (v := ?_) rfl (by kernel_rfl) (by kernel_rfl) (by kernel_rfl) NormQ.hq (Or.inl ⟨by rfl, ?_⟩) (by assumption) ?_
   rotate_left
   focus
    intro w hSw
    (try dsimp only at hSw)
    (try go_split_ands)
    go_simp
    try with_reducible rfl
   (try simp only [Act.put, l_t, l_s, l_z, s_t, s_z, s_s])
   refine wpAnyH_take (i := 3) (v := ?_) rfl (by kernel_rfl) (by kernel_rfl) (by kernel_rfl) NormQ.hq (Or.inl ⟨by rfl, ?_⟩) (by assumption) ?_
   rotate_left
   focus
    intro w hSw
    (try dsimp only at hSw)
    (try go_split_ands)
    go_simp
    try with_reducible rfl
   (try simp only [Act.put, l_t, l_s, l_z, s_t, s_z, s_s])
   refine wpAnyH_take (i := 4) (v := ?_) rfl (by kernel_rfl) (by kernel_rfl) (by kernel_rfl) NormQ.hq (Or.inl ⟨by rfl, ?_⟩) (by assumption) ?_
   rotate_left
   focus
    intro w hSw
    (try dsimp only at hSw)
    (try go_split_ands)
    go_simp
    try with_reducible rfl
   (try simp only [Act.put, l_t, l_s, l_z, s_t, s_z, s_s])
   refine wpAnyH_take (i := 10) (v := ?_) rfl (by kernel_rfl) (by kernel_rfl) (by kernel_rfl) NormQ.hq (Or.inl ⟨by rfl, ?_⟩) (by assumption) ?_
   rotate_left
   focus
    intro w hSw
    (try dsimp only at hSw)
    (try go_split_ands)
    go_simp
    try with_reducible rfl
   (try simp only [Act.put, l_t, l_s, l_z, s_t, s_z, s_s])
   refine wpAnyH_take (i := 11) (v := ?_) rfl (by kernel_rfl) (by kernel_rfl) (by kernel_rfl) NormQ.hq (Or.inl ⟨by rfl, ?_⟩) (by assumption) ?_
   rotate_left
   focus
    intro w hSw
    (try dsimp only at hSw)
    (try go_split_ands)
    go_simp
    try with_reducible rfl
   (try simp only [Act.put, l_t, l_s, l_z, s_t, s_z, s_s])
   refine wpAnyH_take (i := 12) (v := ?_) rfl (by kernel_rfl) (by kernel_rfl) (by kernel_rfl) NormQ.hq (Or.inl ⟨by rfl, ?_⟩) (by assumption) ?_
   rotate_left
   focus
    intro w hSw
    (try dsimp only at hSw)
    (try go_split_ands)
    go_simp
    try with_reducible rfl
   (try simp only [Act.put, l_t, l_s, l_z, s_t, s_z, s_s])
   refine wpAnyH_late [(0, 16), (2, 18), (5, 21), (6, 22), (7, 23), (8, 24)] (Fl (W.heap.size + 1) [(0, .e), (2, .r n (ps.flatMap encPe)), (5, .s), (6, .t 1), (7, .b false), (8, .p false)]) (f := 8) (fun _ => undef) (by (simp only [putL, Act.put, s_t, s_z, s_s])) (by kernel_rfl) (fun w w' h hb => (hb.cell (World.block_lt_of_cell? w _ h)).trans h) Fl.below hS ?_ ?_
   · (intro i hi; simp only [List.map_cons, List.map_nil, List.mem_cons, List.not_mem_nil, or_false] at hi)
     rcases hi with rfl | rfl | rfl | rfl | rfl | rfl
     · refine LateOp.of rfl rfl (by simp) (by decide) (fun u w A hA hS hB hd K hK => ?_)
       have hBx := hBd.trans (hB.mono hBd.size)
       refine step_value (v := .slice (some ⟨w.heap.size, 0, none⟩) 0 0) (w' := w.alloc (.cells #[] 264)) rfl (by rw [hA]; clear hA hd hK; (simp only [putL, Act.put, l_t, l_z, s_t, s_z, s_s]); go_simp) ?_
       exact hK.out _ _ ⟨_, rfl, OwnSL.made0 encPe 2 w _ (W.heap.size + 1) (by have := hBx.size; omega)⟩ (al0 _ _ _)
     · refine LateOp.of rfl rfl (by simp) (by decide) (fun u w A hA hS hB hd K hK => ?_)
       have hBx := hBd.trans (hB.mono hBd.size)
       obtain ⟨a0, e0, h0⟩ := hd 0 (by simp) (by kernel_rfl)
       rw [e0] at h0
       refine step_append_empty rfl _ _ 260 rfl (W.heap.size + 1) 264 i9 _ 2 32 Tryz.underlying260 hi9 hz90 hz91 hz92 rfl a0 h0 (by rw [hA]; (simp only [putL, Act.put, s_t, s_z, s_s]); exact e0) a n c (ps.flatMap encPe) (by rw [hA]; (simp only [putL, Act.put, s_t, s_z, s_s]); exact rfl) HNIL.out HFL.out (HFC.out w (HBX.out.trans (hBx.mono HBX.out.size))) (by unfold maxLen; omega) (by omega) (by have := hBx.size; omega) (fun v' w' h1 h2 => ?_)
       exact hK.out _ _ h1 h2
     · refine LateOp.of rfl rfl (by simp) (by decide) (fun u w A hA hS hB hd K hK => ?_)
       refine step_enter (f := 257) (args := #[.int .i64 nn]) rfl (by rw [hA]; clear hA hd hK; (simp only [putL, Act.put, l_t, l_s, l_z, s_t, s_z, s_s]); go_simp) ((rdecimal_any nn w HNN.out).mono ?_)
       rintro e w' ⟨⟨s, rfl, -⟩, hb⟩
       exact ⟨_, rfl, hK.out _ _ ⟨s, rfl⟩ hb⟩
     · refine LateOp.of rfl rfl (by simp) (by decide) (fun u w A hA hS hB hd K hK => ?_)
       obtain ⟨s, e5⟩ := hd 5 (by simp) (by kernel_rfl)
       refine step_value (v := .slice (some ⟨w.heap.size, 0, none⟩) 1 1) (w' := w.alloc (.cells #[.string s] 9)) rfl (by rw [hA]; clear hA hd hK; (simp only [putL, Act.put, l_t, l_s, l_z, s_t, s_z, s_s]); simp only [e5]; go_simp) ?_
       exact hK.out _ _ ⟨_, [s], rfl, Box.new _ _ _, rfl⟩ (al0 _ _ _)
     · refine LateOp.of rfl rfl (by simp) (by decide) (fun u w A hA hS hB hd K hK => ?_)
       obtain ⟨b, S, e6, hb, hl⟩ := hd 6 (by simp) (by kernel_rfl)
       obtain ⟨s, rfl⟩ : ∃ s, S = [s] := by
        match S, hl with
        | [s], _ => exact ⟨s, rfl⟩
       refine step_value (v := .agg #[.bool false, .slice (some ⟨b, 0, none⟩) 1 1]) (w' := w) rfl (by rw [hA]; clear hA hd hK; (simp only [putL, Act.put, l_t, l_s, l_z, s_t, s_z, s_s]); simp only [e6]; go_simp) ?_
       exact hK.out _ _ ⟨b, s, rfl, hb⟩ (Below.refl _ _)
     · refine LateOp.of rfl rfl (by simp) (by decide) (fun u w A hA hS hB hd K hK => ?_)
       obtain ⟨b, s, e7, hb⟩ := hd 7 (by simp) (by kernel_rfl)
       refine step_value (v := .slice (some ⟨w.heap.size, 0, none⟩) 1 1) (w' := w.alloc (.cells #[.bool false, .slice (some ⟨b, 0, none⟩) 1 1] 264)) rfl (by rw [hA]; clear hA hd hK; (simp only [putL, Act.put, l_t, l_s, l_z, s_t, s_z, s_s]); simp only [e7]; go_simp) ?_
       exact hK.out _ _ ⟨_, b, s, rfl, Box.new _ _ _, hb.alloc _⟩ (al0 _ _ _)
   · intro u w hS hB hF
     (simp only [putL, Act.put, s_t, s_z, s_s])
     have hBx := hBd.trans (hB.mono hBd.size)
     have h2 : Fk (W.heap.size + 1) (.r n (ps.flatMap encPe)) (u 2) w := hF 2 (by simp)
     obtain ⟨g, b, s, e8, hg, hb⟩ : Fk (W.heap.size + 1) (.p false) (u 8) w := hF 8 (by simp)
     have hw2 : w.ownsRow (W.heap.size + 1) 264 2 (u 2) n (ps.flatMap encPe) := h2
     have hnb := own_box_ne2 hw2 hb (by decide)
     have hnl := hw2.lt
     refine wpAnyH_ready (rs := [9]) (by kernel_rfl) (by simp) (AllReadyH.cons rfl (fun K hK => ?_) AllReadyH.nil)
     refine step_append_any rfl _ _ 260 rfl (W.heap.size + 1) 264 i9 _ 2 32 Tryz.underlying260 hi9 hz90 hz91 hz92 rfl (by decide) (u 2) n _ hw2 rfl (some ⟨g, 0, none⟩) 1 1 [.bool false, .slice (some ⟨b, 0, none⟩) 1 1] e8 (fun h => by cases h) rfl (fun ad e j x hx => by injection e with e; subst e; rw [Addr.add_mid, Nat.zero_add, hg.cell j]; simpa using hx) (by simp [Value.oneCell']) (by unfold maxLen; omega) (by omega) (by have := hBx.size; omega) ?_
     intro v' w8 hown' hgrow hfr
     have hS8 : w8.cell? ⟨W.heap.size, 1, none⟩ = some (.int .i64 nn) := (World.cell?_of_block (w := w) (hgrow.block W.heap.size (World.block_lt_of_cell? w _ hS) (fun e => by have := (hnl _ e.symm).1; omega))).trans hS
     refine hK.out _ _ hS8 (fun hS => ?_)
     clear hK K
     (try simp only [Act.put, l_t, l_s, l_z, s_t, s_z, s_s])
     refine wpAnyH_take (i := 13) (v := ?_) rfl (by kernel_rfl) (by kernel_rfl) (by kernel_rfl) NormQ.hq (Or.inl ⟨by rfl, ?_⟩) (by assumption) ?_
     rotate_left
     focus
      intro w hSw
      (try dsimp only at hSw)
      (try go_split_ands)
      go_simp
      try with_reducible rfl
     (try simp only [Act.put, l_t, l_s, l_z, s_t, s_z, s_s])
     refine wpAnyH_take (i := 14) (v := undef) rfl (by kernel_rfl) (by kernel_rfl) (by kernel_rfl) NormQ.hq (Or.inr ⟨by rfl, rfl⟩) (by assumption) ?_
     (try simp only [Act.put, l_t, l_s, l_z, s_t, s_z, s_s])
     refine wpAnyH_take (i := 15) (v := undef) rfl (by kernel_rfl) (by kernel_rfl) (by kernel_rfl) NormQ.hq (Or.inr ⟨by rfl, rfl⟩) (by assumption) ?_
     (try simp only [Act.put, l_t, l_s, l_z, s_t, s_z, s_s])
     refine wpAnyH_take (i := 16) (v := undef) rfl (by kernel_rfl) (by kernel_rfl) (by kernel_rfl) NormQ.hq (Or.inr ⟨by rfl, rfl⟩) (by assumption) ?_
     (try simp only [Act.put, l_t, l_s, l_z, s_t, s_z, s_s])
     refine wpAnyH_take (i := 17) (v := ?_) rfl (by kernel_rfl) (by kernel_rfl) (by kernel_rfl) NormQ.hq (Or.inl ⟨by rfl, ?_⟩) (by assumption) ?_
     rotate_left
     focus
      intro w hSw
      (try dsimp only at hSw)
      (try go_split_ands)
      go_simp
      try with_reducible rfl
     (try simp only [Act.put, l_t, l_s, l_z, s_t, s_z, s_s])
     refine wpAnyH_take (i := 18) (v := ?_) rfl (by kernel_rfl) (by kernel_rfl) (by kernel_rfl) NormQ.hq (Or.inl ⟨by rfl, ?_⟩) (by assumption) ?_
     rotate_left
     focus
      intro w hSw
      (try dsimp only at hSw)
      (try go_split_ands)
      go_simp
      try with_reducible rfl
     (try simp only [Act.put, l_t, l_s, l_z, s_t, s_z, s_s])
     refine wpAnyH_take (i := 19) (v := ?_) rfl (by kernel_rfl) (by kernel_rfl) (by kernel_rfl) NormQ.hq (Or.inl ⟨by rfl, ?_⟩) (by assumption) ?_
     rotate_left
     focus
      intro w hSw
      (try dsimp only at hSw)
      (try go_split_ands)
      go_simp
      try with_reducible rfl
     (try simp only [Act.put, l_t, l_s, l_z, s_t, s_z, s_s])
     refine wpAnyH_done (by kernel_rfl) ?_ _
     refine ⟨rfl, u, v', rfl, ?_, b, s, hb.grown hgrow hnb, hown'⟩
     exact (HBX.out.trans (hBx.mono HBX.out.size)).grown hgrow (HBX.out.trans (hBx.mono HBX.out.size)).size (fun q e => by have := (hnl q e).1; omega)
 rintro u v w1 ⟨hB1, b, s, hb, hown⟩
 have hpt := Prts.put (T := T + 6) (m := n) hB1 (by rw [HPL.out]; exact hown) HPM.out HTX.out (one_text hb) (by rw [HPL2.out]; have := HSUM.out; omega)
 rw [HPL3.out] at hpt
 obtain ⟨a', n', c', rfl, hP, hn'⟩ := hpt
 have HP := Lib.hid hP
 clear hP hown hb
 go_wp2_with fail
 refine bodyPost_ret (v := .tuple #[.slice a' n' c', .bool false]) (by simp [results, Tryz.results164, go_sem]) rfl ⟨a', n', c', by rw [HV.out], hB1, HP.out, by omega⟩
end Go.Proofs.YtehoidohallfcaaGreatDoor
