/- Maps from keys to true, of the call's own: known by their keys, in the order in which they came, whatever the keys' type. -/
import Derived.DeepKeys5
import Derived.Sort.MapsRangeIn
import Derived.Test.YtehoidohallfcaaGreatDoorKaX
namespace Go.Proofs.YtehoidohallfcaaGreatDoor
open Go.RowKit
structure KeyL {α : Type} (T M : TypeId) (kv : α → Value) (lit : α → Lit) (Ok : α → Prop) : Prop where
 law : Maps.Keyed Tryz.prog T
 und : Tryz.prog.underlying M = some (.map T 4)
 key : ∀ k, Ok k → keyOf Tryz.prog T (kv k) = some (lit k)
 inj : ∀ x y, Ok x → Ok y → kv x = kv y → x = y
open Go.ChangeMaps Go.MapKept in
structure BMap {α : Type} (kv : α → Value) (Ok : α → Prop) (w : World) (b : Nat) (ks : List α) : Prop where
 has : ∃ es clock, w.heap[b]? = some (.map es clock) ∧ MapKept.Stamped es clock ∧ es.toList.map (fun e => (e.key, e.val)) = ks.map (fun k => (kv k, Value.bool true))
 keys : ∀ x ∈ ks, Ok x
 nodup : ks.Nodup
section
variable {α : Type} [DecidableEq α] {T M : TypeId} {kv : α → Value} {lit : α → Lit} {Ok : α → Prop} {w w' : World} {b : Nat} {ks : List α}
omit [DecidableEq α] in
theorem BMap.made (kv : α → Value) (Ok : α → Prop) (w : World) : BMap kv Ok (w.alloc (.map #[] 0)) w.heap.size [] := ⟨⟨#[], 0, (MapKept.heap_alloc w _).1, MapKept.stamped_empty 0, rfl⟩, by simp, .nil⟩
omit [DecidableEq α] in
theorem BMap.lt (h : BMap kv Ok w b ks) : b < w.heap.size := by
 obtain ⟨⟨es, c, hb, _⟩, _⟩ := h
 exact (Array.getElem?_eq_some_iff.1 hb).1
omit [DecidableEq α] in
theorem BMap.heap (h : BMap kv Ok w b ks) (e : w'.heap[b]? = w.heap[b]?) : BMap kv Ok w' b ks := by
 obtain ⟨⟨es, c, h1, h2⟩, h3, h4⟩ := h
 exact ⟨⟨es, c, e.trans h1, h2⟩, h3, h4⟩
omit [DecidableEq α] in
theorem BMap.below (h : BMap kv Ok w b ks) (hb : Below w.heap.size w w') : BMap kv Ok w' b ks := h.heap (hb.block b h.lt)
omit [DecidableEq α] in
theorem BMap.grown {row : Option Nat} (h : BMap kv Ok w b ks) (hg : w.grownBy w' row) (hne : some b ≠ row) : BMap kv Ok w' b ks := h.heap (hg.block b h.lt hne)
omit [DecidableEq α] in
theorem BMap.entry {es : Array MapEntry} (h : es.toList.map (fun e => (e.key, e.val)) = ks.map (fun k => (kv k, Value.bool true))) {e : MapEntry} (he : e ∈ es.toList) : ∃ x ∈ ks, e.key = kv x ∧ e.val = .bool true := by
 have : (e.key, e.val) ∈ ks.map (fun k => (kv k, Value.bool true)) := by rw [← h]; exact List.mem_map.2 ⟨e, he, rfl⟩
 obtain ⟨x, hx, e1⟩ := List.mem_map.1 this
 injection e1 with e1 e2
 exact ⟨x, hx, e1.symm, e2.symm⟩
omit [DecidableEq α] in
theorem BMap.entry' {es : Array MapEntry} (h : es.toList.map (fun e => (e.key, e.val)) = ks.map (fun k => (kv k, Value.bool true))) {x : α} (hx : x ∈ ks) : ∃ e ∈ es.toList, e.key = kv x := by
 have : (kv x, Value.bool true) ∈ es.toList.map (fun e => (e.key, e.val)) := by rw [h]; exact List.mem_map.2 ⟨x, hx, rfl⟩
 obtain ⟨e, he, e1⟩ := List.mem_map.1 this
 injection e1 with e1 _
 exact ⟨e, he, e1⟩
theorem BMap.look (K : KeyL T M kv lit Ok) (h : BMap kv Ok w b ks) (k : α) (hk : Ok k) :
 (Instr.lookup M (.map (some b)) (kv k) false).run Tryz.prog w = .ok (.bool (decide (k ∈ ks))) w := by
 have hkk := K.key k hk
 have hz : (zeroValue 4).run Tryz.prog w = .ok (.bool false) w := by kernel_rfl
 obtain ⟨⟨es, c, hb, hst, he⟩, hs, ha⟩ := h
 rcases K.law.find w hkk es.toList (fun e hm => by obtain ⟨x, hx, e1, _⟩ := BMap.entry he hm; exact ⟨_, by rw [e1]; exact K.key x (hs x hx)⟩) with ⟨h1, h2⟩ | ⟨j, e0, h1, h2, h3⟩
 · have hn : decide (k ∈ ks) = false := decide_eq_false fun hx => by obtain ⟨e1, he1, he2⟩ := BMap.entry' he hx; exact h2 e1 he1 he2
   rw [hn]
   simp [Instr.lookup, run_underlying K.und, MapKept.run_getObj_map hb, K.law.check w _ hkk, h1, hz, Result.andThen]
 · obtain ⟨x, hx, e1, e2⟩ := BMap.entry he (List.mem_of_getElem? h2)
   rw [h3] at e1
   obtain rfl : x = k := K.inj _ _ (hs x hx) hk e1.symm
   rw [decide_eq_true hx]
   simp [Instr.lookup, run_underlying K.und, MapKept.run_getObj_map hb, K.law.check w _ hkk, h1, e2, Result.andThen]
theorem BMap.put (K : KeyL T M kv lit Ok) (h : BMap kv Ok w b ks) (k : α) (hk : Ok k) :
 ∃ w', (Instr.mapUpdate M (.map (some b)) (kv k) (.bool true)).run Tryz.prog w = .ok () w' ∧ BMap kv Ok w' b (if k ∈ ks then ks else ks ++ [k]) ∧ w.grownBy w' (some b) ∧ w'.heap.size = w.heap.size := by
 obtain ⟨⟨es, c, hb, hst, he⟩, hs, ha⟩ := h
 rcases K.law.find w (K.key k hk) es.toList (fun e hm => by obtain ⟨x, hx, e1, _⟩ := BMap.entry he hm; exact ⟨_, by rw [e1]; exact K.key _ (hs x hx)⟩) with ⟨h1, h2⟩ | ⟨j, e0, h1, h2, h3⟩
 · have hn : k ∉ ks := fun hx => by obtain ⟨e1, he1, he2⟩ := BMap.entry' he hx; exact h2 e1 he1 he2
   rw [if_neg hn]
   refine ⟨ChangeMaps.setBlock w b (.map (es.push ⟨kv k, .bool true, c⟩) (c + 1)), ?_, ⟨⟨_, _, ChangeMaps.heap_setBlock_same hb _, MapKept.stamped_push hst h2, ?_⟩, ?_, ?_⟩, ⟨rfl, rfl, rfl, by simp [ChangeMaps.setBlock], fun i _ hi => ChangeMaps.heap_setBlock_other hb _ (fun e => hi (by rw [e]))⟩, by simp [ChangeMaps.setBlock]⟩
   · simp [Instr.mapUpdate, run_underlying K.und, MapKept.run_getObj_map hb, K.law.check w false (K.key k hk), h1, MapKept.run_setObj_map _ hb, Result.andThen, ChangeMaps.setBlock]
   · rw [Array.toList_push, List.map_append, he, List.map_append]; rfl
   · intro x hx
     rcases List.mem_append.1 hx with hx | hx
     · exact hs x hx
     · rw [List.mem_singleton.1 hx]; exact hk
   · rw [List.nodup_append]
     exact ⟨ha, by simp, fun x hx y hy e => by rw [List.mem_singleton.1 hy] at e; exact hn (by rw [← e]; exact hx)⟩
 · obtain ⟨x, hx, e1, e2⟩ := BMap.entry he (List.mem_of_getElem? h2)
   have e1' := e1
   rw [h3] at e1
   obtain rfl : x = k := K.inj _ _ (hs x hx) hk e1.symm
   rw [if_pos hx]
   have hj : es[j]? = some e0 := by simpa using h2
   refine ⟨ChangeMaps.setBlock w b (.map (es.modify j fun e => { e with key := kv x, val := .bool true }) c), ?_, ⟨⟨_, _, ChangeMaps.heap_setBlock_same hb _, MapKept.stamped_modify hst j _ (fun _ _ => rfl) (fun e _ h => by rw [hj] at h; cases h; exact h3.symm), ?_⟩, hs, ha⟩, ⟨rfl, rfl, rfl, by simp [ChangeMaps.setBlock], fun i _ hi => ChangeMaps.heap_setBlock_other hb _ (fun e => hi (by rw [e]))⟩, by simp [ChangeMaps.setBlock]⟩
   · have hst := K.law.stays w (K.key x hk)
     simp [Instr.mapUpdate, run_underlying K.und, MapKept.run_getObj_map hb, K.law.check w false (K.key x hk), h1, hj, h3, hst, MapKept.run_setObj_map _ hb, Result.andThen, ChangeMaps.setBlock]
   · rw [← he]
     apply List.ext_getElem?
     intro i
     simp only [List.getElem?_map, Array.getElem?_toList, Array.getElem?_modify]
     by_cases e : j = i
     · subst e; rw [hj]; simp [h3, e2]
     · rw [if_neg e]
omit [DecidableEq α] in
theorem BMap.size (h : BMap kv Ok w b ks) : ∃ es c, w.heap[b]? = some (.map es c) ∧ es.size = ks.length := by
 obtain ⟨⟨es, c, hb, hst, he⟩, hs, ha⟩ := h
 exact ⟨es, c, hb, by have := congrArg List.length he; simpa using this⟩
def anyR : Value → Option (DataW Unit × List MemPlace) := fun _ => some (.nil, [])
omit [DecidableEq α] in
theorem BMap.rd (K : KeyL T M kv lit Ok) (h : BMap kv Ok w b ks) {es : Array MapEntry} (he : es.toList.map (fun e => (e.key, e.val)) = ks.map (fun k => (kv k, Value.bool true))) {x : MapEntry} (hx : x ∈ es.toList) : ∃ k ∈ ks, WideElems.rd (H := Unit) Tryz.prog T anyR x = some (lit k, .nil) ∧ x.key = kv k := by
 obtain ⟨k, hk, e1, _⟩ := BMap.entry he hx
 exact ⟨k, hk, by unfold WideElems.rd; rw [e1, K.key k (h.keys k hk)]; rfl, e1⟩
omit [DecidableEq α] in
theorem BMap.owns (K : KeyL T M kv lit Ok) (h : BMap kv Ok w b ks) (hl : ks.length ≤ maxLen) : ∃ D : DataW Unit, w.ownsMap Tryz.prog T anyR b ks.length D ∧ Maps.size D = ks.length := by
 have h0 := h
 obtain ⟨⟨es, c, hb, hst, he⟩, hs, ha⟩ := h
 have hsz : es.size = ks.length := by have := congrArg List.length he; simpa using this
 refine ⟨_, ⟨es, c, hb, ⟨by omega, hst, fun x hx => by obtain ⟨k, _, h, _⟩ := h0.rd K he hx; exact ⟨_, h⟩⟩, by omega, rfl⟩, ?_⟩
 rw [Maps.size_eq, length_sorted]; simp [hsz]
omit [DecidableEq α] in
theorem BMap.left (K : KeyL T M kv lit Ok) {D : DataW Unit} {left : Lit → Bool} {r n cnt : Nat} (h : BMap kv Ok w b ks) (hr : w.ranges Tryz.prog T anyR b r n D left cnt) {kl : Lit} (hk : left kl = true) : ∃ k ∈ ks, kl = lit k := by
 obtain ⟨⟨es0, c0, hb0, hst0, he0⟩, hs, ha⟩ := id h
 obtain ⟨es, clock, since, seen, c1, hb, _, _, _, _, _, _, _, hl, _⟩ := hr
 rw [hb0] at hb
 injection hb with hb
 injection hb with hb1 hb2
 subst hb1
 obtain ⟨x, hx, e⟩ := hl kl hk
 obtain ⟨k, hk', h1, _⟩ := h.rd K he0 hx
 refine ⟨k, hk', ?_⟩
 rw [← e, WideElems.rg_of h1]
omit [DecidableEq α] in
theorem BMap.has0 (K : KeyL T M kv lit Ok) {D : DataW Unit} {n : Nat} (h : BMap kv Ok w b ks) (ho : w.ownsMap Tryz.prog T anyR b n D) {k : α} (hk : k ∈ ks) : Maps.has D (lit k) = true := by
 obtain ⟨⟨es0, c0, hb0, hst0, he0⟩, hs, ha⟩ := id h
 obtain ⟨es, clock, hb, _, _, rfl⟩ := ho
 rw [hb0] at hb
 injection hb with hb
 injection hb with hb1 hb2
 subst hb1
 obtain ⟨e, hx, e1⟩ := BMap.entry' he0 hk
 obtain ⟨k', hk', h1, h2⟩ := h.rd K he0 hx
 have : k' = k := K.inj _ _ (hs k' hk') (hs k hk) (h2.symm.trans e1)
 subst this
 rw [Maps.has_eq, List.any_eq_true]
 refine ⟨WideElems.rg (H := Unit) Tryz.prog T anyR e, (WideShapes.sorted_perm _).mem_iff.2 (List.mem_map.2 ⟨e, hx, rfl⟩), ?_⟩
 rw [WideElems.rg_of h1]
 exact WideAt.sameKey_self (K.law.key (K.key k' (h.keys k' hk)))
omit [DecidableEq α] in
theorem KeyL.litInj (K : KeyL T M kv lit Ok) {x y : α} (hx : Ok x) (hy : Ok y) (h : lit x = lit y) : x = y := K.inj _ _ hx hy (K.law.inj (K.key x hx) (by rw [h]; exact K.key y hy))
structure Come (lit : α → Lit) (ks : List α) (left : Lit → Bool) (ss : List α) : Prop where
 nodup : ss.Nodup
 mem : ∀ k, k ∈ ss ↔ k ∈ ks ∧ left (lit k) = false
omit [DecidableEq α] in
theorem Come.start {left : Lit → Bool} (h : ∀ k ∈ ks, left (lit k) = true) : Come lit ks left [] := ⟨.nil, fun k => by
 constructor
 · intro h; simp at h
 · rintro ⟨h1, h2⟩; rw [h k h1] at h2; cases h2⟩
theorem Come.step (K : KeyL T M kv lit Ok) {left : Lit → Bool} {ss : List α} {x : α} (h : Come lit ks left ss) (hok : ∀ k ∈ ks, Ok k) (hx : x ∈ ks) (hl : left (lit x) = true) : Come lit ks (fun z => left z && !z.sameKey (lit x)) (ss ++ [x]) := by
 have hnew : x ∉ ss := fun hx => by have := ((h.mem x).1 hx).2; rw [hl] at this; cases this
 refine ⟨List.nodup_append.2 ⟨h.nodup, by simp, fun a ha b hb => by simp at hb; subst hb; exact fun e => hnew (e ▸ ha)⟩, fun y => ?_⟩
 by_cases hy : y = x
 · subst hy
   rw [WideAt.sameKey_self (K.law.key (K.key y (hok y hx)))]
   simp [hx]
 · rw [List.mem_append, h.mem y]
   simp only [List.mem_singleton, hy, or_false]
   constructor
   · rintro ⟨h1, h2⟩; exact ⟨h1, by rw [h2]; rfl⟩
   · rintro ⟨h1, h2⟩
     refine ⟨h1, ?_⟩
     have hs : (lit y).sameKey (lit x) = false := by
      cases e : (lit y).sameKey (lit x)
      · rfl
      · exact absurd (K.litInj (hok y h1) (hok x hx) (WideAt.sameKey_eq e)) hy
     rw [hs] at h2; simpa using h2
omit [DecidableEq α] in
theorem Come.done {left : Lit → Bool} {ss : List α} (h : Come lit ks left ss) (hl : ∀ kl, left kl = false) : ∀ k, k ∈ ss ↔ k ∈ ks := fun k => by rw [h.mem k]; simp [hl]
omit [DecidableEq α] in
theorem wpListIn_next_b (K : KeyL T M kv lit Ok) {F : Fence} {n : Nat} {ops : Array Oper} {rest : List Oper} {o : Oper} {a : Act} {w : World} {Q : Exit → Act → World → Prop} (hg : o.guard = none) (it : Operand) (hop : o.op = Op.next it false) (b r nn : Nat) (D : DataW Unit) (left : Lit → Bool) (cnt : Nat) (ks : List α)
 (hit : a.eval it = .pointer (some ⟨r, 0, none⟩)) (h : w.ranges Tryz.prog T anyR b r nn D left cnt) (hK : BMap kv Ok w b ks)
 (hDone : (∀ kl, left kl = false) → wpListIn F n Tryz.prog ops Q rest (a.put o.dst (.tuple #[.bool false])) w)
 (hMore : ∀ (x : α) (v : Value) (w' : World) (cnt' : Nat), x ∈ ks → left (lit x) = true → w'.ranges Tryz.prog T anyR b r nn D (fun z => left z && !z.sameKey (lit x)) cnt' → cnt' < cnt →
  w.grownBy w' (some r) → w'.heap.size = w.heap.size → (Instr.entry (.pointer (some ⟨r, 0, none⟩))).run Tryz.prog w' = .ok (.tuple #[kv x, v]) w' → wpListIn F n Tryz.prog ops Q rest (a.put o.dst (.tuple #[.bool true, kv x, v])) w') :
 wpListIn F n Tryz.prog ops Q (o :: rest) a w := by
 refine wpListIn_plain hg fun K' hK' => ?_
 unfold Oper.wpIn
 refine ⟨by simp [Oper.about, hop], ?_⟩
 rw [Oper.semAt_plain F _ _ (by rw [hop]; intro c hc'; cases hc')]
 rcases h.next K.law o.type with ⟨h0, hl, hrun⟩ | ⟨key, v, kl, y, w', cnt', hkey, hlk, hv, hat, hrun, hrg, hlt, hgr, hsz, hen⟩
 · simp [execOp, hop, hit, hrun, Result.andThen]
   exact hK' _ _ (hDone hl)
 · obtain ⟨x, hx, rfl⟩ := hK.left K h hlk
   obtain rfl := K.law.inj hkey (K.key x (hK.keys x hx))
   simp [execOp, hop, hit, hrun, Result.andThen]
   exact hK' _ _ (hMore x v w' cnt' hx hlk hrg hlt hgr hsz hen)
omit [DecidableEq α] in
theorem wpList_next_b (K : KeyL T M kv lit Ok) {ops : Array Oper} {rest : List Oper} {o : Oper} {a : Act} {w : World} {Q : Exit → Act → World → Prop} (hg : o.guard = none) (it : Operand) (hop : o.op = Op.next it false) (b r nn : Nat) (D : DataW Unit) (left : Lit → Bool) (cnt : Nat) (ks : List α)
 (hit : a.eval it = .pointer (some ⟨r, 0, none⟩)) (h : w.ranges Tryz.prog T anyR b r nn D left cnt) (hK : BMap kv Ok w b ks)
 (hDone : (∀ kl, left kl = false) → wpList Tryz.prog ops Q rest (a.put o.dst (.tuple #[.bool false])) w)
 (hMore : ∀ (x : α) (v : Value) (w' : World) (cnt' : Nat), x ∈ ks → left (lit x) = true → w'.ranges Tryz.prog T anyR b r nn D (fun z => left z && !z.sameKey (lit x)) cnt' → cnt' < cnt →
  w.grownBy w' (some r) → w'.heap.size = w.heap.size → (Instr.entry (.pointer (some ⟨r, 0, none⟩))).run Tryz.prog w' = .ok (.tuple #[kv x, v]) w' → wpList Tryz.prog ops Q rest (a.put o.dst (.tuple #[.bool true, kv x, v])) w') :
 wpList Tryz.prog ops Q (o :: rest) a w := by
 refine wpList_plain hg fun K' hK' => ?_
 unfold Oper.wp
 rcases h.next K.law o.type with ⟨h0, hl, hrun⟩ | ⟨key, v, kl, y, w', cnt', hkey, hlk, hv, hat, hrun, hrg, hlt, hgr, hsz, hen⟩
 · simp [execOp, hop, hit, hrun, Result.andThen]
   exact hK' _ _ (hDone hl)
 · obtain ⟨x, hx, rfl⟩ := hK.left K h hlk
   obtain rfl := K.law.inj hkey (K.key x (hK.keys x hx))
   simp [execOp, hop, hit, hrun, Result.andThen]
   exact hK' _ _ (hMore x v w' cnt' hx hlk hrg hlt hgr hsz hen)
end
def kiV (x : Int) : Value := .int .i64 x
def okI (x : Int) : Prop := (Lit.int .i64 x).wf = true
theorem int_key : KeyL 3 137 kiV (fun x => .int .i64 x) okI where
 law := Maps.int_keyed Tryz.underlying3
 und := Tryz.underlying137
 key := fun k hk => Maps.keyOf_int_mk Tryz.underlying3 hk
 inj := fun x y _ _ h => by simpa [kiV] using h
open Go.RowKit
def Met (l : List Rs) (p : Int) (k : Nat) (ks : List Int) : Prop := ∀ c, c ∈ ks ↔ ∃ j, j < k ∧ (l.getD j R0).rt = true ∧ (l.getD j R0).pz = p ∧ (l.getD j R0).cm = c
theorem met_start (l : List Rs) (p : Int) : Met l p 0 [] := fun c => by simp
theorem getD_of {l : List Rs} {k : Nat} {x : Rs} (hx : l[k]? = some x) : l.getD k R0 = x := by rw [List.getD_eq_getElem?_getD, hx]; rfl
theorem Met.cnt {l : List Rs} {p : Int} {k : Nat} {ks : List Int} {x : Rs} (h : Met l p k ks) (hx : l[k]? = some x) : cntB l p k = (x.rt && decide (x.pz = p) && !decide (x.cm ∈ ks)) := by
 unfold cntB
 rw [getD_of hx]
 congr 1
 rw [Bool.eq_iff_iff, List.all_eq_true, Bool.not_eq_true', decide_eq_false_iff_not, h x.cm]
 constructor
 · rintro h1 ⟨j, hj, a, b, c⟩
   have := h1 j (List.mem_range.2 hj)
   rw [a, decide_eq_true b, decide_eq_true c] at this
   cases this
 · intro h1 j hj
   rw [Bool.not_eq_true', Bool.eq_false_iff]
   intro h2
   simp only [Bool.and_eq_true, decide_eq_true_eq] at h2
   exact h1 ⟨j, List.mem_range.1 hj, h2.1.1, h2.1.2, h2.2⟩
theorem Met.skip {l : List Rs} {p : Int} {k : Nat} {ks : List Int} {x : Rs} (h : Met l p k ks) (hx : l[k]? = some x) (hn : x.rt = false ∨ x.pz ≠ p ∨ x.cm ∈ ks) : Met l p (k + 1) ks := fun c => by
 rw [h c]
 constructor
 · rintro ⟨j, hj, r⟩; exact ⟨j, by omega, r⟩
 · rintro ⟨j, hj, a, b, d⟩
   by_cases e : j = k
   · subst e
     rw [getD_of hx] at a b d
     rcases hn with hn | hn | hn
     · rw [hn] at a; cases a
     · exact absurd b hn
     · subst d; exact (h _).1 hn
   · exact ⟨j, by omega, a, b, d⟩
theorem Met.add {l : List Rs} {p : Int} {k : Nat} {ks : List Int} {x : Rs} (h : Met l p k ks) (hx : l[k]? = some x) (h1 : x.rt = true) (h2 : x.pz = p) (h3 : x.cm ∉ ks) : Met l p (k + 1) (if x.cm ∈ ks then ks else ks ++ [x.cm]) := fun c => by
 rw [if_neg h3, List.mem_append, h c, List.mem_singleton]
 constructor
 · rintro (⟨j, hj, r⟩ | rfl)
   · exact ⟨j, by omega, r⟩
   · exact ⟨k, by omega, by rw [getD_of hx]; exact ⟨h1, h2, rfl⟩⟩
 · rintro ⟨j, hj, a, b, d⟩
   by_cases e : j = k
   · subst e; rw [getD_of hx] at d; exact .inr d.symm
   · exact .inl ⟨j, by omega, a, b, d⟩
theorem cntTo_no {l : List Rs} {p : Int} {k : Nat} (h : cntB l p k = false) : cntTo l p (k + 1) = cntTo l p k := by rw [cntTo_succ, h]; simp
theorem cntTo_yes {l : List Rs} {p : Int} {k : Nat} (h : cntB l p k = true) : cntTo l p (k + 1) = cntTo l p k ++ [(k : Int)] := by rw [cntTo_succ, h]; simp
theorem cntTo_le (l : List Rs) (p : Int) : ∀ k : Nat, (cntTo l p k).length ≤ k
 | 0 => by simp [cntTo]
 | k + 1 => by
  have := cntTo_le l p k
  rw [cntTo_succ, List.length_append]
  split <;> simp <;> omega
theorem news1' (w : World) (x : Value) (t : TypeId) (s : Nat) (h : w.heap.size = s) : ∀ j u, [x][j]? = some u → (w.alloc (.cells #[x] t)).cell? ((⟨s, 0, none⟩ : Addr).add j) = some u := by subst h; exact cell_one_new w x t
set_option maxHeartbeats 2000000 in
set_option maxRecDepth 20000 in
theorem counted_any (al : Option Addr) (nl cl : Nat) (l : List Rs) (p : Int) (W : World) (h0 : SL encRs 6 W al nl cl l) (hn : nl ≤ 1000000) (hc : ∀ x ∈ l, 0 ≤ x.cm ∧ x.cm < 8) :
 Calls Tryz.prog 39 #[.slice al nl cl, .int .i64 p] W (RetOwn W 3 (cntL l p)) := by
 obtain ⟨i3, hi3, hz30, hz31, hz32⟩ := info_parts info_int
 have HL := Lib.hid h0.len
 have HC := Lib.hid hc
 have hbm := BMap.made kiV okI W
 have hmk := fun w => run_makeMap (P := Tryz.prog) 137 w
 clear hc
 go_enter Tryz.func39, Tryz.ntmps39
 go_wp2_with fail
 go_loopw [4, 11] (fun v4 i wr => ∃ (k : Nat) (ks : List Int), i = .int .i64 k ∧ k ≤ nl ∧ OwnInts wr (W.heap.size + 1) 3 v4 (cntTo l p k) ∧ BMap kiV okI wr W.heap.size ks ∧ Hid (Met l p k ks) ∧ Below W.heap.size W wr) (fun _ i _ => nl - (intOf i).toNat)
 case atStart => exact ⟨0, [], rfl, by omega, OwnInts.nil _ _ _, hbm, Lib.hid (met_start l p), (Below.refl _ _).alloc (Nat.le_refl _) _⟩
 case round =>
  rename_i v4
  obtain ⟨k, ks, rfl, hk, hO, hM, HM, hB⟩ := hrel
  have hbl := hM.lt
  by_cases hlt : k < nl
  rotate_left
  · obtain rfl : nl = k := by omega
    have HLL : Hid (cntTo l p nl = cntL l p) := Lib.hid (by unfold cntL; rw [HL.out])
    rw [HLL.out] at hO
    go_wp2_with fail
    go_ret
    exact ⟨_, rfl, hO.mono (by omega), hB⟩
  obtain ⟨b0, o0, rfl, hb0⟩ := h0.at' (by omega)
  obtain ⟨x, hX⟩ := h0.get hlt
  obtain ⟨e0, e1, e2, e3, e4, e5⟩ := (h0.below hB).rs6 hX
  have HX := Lib.hid hX
  have s0 : (0 : Int) ≤ (k : Int) := by omega
  have s1 : (k : Int) < (nl : Int) := by omega
  have hcx := HC.out x (List.mem_of_getElem? hX)
  have hok : okI x.cm := WalkArith.wf_i64 (by omega)
  have hCNT := HM.out.cnt hX
  have hbx := al0 wr #[.int .i64 x.cm, .int .i64 x.pz, .int .i64 x.tr, .int .i64 x.lo, .int .i64 x.hi, .bool x.rt] 53
  have hMx := hM.below hbx
  have hlk := hMx.look int_key x.cm hok
  simp only [kiV] at hlk
  have hOx := hO.below hbx
  have hBx := hB.on hbx
  have hr : Box (wr.alloc (.cells #[.int .i64 x.cm, .int .i64 x.pz, .int .i64 x.tr, .int .i64 x.lo, .int .i64 x.hi, .bool x.rt] 53)) wr.heap.size #[.int .i64 x.cm, .int .i64 x.pz, .int .i64 x.tr, .int .i64 x.lo, .int .i64 x.hi, .bool x.rt] 53 := Box.new _ _ _
  obtain ⟨r0, r1, r2, r3, r4, r5⟩ := hr.g6
  have hlr := hr.lt
  have HOX := Lib.hid hOx
  have HMX := Lib.hid hMx
  have HBX := Lib.hid hBx
  have HOK := Lib.hid hok
  clear hX hcx hbx hOx hMx hBx hr hO hM hok
  have HCNT := Lib.hid hCNT
  clear hCNT
  cases hrt : x.rt
  · rw [hrt] at r5 e5 HMX HBX HOX hlk
    have HF := Lib.hid hrt
    clear hrt
    go_wp2_with fail
    go_roundw
    case rel =>
     refine ⟨k + 1, ks, by go_num, by omega, ?_, HMX.out, Lib.hid (HM.out.skip HX.out (.inl HF.out)), HBX.out⟩
     rw [cntTo_no (by rw [HCNT.out, HF.out]; rfl)]; exact HOX.out
    case measure => simp [intOf]; omega
  rw [hrt] at r5 e5 HMX HBX HOX hlk
  have HRT := Lib.hid hrt
  clear hrt
  by_cases hp : x.pz = p
  rotate_left
  · have g1 : (x.pz == p) = false := by simpa using hp
    have HF := Lib.hid hp
    clear hp
    go_wp2_with fail
    go_roundw
    case rel =>
     refine ⟨k + 1, ks, by go_num, by omega, ?_, HMX.out, Lib.hid (HM.out.skip HX.out (.inr (.inl HF.out))), HBX.out⟩
     rw [cntTo_no (by rw [HCNT.out, decide_eq_false HF.out]; simp)]; exact HOX.out
    case measure => simp [intOf]; omega
  have g1 : (x.pz == p) = true := by simpa using hp
  have HP := Lib.hid hp
  clear hp
  cases hm : decide (x.cm ∈ ks)
  rotate_left
  · rw [hm] at hlk
    have HF := Lib.hid hm
    clear hm
    go_wp2_with fail
    go_roundw
    case rel =>
     refine ⟨k + 1, ks, by go_num, by omega, ?_, HMX.out, Lib.hid (HM.out.skip HX.out (.inr (.inr (of_decide_eq_true HF.out)))), HBX.out⟩
     rw [cntTo_no (by rw [HCNT.out, HF.out]; simp)]; exact HOX.out
    case measure => simp [intOf]; omega
  rw [hm] at hlk
  have HNM := Lib.hid (of_decide_eq_false hm)
  have HF := Lib.hid hm
  clear hm
  obtain ⟨w9, hput, hM9, hg9, -⟩ := HMX.out.put int_key x.cm HOK.out
  simp only [kiV] at hput
  have hO9 := HOX.out.grown hg9 (.inr fun e => by have := (HOX.out.lt _ e).1; omega)
  have hB9 := HBX.out.grown hg9 HBX.out.size (fun b e => by injection e with e; omega)
  have hcl : (cntTo l p k).length ≤ nl := Nat.le_trans (cntTo_le l p k) hk
  have hM9' : BMap kiV okI w9 W.heap.size (if x.cm ∈ ks then ks else ks ++ [x.cm]) := hM9
  have HM9 := Lib.hid hM9'
  have HB9 := Lib.hid hB9
  have hl9 := hM9.lt
  have HO9 := Lib.hid hO9
  clear hM9 hM9' hB9 hO9 hg9
  go_wp2_with (at_builtin; refine wpList_append_own2 _ rfl _ _ 22 rfl (W.heap.size + 1) 3 i3 _ 1 8 Tryz.underlying22 hi3 hz30 hz31 hz32 rfl (by decide) _ _ _ (HO9.out.alloc _) rfl ⟨_, 0, none⟩ 1 1 [.int .i64 k] rfl rfl (news1' _ _ _ _ (by first | rfl | simp)) (by simp [Value.oneCell']) (by unfold maxLen; omega) (by omega) (by first | omega | (simp; omega)) ?_; intro v' w1 hown' hgrow hfr)
  go_roundw
  case rel =>
   have hal : Below w9.heap.size w9 (w9.alloc (.cells #[.int .i64 k] 3)) := al0 _ _ _
   have hO := HO9.out
   refine ⟨k + 1, _, by go_num, by omega, ?_, (HM9.out.below hal).grown hgrow (fun e => by have := (hO.lt _ e.symm).1; omega), Lib.hid (HM.out.add HX.out HRT.out HP.out HNM.out), (HB9.out.on hal).grown hgrow (HB9.out.on hal).size (fun b e => by have := (hO.lt _ e).1; omega)⟩
   rw [cntTo_yes (by rw [HCNT.out, HRT.out, HP.out, HF.out]; simp)]
   exact OwnInts.snoc hown'
  case measure => simp [intOf]; omega
open Go.RowKit
def Int1 (n : Int) (W : World) (e : Ending) (w' : World) : Prop := e = .returned (.int .i64 n) ∧ W = w'
theorem int1 {a b : Int} {W : World} (h : a = b) : Int1 b W (.returned (.int .i64 a)) W := ⟨by rw [h], rfl⟩
theorem hold_any (n : Int) (W : World) : Calls Tryz.prog 90 #[.int .i64 n] W (Int1 (holdI n) W) := by
 have HE : Hid (holdI n = max (-1099511627776) (min 1099511627776 n)) := Lib.hid rfl
 go_enter Tryz.func90, Tryz.ntmps90
 go_wp2_with fail
 all_goals
  go_ret
  exact int1 (by rw [HE.out]; omega)
theorem less_run (a b : Int) (W : World) : Calls Tryz.prog 96 #[.int .i64 a, .int .i64 b] W (Int1 (opI 9 a b) W) := by
 have HE : Hid (opI 9 a b = if a < b then 1 else 0) := Lib.hid rfl
 by_cases h : a < b
 · go_enter Tryz.func96, Tryz.ntmps96
   go_wp2_with fail
   go_ret
   exact int1 (by rw [HE.out, if_pos h])
 · go_enter Tryz.func96, Tryz.ntmps96
   go_wp2_with fail
   go_ret
   exact int1 (by rw [HE.out, if_neg (Int.not_lt.2 h)])
theorem wrong_any (x : Int) (W : World) : Calls Tryz.prog 88 #[.int .i64 x] W fun e w' => RetB W (.bool (decide (x < 0) || decide (1048576 < x))) e w' := by
 by_cases h : x < 0
 · go_enter Tryz.func88, Tryz.ntmps88
   go_wp2_with fail
   go_ret
   exact ⟨by simp [h], Below.refl _ _⟩
 · have h' : decide (x < 0) = false := decide_eq_false h
   go_enter Tryz.func88, Tryz.ntmps88
   go_wp2_with fail
   all_goals
    go_ret
    exact ⟨by simp [*], Below.refl _ _⟩
def BdX (a : Int) : Prop := -topI ≤ a ∧ a ≤ topI
theorem add_run (a b : Int) (W : World) (ha : BdX a) (hb : BdX b) : Calls Tryz.prog 89 #[.int .i64 a, .int .i64 b] W (Int1 (opI 3 a b) W) := by
 have hw : IntKind.i64.wrap (a + b) = a + b := by rw [IntKind.wrap_i64]; unfold BdX topI at ha hb; omega
 have HE : Hid (opI 3 a b = holdI (a + b)) := Lib.hid rfl
 clear ha hb
 go_enter Tryz.func89, Tryz.ntmps89
 go_wp2_with fail
 refine (hold_any _ _).mono ?_
 rintro e w' ⟨rfl, rfl⟩
 go_wp2_with fail
 go_ret
 exact int1 (by rw [HE.out])
theorem sub_run (a b : Int) (W : World) (ha : BdX a) (hb : BdX b) : Calls Tryz.prog 91 #[.int .i64 a, .int .i64 b] W (Int1 (opI 4 a b) W) := by
 have hw : IntKind.i64.wrap (a - b) = a - b := by rw [IntKind.wrap_i64]; unfold BdX topI at ha hb; omega
 have HE : Hid (opI 4 a b = holdI (a - b)) := Lib.hid rfl
 clear ha hb
 go_enter Tryz.func91, Tryz.ntmps91
 go_wp2_with fail
 refine (hold_any _ _).mono ?_
 rintro e w' ⟨rfl, rfl⟩
 go_wp2_with fail
 go_ret
 exact int1 (by rw [HE.out])
theorem min_run (a b : Int) (W : World) : Calls Tryz.prog 94 #[.int .i64 a, .int .i64 b] W (Int1 (opI 7 a b) W) := by
 have HE : Hid (opI 7 a b = min a b) := Lib.hid rfl
 go_enter Tryz.func94, Tryz.ntmps94
 go_wp2_with fail
 all_goals
  go_ret
  exact int1 (by rw [HE.out]; omega)
theorem max_run (a b : Int) (W : World) : Calls Tryz.prog 95 #[.int .i64 a, .int .i64 b] W (Int1 (opI 8 a b) W) := by
 have HE : Hid (opI 8 a b = max a b) := Lib.hid rfl
 go_enter Tryz.func95, Tryz.ntmps95
 go_wp2_with fail
 all_goals
  go_ret
  exact int1 (by rw [HE.out]; omega)
theorem over_run (a b : Int) (W : World) (ha : BdX a) (hb : BdX b) : Calls Tryz.prog 93 #[.int .i64 a, .int .i64 b] W (Int1 (opI 6 a b) W) := by
 have HE : Hid (opI 6 a b = overI a b) := Lib.hid rfl
 by_cases h0 : b = 0
 · subst h0
   have HV : Hid (overI a 0 = 0) := Lib.hid rfl
   clear ha hb
   go_enter Tryz.func93, Tryz.ntmps93
   go_wp2_with fail
   go_ret
   exact int1 (by rw [HE.out, HV.out])
 have n0 : (b == 0) = false := by simpa using h0
 have h1 : (a.tdiv b).natAbs ≤ a.natAbs := by rw [Int.natAbs_tdiv]; exact Nat.div_le_self _ _
 have h2 : (a.tmod b).natAbs ≤ a.natAbs := by rw [Int.natAbs_tmod]; exact Nat.mod_le _ _
 have hw1 : IntKind.i64.wrap (a.tdiv b) = a.tdiv b := by rw [IntKind.wrap_i64]; unfold BdX topI at ha hb; omega
 have hw2 : IntKind.i64.wrap (a.tmod b) = a.tmod b := by rw [IntKind.wrap_i64]; unfold BdX topI at ha hb; omega
 have hw3 : IntKind.i64.wrap (a.tdiv b - 1) = a.tdiv b - 1 := by rw [IntKind.wrap_i64]; unfold BdX topI at ha hb; omega
 have HV : Hid (overI a b = if a.tmod b ≠ 0 ∧ decide (a < 0) ≠ decide (b < 0) then a.tdiv b - 1 else a.tdiv b) := Lib.hid (by unfold overI; rw [if_neg h0])
 clear h1 h2 ha hb
 by_cases m0 : a.tmod b = 0
 · have n1 : (a.tmod b != 0) = false := by simpa using m0
   have HV2 : Hid (overI a b = a.tdiv b) := Lib.hid (by rw [HV.out, if_neg (fun h => h.1 m0)])
   clear HV
   go_enter Tryz.func93, Tryz.ntmps93
   go_wp2_with fail
   go_ret
   exact int1 (by rw [HE.out, HV2.out])
 · have n1 : (a.tmod b != 0) = true := by simpa using m0
   have HM := Lib.hid m0
   cases sa : decide (a < 0) <;> cases sb : decide (b < 0)
   · have ga : decide (a < 0) = false := sa
     have gb : decide (b < 0) = false := sb
     have HV2 : Hid (overI a b = a.tdiv b) := Lib.hid (by rw [HV.out]; simp [m0, sa, sb])
     clear HV m0 sa sb
     go_enter Tryz.func93, Tryz.ntmps93
     go_wp2_with fail

     go_ret
     exact int1 (by rw [HE.out, HV2.out])
   · have ga : decide (a < 0) = false := sa
     have gb : decide (b < 0) = true := sb
     have HV2 : Hid (overI a b = a.tdiv b - 1) := Lib.hid (by rw [HV.out]; simp [m0, sa, sb])
     clear HV m0 sa sb
     go_enter Tryz.func93, Tryz.ntmps93
     go_wp2_with fail

     go_ret
     exact int1 (by rw [HE.out, HV2.out])
   · have ga : decide (a < 0) = true := sa
     have gb : decide (b < 0) = false := sb
     have HV2 : Hid (overI a b = a.tdiv b - 1) := Lib.hid (by rw [HV.out]; simp [m0, sa, sb])
     clear HV m0 sa sb
     go_enter Tryz.func93, Tryz.ntmps93
     go_wp2_with fail

     go_ret
     exact int1 (by rw [HE.out, HV2.out])
   · have ga : decide (a < 0) = true := sa
     have gb : decide (b < 0) = true := sb
     have HV2 : Hid (overI a b = a.tdiv b) := Lib.hid (by rw [HV.out]; simp [m0, sa, sb])
     clear HV m0 sa sb
     go_enter Tryz.func93, Tryz.ntmps93
     go_wp2_with fail

     go_ret
     exact int1 (by rw [HE.out, HV2.out])
theorem times_run (a b : Int) (W : World) (ha : BdX a) (hb : BdX b) : Calls Tryz.prog 92 #[.int .i64 a, .int .i64 b] W (Int1 (opI 5 a b) W) := by
 have HE : Hid (opI 5 a b = timesI a b) := Lib.hid rfl
 have hna : IntKind.i64.wrap (-a) = -a := by rw [IntKind.wrap_i64]; unfold BdX topI at ha hb; omega
 have hnb : IntKind.i64.wrap (-b) = -b := by rw [IntKind.wrap_i64]; unfold BdX topI at ha hb; omega
 by_cases h0 : b = 0
 · subst h0
   have HV : Hid (timesI a 0 = 0) := Lib.hid (by unfold timesI; simp)
   have hm : a * 0 = 0 := Int.mul_zero a
   have hz : IntKind.i64.wrap 0 = 0 := by rw [IntKind.wrap_i64]; omega
   clear ha hb
   go_enter Tryz.func92, Tryz.ntmps92
   go_wp2_with fail
   go_ret
   exact int1 (by rw [HE.out, HV.out])
 have n0 : (b != 0) = true := by simpa using h0
 have hqn : (Int.tdiv 1099511627776 b).natAbs ≤ 1099511627776 := by rw [Int.natAbs_tdiv]; exact Nat.div_le_self _ _
 have HQ : Hid (IntKind.i64.wrap (Int.tdiv 1099511627776 b) = Int.tdiv 1099511627776 b) := Lib.hid (by rw [IntKind.wrap_i64]; omega)
 have HQN : Hid (IntKind.i64.wrap (-Int.tdiv 1099511627776 b) = -Int.tdiv 1099511627776 b) := Lib.hid (by rw [IntKind.wrap_i64]; omega)
 have HD : Hid ((1099511627776 : Int) / max b (-b) = Int.tdiv 1099511627776 (max b (-b))) := Lib.hid (Int.tdiv_eq_ediv_of_nonneg (by omega)).symm
 clear hqn
 have HM : Hid (¬ (topI / max b (-b) < max a (-a)) → IntKind.i64.wrap (a * b) = a * b) := Lib.hid fun h => by
  have h2 := times_bd ha hb
  unfold timesI at h2
  rw [if_neg (fun h3 => h h3.2)] at h2
  rw [IntKind.wrap_i64]; unfold topI at h2; omega
 have HV : Hid (timesI a b = if topI / max b (-b) < max a (-a) then (if decide (a < 0) ≠ decide (b < 0) then -topI else topI) else a * b) := Lib.hid (by unfold timesI; simp only [h0, ne_eq, not_false_eq_true, true_and])
 have HT : Hid (topI = 1099511627776) := Lib.hid rfl
 have HA := Lib.hid ha
 have HB := Lib.hid hb
 clear ha hb
 by_cases sa : a < 0 <;> by_cases sb : b < 0
 · have ga : decide (a < 0) = true := by simpa using sa
   have gb : decide (b < 0) = true := by simpa using sb
   have ma : a < -a := by omega
   have mb : b < -b := by omega
   have hwq := HQN.out
   have HEA : Hid (max a (-a) = -a) := Lib.hid (by omega)
   have HEB : Hid (max b (-b) = -b) := Lib.hid (by omega)
   have HTT : Hid ((topI / max b (-b) < max a (-a)) = (a < Int.tdiv 1099511627776 b)) := Lib.hid (by rw [HT.out, HD.out, HEA.out, HEB.out]; (try rw [Int.tdiv_neg]); all_goals exact propext ⟨fun h => by omega, fun h => by omega⟩)
   cases t0 : decide (a < Int.tdiv 1099511627776 b)
   · have HR : Hid (timesI a b = a * b) := Lib.hid (by rw [HV.out, if_neg]; rw [HTT.out]; simpa using t0)
     have hwm : IntKind.i64.wrap (a * b) = a * b := HM.out (by rw [HTT.out]; simpa using t0)
     have t1 : decide (a < Int.tdiv 1099511627776 b) = false := t0
     clear t0 HM HV sa sb
     go_enter Tryz.func92, Tryz.ntmps92
     go_wp2_with fail
     go_ret
     exact int1 (by rw [HE.out, HR.out])
   · have HR : Hid (timesI a b = 1099511627776) := Lib.hid (by rw [HV.out, if_pos (by rw [HTT.out]; simpa using t0), ga, gb]; rfl)
     have t1 : decide (a < Int.tdiv 1099511627776 b) = true := t0
     clear t0 HM HV sa sb
     go_enter Tryz.func92, Tryz.ntmps92
     go_wp2_with fail
     go_ret
     exact int1 (by rw [HE.out, HR.out])
 · have ga : decide (a < 0) = true := by simpa using sa
   have gb : decide (b < 0) = false := by simpa using sb
   have ma : a < -a := by omega
   have mb : -b ≤ b := by omega
   have hwq := HQ.out
   have HEA : Hid (max a (-a) = -a) := Lib.hid (by omega)
   have HEB : Hid (max b (-b) = b) := Lib.hid (by omega)
   have HTT : Hid ((topI / max b (-b) < max a (-a)) = (Int.tdiv 1099511627776 b < -a)) := Lib.hid (by rw [HT.out, HD.out, HEA.out, HEB.out]; (try rw [Int.tdiv_neg]); all_goals exact propext ⟨fun h => by omega, fun h => by omega⟩)
   cases t0 : decide (Int.tdiv 1099511627776 b < -a)
   · have HR : Hid (timesI a b = a * b) := Lib.hid (by rw [HV.out, if_neg]; rw [HTT.out]; simpa using t0)
     have hwm : IntKind.i64.wrap (a * b) = a * b := HM.out (by rw [HTT.out]; simpa using t0)
     have t1 : decide (Int.tdiv 1099511627776 b < -a) = false := t0
     clear t0 HM HV sa sb
     go_enter Tryz.func92, Tryz.ntmps92
     go_wp2_with fail
     go_ret
     exact int1 (by rw [HE.out, HR.out])
   · have HR : Hid (timesI a b = -1099511627776) := Lib.hid (by rw [HV.out, if_pos (by rw [HTT.out]; simpa using t0), ga, gb]; rfl)
     have t1 : decide (Int.tdiv 1099511627776 b < -a) = true := t0
     clear t0 HM HV sa sb
     go_enter Tryz.func92, Tryz.ntmps92
     go_wp2_with fail
     go_ret
     exact int1 (by rw [HE.out, HR.out])
 · have ga : decide (a < 0) = false := by simpa using sa
   have gb : decide (b < 0) = true := by simpa using sb
   have ma : -a ≤ a := by omega
   have mb : b < -b := by omega
   have hwq := HQN.out
   have HEA : Hid (max a (-a) = a) := Lib.hid (by omega)
   have HEB : Hid (max b (-b) = -b) := Lib.hid (by omega)
   have HTT : Hid ((topI / max b (-b) < max a (-a)) = (-Int.tdiv 1099511627776 b < a)) := Lib.hid (by rw [HT.out, HD.out, HEA.out, HEB.out]; (try rw [Int.tdiv_neg]); all_goals exact propext ⟨fun h => by omega, fun h => by omega⟩)
   cases t0 : decide (-Int.tdiv 1099511627776 b < a)
   · have HR : Hid (timesI a b = a * b) := Lib.hid (by rw [HV.out, if_neg]; rw [HTT.out]; simpa using t0)
     have hwm : IntKind.i64.wrap (a * b) = a * b := HM.out (by rw [HTT.out]; simpa using t0)
     have t1 : decide (-Int.tdiv 1099511627776 b < a) = false := t0
     clear t0 HM HV sa sb
     go_enter Tryz.func92, Tryz.ntmps92
     go_wp2_with fail
     go_ret
     exact int1 (by rw [HE.out, HR.out])
   · have HR : Hid (timesI a b = -1099511627776) := Lib.hid (by rw [HV.out, if_pos (by rw [HTT.out]; simpa using t0), ga, gb]; rfl)
     have t1 : decide (-Int.tdiv 1099511627776 b < a) = true := t0
     clear t0 HM HV sa sb
     go_enter Tryz.func92, Tryz.ntmps92
     go_wp2_with fail
     go_ret
     exact int1 (by rw [HE.out, HR.out])
 · have ga : decide (a < 0) = false := by simpa using sa
   have gb : decide (b < 0) = false := by simpa using sb
   have ma : -a ≤ a := by omega
   have mb : -b ≤ b := by omega
   have hwq := HQ.out
   have HEA : Hid (max a (-a) = a) := Lib.hid (by omega)
   have HEB : Hid (max b (-b) = b) := Lib.hid (by omega)
   have HTT : Hid ((topI / max b (-b) < max a (-a)) = (Int.tdiv 1099511627776 b < a)) := Lib.hid (by rw [HT.out, HD.out, HEA.out, HEB.out]; (try rw [Int.tdiv_neg]); all_goals exact propext ⟨fun h => by omega, fun h => by omega⟩)
   cases t0 : decide (Int.tdiv 1099511627776 b < a)
   · have HR : Hid (timesI a b = a * b) := Lib.hid (by rw [HV.out, if_neg]; rw [HTT.out]; simpa using t0)
     have hwm : IntKind.i64.wrap (a * b) = a * b := HM.out (by rw [HTT.out]; simpa using t0)
     have t1 : decide (Int.tdiv 1099511627776 b < a) = false := t0
     clear t0 HM HV sa sb
     go_enter Tryz.func92, Tryz.ntmps92
     go_wp2_with fail
     go_ret
     exact int1 (by rw [HE.out, HR.out])
   · have HR : Hid (timesI a b = 1099511627776) := Lib.hid (by rw [HV.out, if_pos (by rw [HTT.out]; simpa using t0), ga, gb]; rfl)
     have t1 : decide (Int.tdiv 1099511627776 b < a) = true := t0
     clear t0 HM HV sa sb
     go_enter Tryz.func92, Tryz.ntmps92
     go_wp2_with fail
     go_ret
     exact int1 (by rw [HE.out, HR.out])
end Go.Proofs.YtehoidohallfcaaGreatDoor
