/- Maps from keys to true, of the call's own: known by their keys, in the order in which they came, whatever the keys' type. -/
import Derived.WalkKit
import Derived.DeepKeys5
import Derived.Maps.OwnSet
import Derived.Maps.Views
import Derived.Maps.RangeWalk
import Derived.Sort.MapsRangeIn
import Derived.Test.YtehoidohallfcaaGreatDoorRnk
namespace Go.Proofs.YtehoidohallfcaaGreatDoor
open Go.RowKit

/-- What a key's type and its maps to bools are. -/
structure KeyL {α : Type} (T M : TypeId) (kv : α → Value) (lit : α → Lit) (Ok : α → Prop) : Prop where
  law : Maps.Keyed Tryz.prog T
  und : Tryz.prog.underlying M = some (.map T 4)
  key : ∀ k, Ok k → keyOf Tryz.prog T (kv k) = some (lit k)
  inj : ∀ x y, Ok x → Ok y → kv x = kv y → x = y

open Go.ChangeMaps Go.MapKept in
/-- Block b is a map whose keys are ks, in the order in which they came, each once; each of them is marked true. -/
structure BMap {α : Type} (kv : α → Value) (Ok : α → Prop) (w : World) (b : Nat) (ks : List α) : Prop where
  has : ∃ es clock, w.heap[b]? = some (.map es clock) ∧ MapKept.Stamped es clock ∧ es.toList.map (fun e => (e.key, e.val)) = ks.map (fun k => (kv k, Value.bool true))
  keys : ∀ x ∈ ks, Ok x
  nodup : ks.Nodup
section
variable {α : Type} [DecidableEq α] {T M : TypeId} {kv : α → Value} {lit : α → Lit} {Ok : α → Prop} {w w' : World} {b : Nat} {ks : List α}
omit [DecidableEq α] in
theorem BMap.made (kv : α → Value) (Ok : α → Prop) (w : World) : BMap kv Ok (w.alloc (.map #[] 0)) w.heap.size [] := ⟨⟨#[], 0, (MapKept.heap_alloc w _).1, MapKept.stamped_empty 0, rfl⟩, by simp, .nil⟩
omit [DecidableEq α] in
theorem BMap.lt (h : BMap kv Ok w b ks) : b < w.heap.size := by
  obtain ⟨⟨es, c, hb, _⟩, _⟩ := h
  exact (Array.getElem?_eq_some_iff.1 hb).1
omit [DecidableEq α] in
theorem BMap.heap (h : BMap kv Ok w b ks) (e : w'.heap[b]? = w.heap[b]?) : BMap kv Ok w' b ks := by
  obtain ⟨⟨es, c, h1, h2⟩, h3, h4⟩ := h
  exact ⟨⟨es, c, e.trans h1, h2⟩, h3, h4⟩
omit [DecidableEq α] in
theorem BMap.below (h : BMap kv Ok w b ks) (hb : Below w.heap.size w w') : BMap kv Ok w' b ks := h.heap (hb.block b h.lt)
omit [DecidableEq α] in
theorem BMap.grown {row : Option Nat} (h : BMap kv Ok w b ks) (hg : w.grownBy w' row) (hne : some b ≠ row) : BMap kv Ok w' b ks := h.heap (hg.block b h.lt hne)
omit [DecidableEq α] in
theorem BMap.entry {es : Array MapEntry} (h : es.toList.map (fun e => (e.key, e.val)) = ks.map (fun k => (kv k, Value.bool true))) {e : MapEntry} (he : e ∈ es.toList) : ∃ x ∈ ks, e.key = kv x ∧ e.val = .bool true := by
  have : (e.key, e.val) ∈ ks.map (fun k => (kv k, Value.bool true)) := by rw [← h]; exact List.mem_map.2 ⟨e, he, rfl⟩
  obtain ⟨x, hx, e1⟩ := List.mem_map.1 this
  injection e1 with e1 e2
  exact ⟨x, hx, e1.symm, e2.symm⟩
omit [DecidableEq α] in
theorem BMap.entry' {es : Array MapEntry} (h : es.toList.map (fun e => (e.key, e.val)) = ks.map (fun k => (kv k, Value.bool true))) {x : α} (hx : x ∈ ks) : ∃ e ∈ es.toList, e.key = kv x := by
  have : (kv x, Value.bool true) ∈ es.toList.map (fun e => (e.key, e.val)) := by rw [h]; exact List.mem_map.2 ⟨x, hx, rfl⟩
  obtain ⟨e, he, e1⟩ := List.mem_map.1 this
  injection e1 with e1 _
  exact ⟨e, he, e1⟩
theorem BMap.look (K : KeyL T M kv lit Ok) (h : BMap kv Ok w b ks) (k : α) (hk : Ok k) :
    (Instr.lookup M (.map (some b)) (kv k) false).run Tryz.prog w = .ok (.bool (decide (k ∈ ks))) w := by
  have hkk := K.key k hk
  have hz : (zeroValue 4).run Tryz.prog w = .ok (.bool false) w := by kernel_rfl
  obtain ⟨⟨es, c, hb, hst, he⟩, hs, ha⟩ := h
  rcases K.law.find w hkk es.toList (fun e hm => by obtain ⟨x, hx, e1, _⟩ := BMap.entry he hm; exact ⟨_, by rw [e1]; exact K.key x (hs x hx)⟩) with ⟨h1, h2⟩ | ⟨j, e0, h1, h2, h3⟩
  · have hn : decide (k ∈ ks) = false := decide_eq_false fun hx => by obtain ⟨e1, he1, he2⟩ := BMap.entry' he hx; exact h2 e1 he1 he2
    rw [hn]
    simp [Instr.lookup, run_underlying K.und, MapKept.run_getObj_map hb, K.law.check w _ hkk, h1, hz, Result.andThen]
  · obtain ⟨x, hx, e1, e2⟩ := BMap.entry he (List.mem_of_getElem? h2)
    rw [h3] at e1
    obtain rfl : x = k := K.inj _ _ (hs x hx) hk e1.symm
    rw [decide_eq_true hx]
    simp [Instr.lookup, run_underlying K.und, MapKept.run_getObj_map hb, K.law.check w _ hkk, h1, e2, Result.andThen]
theorem BMap.put (K : KeyL T M kv lit Ok) (h : BMap kv Ok w b ks) (k : α) (hk : Ok k) :
    ∃ w', (Instr.mapUpdate M (.map (some b)) (kv k) (.bool true)).run Tryz.prog w = .ok () w' ∧ BMap kv Ok w' b (if k ∈ ks then ks else ks ++ [k]) ∧ w.grownBy w' (some b) ∧ w'.heap.size = w.heap.size := by
  obtain ⟨⟨es, c, hb, hst, he⟩, hs, ha⟩ := h
  rcases K.law.find w (K.key k hk) es.toList (fun e hm => by obtain ⟨x, hx, e1, _⟩ := BMap.entry he hm; exact ⟨_, by rw [e1]; exact K.key _ (hs x hx)⟩) with ⟨h1, h2⟩ | ⟨j, e0, h1, h2, h3⟩
  · have hn : k ∉ ks := fun hx => by obtain ⟨e1, he1, he2⟩ := BMap.entry' he hx; exact h2 e1 he1 he2
    rw [if_neg hn]
    refine ⟨ChangeMaps.setBlock w b (.map (es.push ⟨kv k, .bool true, c⟩) (c + 1)), ?_, ⟨⟨_, _, ChangeMaps.heap_setBlock_same hb _, MapKept.stamped_push hst h2, ?_⟩, ?_, ?_⟩, ⟨rfl, rfl, rfl, by simp [ChangeMaps.setBlock], fun i _ hi => ChangeMaps.heap_setBlock_other hb _ (fun e => hi (by rw [e]))⟩, by simp [ChangeMaps.setBlock]⟩
    · simp [Instr.mapUpdate, run_underlying K.und, MapKept.run_getObj_map hb, K.law.check w false (K.key k hk), h1, MapKept.run_setObj_map _ hb, Result.andThen, ChangeMaps.setBlock]
    · rw [Array.toList_push, List.map_append, he, List.map_append]; rfl
    · intro x hx
      rcases List.mem_append.1 hx with hx | hx
      · exact hs x hx
      · rw [List.mem_singleton.1 hx]; exact hk
    · rw [List.nodup_append]
      exact ⟨ha, by simp, fun x hx y hy e => by rw [List.mem_singleton.1 hy] at e; exact hn (by rw [← e]; exact hx)⟩
  · obtain ⟨x, hx, e1, e2⟩ := BMap.entry he (List.mem_of_getElem? h2)
    have e1' := e1
    rw [h3] at e1
    obtain rfl : x = k := K.inj _ _ (hs x hx) hk e1.symm
    rw [if_pos hx]
    have hj : es[j]? = some e0 := by simpa using h2
    refine ⟨ChangeMaps.setBlock w b (.map (es.modify j fun e => { e with key := kv x, val := .bool true }) c), ?_, ⟨⟨_, _, ChangeMaps.heap_setBlock_same hb _, MapKept.stamped_modify hst j _ (fun _ _ => rfl) (fun e _ h => by rw [hj] at h; cases h; exact h3.symm), ?_⟩, hs, ha⟩, ⟨rfl, rfl, rfl, by simp [ChangeMaps.setBlock], fun i _ hi => ChangeMaps.heap_setBlock_other hb _ (fun e => hi (by rw [e]))⟩, by simp [ChangeMaps.setBlock]⟩
    · have hst := K.law.stays w (K.key x hk)
      simp [Instr.mapUpdate, run_underlying K.und, MapKept.run_getObj_map hb, K.law.check w false (K.key x hk), h1, hj, h3, hst, MapKept.run_setObj_map _ hb, Result.andThen, ChangeMaps.setBlock]
    · rw [← he]
      apply List.ext_getElem?
      intro i
      simp only [List.getElem?_map, Array.getElem?_toList, Array.getElem?_modify]
      by_cases e : j = i
      · subst e; rw [hj]; simp [h3, e2]
      · rw [if_neg e]
omit [DecidableEq α] in
theorem BMap.size (h : BMap kv Ok w b ks) : ∃ es c, w.heap[b]? = some (.map es c) ∧ es.size = ks.length := by
  obtain ⟨⟨es, c, hb, hst, he⟩, hs, ha⟩ := h
  exact ⟨es, c, hb, by have := congrArg List.length he; simpa using this⟩
/-- For the iterator. -/
def anyR : Value → Option (DataW Unit × List MemPlace) := fun _ => some (.nil, [])
omit [DecidableEq α] in
theorem BMap.rd (K : KeyL T M kv lit Ok) (h : BMap kv Ok w b ks) {es : Array MapEntry} (he : es.toList.map (fun e => (e.key, e.val)) = ks.map (fun k => (kv k, Value.bool true))) {x : MapEntry} (hx : x ∈ es.toList) : ∃ k ∈ ks, WideElems.rd (H := Unit) Tryz.prog T anyR x = some (lit k, .nil) ∧ x.key = kv k := by
  obtain ⟨k, hk, e1, _⟩ := BMap.entry he hx
  exact ⟨k, hk, by unfold WideElems.rd; rw [e1, K.key k (h.keys k hk)]; rfl, e1⟩
omit [DecidableEq α] in
theorem BMap.owns (K : KeyL T M kv lit Ok) (h : BMap kv Ok w b ks) (hl : ks.length ≤ maxLen) : ∃ D : DataW Unit, w.ownsMap Tryz.prog T anyR b ks.length D ∧ Maps.size D = ks.length := by
  have h0 := h
  obtain ⟨⟨es, c, hb, hst, he⟩, hs, ha⟩ := h
  have hsz : es.size = ks.length := by have := congrArg List.length he; simpa using this
  refine ⟨_, ⟨es, c, hb, ⟨by omega, hst, fun x hx => by obtain ⟨k, _, h, _⟩ := h0.rd K he hx; exact ⟨_, h⟩⟩, by omega, rfl⟩, ?_⟩
  rw [Maps.size_eq, length_sorted]; simp [hsz]
omit [DecidableEq α] in
/-- What is still to come are keys of the map. -/
theorem BMap.left (K : KeyL T M kv lit Ok) {D : DataW Unit} {left : Lit → Bool} {r n cnt : Nat} (h : BMap kv Ok w b ks) (hr : w.ranges Tryz.prog T anyR b r n D left cnt) {kl : Lit} (hk : left kl = true) : ∃ k ∈ ks, kl = lit k := by
  obtain ⟨⟨es0, c0, hb0, hst0, he0⟩, hs, ha⟩ := id h
  obtain ⟨es, clock, since, seen, c1, hb, _, _, _, _, _, _, _, hl, _⟩ := hr
  rw [hb0] at hb
  injection hb with hb
  injection hb with hb1 hb2
  subst hb1
  obtain ⟨x, hx, e⟩ := hl kl hk
  obtain ⟨k, hk', h1, _⟩ := h.rd K he0 hx
  refine ⟨k, hk', ?_⟩
  rw [← e, WideElems.rg_of h1]
omit [DecidableEq α] in
theorem BMap.has0 (K : KeyL T M kv lit Ok) {D : DataW Unit} {n : Nat} (h : BMap kv Ok w b ks) (ho : w.ownsMap Tryz.prog T anyR b n D) {k : α} (hk : k ∈ ks) : Maps.has D (lit k) = true := by
  obtain ⟨⟨es0, c0, hb0, hst0, he0⟩, hs, ha⟩ := id h
  obtain ⟨es, clock, hb, _, _, rfl⟩ := ho
  rw [hb0] at hb
  injection hb with hb
  injection hb with hb1 hb2
  subst hb1
  obtain ⟨e, hx, e1⟩ := BMap.entry' he0 hk
  obtain ⟨k', hk', h1, h2⟩ := h.rd K he0 hx
  have : k' = k := K.inj _ _ (hs k' hk') (hs k hk) (h2.symm.trans e1)
  subst this
  rw [Maps.has_eq, List.any_eq_true]
  refine ⟨WideElems.rg (H := Unit) Tryz.prog T anyR e, (WideShapes.sorted_perm _).mem_iff.2 (List.mem_map.2 ⟨e, hx, rfl⟩), ?_⟩
  rw [WideElems.rg_of h1]
  exact WideAt.sameKey_self (K.law.key (K.key k' (h.keys k' hk)))
omit [DecidableEq α] in
theorem KeyL.litInj (K : KeyL T M kv lit Ok) {x y : α} (hx : Ok x) (hy : Ok y) (h : lit x = lit y) : x = y := K.inj _ _ hx hy (K.law.inj (K.key x hx) (by rw [h]; exact K.key y hy))
/-- What has come so far. -/
structure Come (lit : α → Lit) (ks : List α) (left : Lit → Bool) (ss : List α) : Prop where
  nodup : ss.Nodup
  mem : ∀ k, k ∈ ss ↔ k ∈ ks ∧ left (lit k) = false
omit [DecidableEq α] in
theorem Come.start {left : Lit → Bool} (h : ∀ k ∈ ks, left (lit k) = true) : Come lit ks left [] := ⟨.nil, fun k => by
  constructor
  · intro h; simp at h
  · rintro ⟨h1, h2⟩; rw [h k h1] at h2; cases h2⟩
theorem Come.step (K : KeyL T M kv lit Ok) {left : Lit → Bool} {ss : List α} {x : α} (h : Come lit ks left ss) (hok : ∀ k ∈ ks, Ok k) (hx : x ∈ ks) (hl : left (lit x) = true) : Come lit ks (fun z => left z && !z.sameKey (lit x)) (ss ++ [x]) := by
  have hnew : x ∉ ss := fun hx => by have := ((h.mem x).1 hx).2; rw [hl] at this; cases this
  refine ⟨List.nodup_append.2 ⟨h.nodup, by simp, fun a ha b hb => by simp at hb; subst hb; exact fun e => hnew (e ▸ ha)⟩, fun y => ?_⟩
  by_cases hy : y = x
  · subst hy
    rw [WideAt.sameKey_self (K.law.key (K.key y (hok y hx)))]
    simp [hx]
  · rw [List.mem_append, h.mem y]
    simp only [List.mem_singleton, hy, or_false]
    constructor
    · rintro ⟨h1, h2⟩; exact ⟨h1, by rw [h2]; rfl⟩
    · rintro ⟨h1, h2⟩
      refine ⟨h1, ?_⟩
      have hs : (lit y).sameKey (lit x) = false := by
        cases e : (lit y).sameKey (lit x)
        · rfl
        · exact absurd (K.litInj (hok y h1) (hok x hx) (WideAt.sameKey_eq e)) hy
      rw [hs] at h2; simpa using h2
omit [DecidableEq α] in
theorem Come.done {left : Lit → Bool} {ss : List α} (h : Come lit ks left ss) (hl : ∀ kl, left kl = false) : ∀ k, k ∈ ss ↔ k ∈ ks := fun k => by rw [h.mem k]; simp [hl]
omit [DecidableEq α] in
theorem wpListIn_next_b (K : KeyL T M kv lit Ok) {F : Fence} {n : Nat} {ops : Array Oper} {rest : List Oper} {o : Oper} {a : Act} {w : World} {Q : Exit → Act → World → Prop} (hg : o.guard = none) (it : Operand) (hop : o.op = Op.next it false) (b r nn : Nat) (D : DataW Unit) (left : Lit → Bool) (cnt : Nat) (ks : List α)
    (hit : a.eval it = .pointer (some ⟨r, 0, none⟩)) (h : w.ranges Tryz.prog T anyR b r nn D left cnt) (hK : BMap kv Ok w b ks)
    (hDone : (∀ kl, left kl = false) → wpListIn F n Tryz.prog ops Q rest (a.put o.dst (.tuple #[.bool false])) w)
    (hMore : ∀ (x : α) (v : Value) (w' : World) (cnt' : Nat), x ∈ ks → left (lit x) = true → w'.ranges Tryz.prog T anyR b r nn D (fun z => left z && !z.sameKey (lit x)) cnt' → cnt' < cnt →
      w.grownBy w' (some r) → w'.heap.size = w.heap.size → (Instr.entry (.pointer (some ⟨r, 0, none⟩))).run Tryz.prog w' = .ok (.tuple #[kv x, v]) w' → wpListIn F n Tryz.prog ops Q rest (a.put o.dst (.tuple #[.bool true, kv x, v])) w') :
    wpListIn F n Tryz.prog ops Q (o :: rest) a w := by
  refine wpListIn_plain hg fun K' hK' => ?_
  unfold Oper.wpIn
  refine ⟨by simp [Oper.about, hop], ?_⟩
  rw [Oper.semAt_plain F _ _ (by rw [hop]; intro c hc'; cases hc')]
  rcases h.next K.law o.type with ⟨h0, hl, hrun⟩ | ⟨key, v, kl, y, w', cnt', hkey, hlk, hv, hat, hrun, hrg, hlt, hgr, hsz, hen⟩
  · simp [execOp, hop, hit, hrun, Result.andThen]
    exact hK' _ _ (hDone hl)
  · obtain ⟨x, hx, rfl⟩ := hK.left K h hlk
    obtain rfl := K.law.inj hkey (K.key x (hK.keys x hx))
    simp [execOp, hop, hit, hrun, Result.andThen]
    exact hK' _ _ (hMore x v w' cnt' hx hlk hrg hlt hgr hsz hen)
omit [DecidableEq α] in
theorem wpList_next_b (K : KeyL T M kv lit Ok) {ops : Array Oper} {rest : List Oper} {o : Oper} {a : Act} {w : World} {Q : Exit → Act → World → Prop} (hg : o.guard = none) (it : Operand) (hop : o.op = Op.next it false) (b r nn : Nat) (D : DataW Unit) (left : Lit → Bool) (cnt : Nat) (ks : List α)
    (hit : a.eval it = .pointer (some ⟨r, 0, none⟩)) (h : w.ranges Tryz.prog T anyR b r nn D left cnt) (hK : BMap kv Ok w b ks)
    (hDone : (∀ kl, left kl = false) → wpList Tryz.prog ops Q rest (a.put o.dst (.tuple #[.bool false])) w)
    (hMore : ∀ (x : α) (v : Value) (w' : World) (cnt' : Nat), x ∈ ks → left (lit x) = true → w'.ranges Tryz.prog T anyR b r nn D (fun z => left z && !z.sameKey (lit x)) cnt' → cnt' < cnt →
      w.grownBy w' (some r) → w'.heap.size = w.heap.size → (Instr.entry (.pointer (some ⟨r, 0, none⟩))).run Tryz.prog w' = .ok (.tuple #[kv x, v]) w' → wpList Tryz.prog ops Q rest (a.put o.dst (.tuple #[.bool true, kv x, v])) w') :
    wpList Tryz.prog ops Q (o :: rest) a w := by
  refine wpList_plain hg fun K' hK' => ?_
  unfold Oper.wp
  rcases h.next K.law o.type with ⟨h0, hl, hrun⟩ | ⟨key, v, kl, y, w', cnt', hkey, hlk, hv, hat, hrun, hrg, hlt, hgr, hsz, hen⟩
  · simp [execOp, hop, hit, hrun, Result.andThen]
    exact hK' _ _ (hDone hl)
  · obtain ⟨x, hx, rfl⟩ := hK.left K h hlk
    obtain rfl := K.law.inj hkey (K.key x (hK.keys x hx))
    simp [execOp, hop, hit, hrun, Result.andThen]
    exact hK' _ _ (hMore x v w' cnt' hx hlk hrg hlt hgr hsz hen)
end
/-! ### maps from ints -/
def kiV (x : Int) : Value := .int .i64 x
def okI (x : Int) : Prop := (Lit.int .i64 x).wf = true
theorem int_key : KeyL 3 137 kiV (fun x => .int .i64 x) okI where
  law := Maps.int_keyed Tryz.underlying3
  und := Tryz.underlying137
  key := fun k hk => Maps.keyOf_int_mk Tryz.underlying3 hk
  inj := fun x y _ _ h => by simpa [kiV] using h
end Go.Proofs.YtehoidohallfcaaGreatDoor
