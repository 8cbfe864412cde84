/- A map from keys to bools, of the call's own; maps.Keys and its iterator. -/
import Derived.RangeFuncNested
import Derived.RangeFuncBound
import Derived.RangeFuncCalls
import Derived.RangeFuncLeaves
import Derived.Shelf.Abstract
import Derived.Shelf.RegionOpen
import Derived.WalkKit
import Derived.OwnWalkIn
import Derived.TacticsInMore
import Derived.LoopNIn
import Derived.LoopIn
import Derived.Laws.MakeOwn
import Derived.Sort.QuietIn
import Derived.Sort.MapsRangeIn
import Derived.DeepKeys5
import Derived.Maps.OwnSet
import Derived.Outline
import Derived.Test.YtfhekhjojdhmhaaRnd5
import Derived.Test.YtfhekhjojdhmhaaFKeyM
import Derived.WalkKit
import Derived.WalkSpells
import Derived.WalkLawsBesides
import Derived.Deep.LoopGhost
import Derived.Deep.QuietTactic
import Derived.BigQuiet
import Derived.StillTailTactics
import Derived.Lib.Hide
import Derived.Outline
import Derived.Lib.QuietBelow
namespace Go.Proofs.Ytfhekhjojdhmhaa
open Go.RowKit Go.Shelf
attribute [local go_sem] Oper.semAt_some

/-- The numbers of a key are Go's. -/
def okK (k : Key) : Prop := (Lit.int .i64 k.kd).wf = true ∧ (Lit.int .i64 k.sb).wf = true ∧ (Lit.int .i64 k.ob).wf = true
def litK (k : Key) : Lit := .string (keyBytes [.int .i64 k.kd, .int .i64 k.sb, .int .i64 k.ob])
theorem keyV_inj {a b : Key} (h : keyV a = keyV b) : a = b := by
  cases a; cases b; simp at h; simpa using h
theorem fk_laid : laidOutB Try.prog = true := by kernel_rfl
theorem fk_row : (24 : TypeId) < Try.prog.types.size := of_decide_eq_true (by kernel_rfl)
theorem fk_at : Try.prog.keyTypeAt 2 24 = true := by kernel_rfl
theorem fk_law : Maps.Keyed Try.prog 24 := by
  refine Maps.Keyed.of_law (deep_law_laid fk_laid (m := 2) (by omega) fk_row fk_at ?_)
  have h := Try.underlying24
  revert h
  generalize Try.prog.underlying 24 = x
  rintro rfl
  rfl
theorem fk_type : Try.prog.keyType 24 = true := by kernel_rfl
theorem fk_cells : Try.prog.cellsOf 24 = 3 := by kernel_rfl
theorem fk_int : Try.prog.cellsOf 3 = 1 := by kernel_rfl
theorem fk_lits (d : Nat) (x : Int) (h : (Lit.int .i64 x).wf = true) : Try.prog.keyLits (d + 1) 3 [.int .i64 x] = some [.int .i64 x] := by
  unfold Program.keyLits
  rw [Try.underlying3]
  simp [h]
theorem fk_lits3 (d : Nat) (k : Key) (h : okK k) : Try.prog.keyLits (d + 1 + 1) 24 [.int .i64 k.kd, .int .i64 k.sb, .int .i64 k.ob] = some [.int .i64 k.kd, .int .i64 k.sb, .int .i64 k.ob] := by
  unfold Program.keyLits
  rw [Try.underlying24]
  simp [fk_cells, fk_int, fk_lits d _ h.1, fk_lits d _ h.2.1, fk_lits d _ h.2.2]
theorem fk_size : Try.prog.types.size + 1 = (Try.prog.types.size - 1) + 1 + 1 := by
  have h : (Nat.lt 24 Try.prog.types.size) := fk_row
  generalize Try.prog.types.size = z at h
  simp only [Nat.lt_eq] at h
  omega
theorem fk_key (k : Key) (h : okK k) : keyOf Try.prog 24 (keyV k) = some (litK k) := by
  unfold keyOf
  rw [Try.underlying24]
  have hf : (keyV k).formed Try.prog 24 = true := by simp [Value.formed, Try.underlying24, fk_cells]
  simp only [fk_type, hf, Bool.and_self, if_true]
  rw [fk_size]
  show (Try.prog.keyLits _ 24 [.int .i64 k.kd, .int .i64 k.sb, .int .i64 k.ob]).map _ = _
  rw [fk_lits3 _ k h]
  rfl
theorem litK_inj {a b : Key} (ha : okK a) (hb : okK b) (h : litK a = litK b) : a = b := keyV_inj (fk_law.inj (fk_key a ha) (by rw [h]; exact fk_key b hb))

open Go.ChangeMaps Go.MapKept in
/-- Block b is a map whose keys are ks, in the order in which they came, each once. -/
structure KMap (w : World) (b : Nat) (ks : List Key) : Prop where
  has : ∃ es clock, w.heap[b]? = some (.map es clock) ∧ MapKept.Stamped es clock ∧ es.toList.map (fun e => e.key) = ks.map keyV
  keys : ∀ x ∈ ks, okK x
  nodup : ks.Nodup
section
variable {w w' : World} {b : Nat} {ks : List Key}
theorem KMap.made (w : World) : KMap (w.alloc (.map #[] 0)) w.heap.size [] := ⟨⟨#[], 0, (MapKept.heap_alloc w _).1, MapKept.stamped_empty 0, rfl⟩, by simp, .nil⟩
theorem KMap.lt (h : KMap w b ks) : b < w.heap.size := by
  obtain ⟨⟨es, c, hb, _⟩, _⟩ := h
  exact (Array.getElem?_eq_some_iff.1 hb).1
theorem KMap.heap (h : KMap w b ks) (e : w'.heap[b]? = w.heap[b]?) : KMap w' b ks := by
  obtain ⟨⟨es, c, h1, h2⟩, h3, h4⟩ := h
  exact ⟨⟨es, c, e.trans h1, h2⟩, h3, h4⟩
theorem KMap.below (h : KMap w b ks) (hb : Below w.heap.size w w') : KMap w' b ks := h.heap (hb.block b h.lt)
theorem KMap.entry {es : Array MapEntry} (h : es.toList.map (fun e => e.key) = ks.map keyV) {e : MapEntry} (he : e ∈ es.toList) : ∃ x ∈ ks, e.key = keyV x := by
  have : e.key ∈ ks.map keyV := by rw [← h]; exact List.mem_map.2 ⟨e, he, rfl⟩
  obtain ⟨x, hx, e1⟩ := List.mem_map.1 this
  exact ⟨x, hx, e1.symm⟩
theorem KMap.entry' {es : Array MapEntry} (h : es.toList.map (fun e => e.key) = ks.map keyV) {x : Key} (hx : x ∈ ks) : ∃ e ∈ es.toList, e.key = keyV x := by
  have : keyV x ∈ es.toList.map (fun e => e.key) := by rw [h]; exact List.mem_map.2 ⟨x, hx, rfl⟩
  obtain ⟨e, he, e1⟩ := List.mem_map.1 this
  exact ⟨e, he, e1⟩
theorem KMap.put (h : KMap w b ks) (k : Key) (hk : okK k) :
    ∃ w', (Instr.mapUpdate 72 (.map (some b)) (keyV k) (.bool true)).run Try.prog w = .ok () w' ∧ KMap w' b (if k ∈ ks then ks else ks ++ [k]) ∧ w.grownBy w' (some b) ∧ w'.heap.size = w.heap.size := by
  obtain ⟨⟨es, c, hb, hst, he⟩, hs, ha⟩ := h
  rcases fk_law.find w (fk_key k hk) es.toList (fun e hm => by obtain ⟨x, hx, e1⟩ := KMap.entry he hm; exact ⟨_, by rw [e1]; exact fk_key _ (hs x hx)⟩) with ⟨h1, h2⟩ | ⟨j, e0, h1, h2, h3⟩
  · have hn : k ∉ ks := fun hx => by obtain ⟨e1, he1, he2⟩ := KMap.entry' he hx; exact h2 e1 he1 he2
    rw [if_neg hn]
    refine ⟨ChangeMaps.setBlock w b (.map (es.push ⟨keyV k, .bool true, c⟩) (c + 1)), ?_, ⟨⟨_, _, ChangeMaps.heap_setBlock_same hb _, MapKept.stamped_push hst h2, ?_⟩, ?_, ?_⟩, ⟨rfl, rfl, rfl, by simp [ChangeMaps.setBlock], fun i _ hi => ChangeMaps.heap_setBlock_other hb _ (fun e => hi (by rw [e]))⟩, by simp [ChangeMaps.setBlock]⟩
    · simp [Instr.mapUpdate, run_underlying Try.underlying72, MapKept.run_getObj_map hb, fk_law.check w false (fk_key k hk), h1, MapKept.run_setObj_map _ hb, Result.andThen, ChangeMaps.setBlock]
    · rw [Array.toList_push, List.map_append, he, List.map_append]; rfl
    · intro x hx
      rcases List.mem_append.1 hx with hx | hx
      · exact hs x hx
      · rw [List.mem_singleton.1 hx]; exact hk
    · rw [List.nodup_append]
      exact ⟨ha, by simp, fun x hx y hy e => by rw [List.mem_singleton.1 hy] at e; exact hn (by rw [← e]; exact hx)⟩
  · obtain ⟨x, hx, e1⟩ := KMap.entry he (List.mem_of_getElem? h2)
    rw [h3] at e1
    obtain rfl := keyV_inj e1
    rw [if_pos hx]
    have hj : es[j]? = some e0 := by simpa using h2
    refine ⟨ChangeMaps.setBlock w b (.map (es.modify j fun e => { e with key := keyV k, val := .bool true }) c), ?_, ⟨⟨_, _, ChangeMaps.heap_setBlock_same hb _, MapKept.stamped_modify hst j _ (fun _ _ => rfl) (fun e _ h => by rw [hj] at h; cases h; exact h3.symm), ?_⟩, hs, ha⟩, ⟨rfl, rfl, rfl, by simp [ChangeMaps.setBlock], fun i _ hi => ChangeMaps.heap_setBlock_other hb _ (fun e => hi (by rw [e]))⟩, by simp [ChangeMaps.setBlock]⟩
    · have hst := fk_law.stays w (fk_key k hk)
      simp [Instr.mapUpdate, run_underlying Try.underlying72, MapKept.run_getObj_map hb, fk_law.check w false (fk_key k hk), h1, hj, h3, hst, MapKept.run_setObj_map _ hb, Result.andThen, ChangeMaps.setBlock]
    · rw [← he]
      apply List.ext_getElem?
      intro i
      simp only [List.getElem?_map, Array.getElem?_toList, Array.getElem?_modify]
      by_cases e : j = i
      · subst e; rw [hj]; simp [h3]
      · rw [if_neg e]
/-- For the iterator. -/
def anyR : Value → Option (DataW Unit × List MemPlace) := fun _ => some (.nil, [])
theorem KMap.rd (h : KMap w b ks) {es : Array MapEntry} (he : es.toList.map (fun e => e.key) = ks.map keyV) {x : MapEntry} (hx : x ∈ es.toList) : ∃ k ∈ ks, WideElems.rd (H := Unit) Try.prog 24 anyR x = some (litK k, .nil) ∧ x.key = keyV k := by
  obtain ⟨k, hk, e1⟩ := KMap.entry he hx
  exact ⟨k, hk, by unfold WideElems.rd; rw [e1, fk_key k (h.keys k hk)]; rfl, e1⟩
theorem KMap.owns (h : KMap w b ks) (hl : ks.length ≤ maxLen) : ∃ D : DataW Unit, w.ownsMap Try.prog 24 anyR b ks.length D ∧ Maps.size D = ks.length := by
  have h0 := h
  obtain ⟨⟨es, c, hb, hst, he⟩, hs, ha⟩ := h
  have hsz : es.size = ks.length := by have := congrArg List.length he; simpa using this
  refine ⟨_, ⟨es, c, hb, ⟨by omega, hst, fun x hx => by obtain ⟨k, _, h, _⟩ := h0.rd he hx; exact ⟨_, h⟩⟩, by omega, rfl⟩, ?_⟩
  rw [Maps.size_eq, length_sorted]; simp [hsz]
/-- What is still to come are keys of the map. -/
theorem KMap.left {D : DataW Unit} {left : Lit → Bool} {r n cnt : Nat} (h : KMap w b ks) (hr : w.ranges Try.prog 24 anyR b r n D left cnt) {kl : Lit} (hk : left kl = true) : ∃ k ∈ ks, kl = litK k := by
  obtain ⟨⟨es0, c0, hb0, hst0, he0⟩, hs, ha⟩ := id h
  obtain ⟨es, clock, since, seen, c1, hb, _, _, _, _, _, _, _, hl, _⟩ := hr
  rw [hb0] at hb
  injection hb with hb
  injection hb with hb1 hb2
  subst hb1
  obtain ⟨x, hx, e⟩ := hl kl hk
  obtain ⟨k, hk', h1, _⟩ := h.rd he0 hx
  refine ⟨k, hk', ?_⟩
  rw [← e, WideElems.rg_of h1]
theorem KMap.has0 {D : DataW Unit} {n : Nat} (h : KMap w b ks) (ho : w.ownsMap Try.prog 24 anyR b n D) {k : Key} (hk : k ∈ ks) : Maps.has D (litK k) = true := by
  obtain ⟨⟨es0, c0, hb0, hst0, he0⟩, hs, ha⟩ := id h
  obtain ⟨es, clock, hb, _, _, rfl⟩ := ho
  rw [hb0] at hb
  injection hb with hb
  injection hb with hb1 hb2
  subst hb1
  obtain ⟨e, hx, e1⟩ := KMap.entry' he0 hk
  obtain ⟨k', hk', h1, h2⟩ := h.rd he0 hx
  have : k' = k := keyV_inj (h2.symm.trans e1)
  subst this
  rw [Maps.has_eq, List.any_eq_true]
  refine ⟨WideElems.rg (H := Unit) Try.prog 24 anyR e, (WideShapes.sorted_perm _).mem_iff.2 (List.mem_map.2 ⟨e, hx, rfl⟩), ?_⟩
  rw [WideElems.rg_of h1]
  exact WideAt.sameKey_self (fk_law.key (fk_key k' (h.keys k' hk)))
end
theorem keysM_any (mb : Option Nat) (W : World) : Calls Try.prog 41 #[.map mb] W fun e w' => e = .returned (.func (.func 56) #[] #[.pointer (some ⟨W.heap.size, 0, none⟩)]) ∧ w' = W.alloc (.cells #[.map mb] 72) := by
  go_enter Try.func41, Try.ntmps41
  go_wp2
  go_ret
  exact ⟨rfl, rfl⟩

/-- What has come so far. -/
structure Come (ks : List Key) (left : Lit → Bool) (ss : List Key) : Prop where
  nodup : ss.Nodup
  mem : ∀ k, k ∈ ss ↔ k ∈ ks ∧ left (litK k) = false
theorem Come.start {ks : List Key} {left : Lit → Bool} (h : ∀ k ∈ ks, left (litK k) = true) : Come ks left [] := ⟨.nil, fun k => by
  constructor
  · intro h; simp at h
  · rintro ⟨h1, h2⟩; rw [h k h1] at h2; cases h2⟩
theorem Come.step {ks : List Key} {left : Lit → Bool} {ss : List Key} {x : Key} (h : Come ks left ss) (hok : ∀ k ∈ ks, okK k) (hx : x ∈ ks) (hl : left (litK x) = true) : Come ks (fun z => left z && !z.sameKey (litK x)) (ss ++ [x]) := by
  have hnew : x ∉ ss := fun hx => by have := ((h.mem x).1 hx).2; rw [hl] at this; cases this
  refine ⟨List.nodup_append.2 ⟨h.nodup, by simp, fun a ha b hb => by simp at hb; subst hb; exact fun e => hnew (e ▸ ha)⟩, fun y => ?_⟩
  by_cases hy : y = x
  · subst hy
    rw [WideAt.sameKey_self (fk_law.key (fk_key y (hok y hx)))]
    simp [hx]
  · rw [List.mem_append, h.mem y]
    simp only [List.mem_singleton, hy, or_false]
    constructor
    · rintro ⟨h1, h2⟩; exact ⟨h1, by rw [h2]; rfl⟩
    · rintro ⟨h1, h2⟩
      refine ⟨h1, ?_⟩
      have hs : (litK y).sameKey (litK x) = false := by
        cases e : (litK y).sameKey (litK x)
        · rfl
        · exact absurd (litK_inj (hok y h1) (hok x hx) (WideAt.sameKey_eq e)) hy
      rw [hs] at h2; simpa using h2

theorem wpListIn_next_key {F : Fence} {n : Nat} {ops : Array Oper} {rest : List Oper} {o : Oper} {a : Act} {w : World} {Q : Exit → Act → World → Prop} (hg : o.guard = none) (it : Operand) (hop : o.op = Op.next it false) (b r nn : Nat) (D : DataW Unit) (left : Lit → Bool) (cnt : Nat) (ks : List Key)
    (hit : a.eval it = .pointer (some ⟨r, 0, none⟩)) (h : w.ranges Try.prog 24 anyR b r nn D left cnt) (hK : KMap w b ks)
    (hDone : (∀ kl, left kl = false) → wpListIn F n Try.prog ops Q rest (a.put o.dst (.tuple #[.bool false])) w)
    (hMore : ∀ (x : Key) (v : Value) (w' : World) (cnt' : Nat), x ∈ ks → left (litK x) = true → w'.ranges Try.prog 24 anyR b r nn D (fun z => left z && !z.sameKey (litK x)) cnt' → cnt' < cnt →
      w.grownBy w' (some r) → w'.heap.size = w.heap.size → (Instr.entry (.pointer (some ⟨r, 0, none⟩))).run Try.prog w' = .ok (.tuple #[keyV x, v]) w' → wpListIn F n Try.prog ops Q rest (a.put o.dst (.tuple #[.bool true, keyV x, v])) w') :
    wpListIn F n Try.prog ops Q (o :: rest) a w := by
  refine wpListIn_plain hg fun K' hK' => ?_
  unfold Oper.wpIn
  refine ⟨by simp [Oper.about, hop], ?_⟩
  rw [Oper.semAt_plain F _ _ (by rw [hop]; intro c hc'; cases hc')]
  rcases h.next fk_law o.type with ⟨h0, hl, hrun⟩ | ⟨key, v, kl, y, w', cnt', hkey, hlk, hv, hat, hrun, hrg, hlt, hgr, hsz, hen⟩
  · simp [execOp, hop, hit, hrun, Result.andThen]
    exact hK' _ _ (hDone hl)
  · obtain ⟨x, hx, rfl⟩ := hK.left h hlk
    obtain rfl := fk_law.inj hkey (fk_key x (hK.keys x hx))
    simp [execOp, hop, hit, hrun, Result.andThen]
    exact hK' _ _ (hMore x v w' cnt' hx hlk hrg hlt hgr hsz hen)

def kEnc (k : Key) : Array Value := #[keyV k]
set_option maxRecDepth 20000 in
set_option maxHeartbeats 2000000 in
theorem keys1_stops (ks : List Key) (Bm b : Nat) (W : World) (hm : Box W Bm #[.map (some b)] 72) (hK : KMap W b ks) (hl : ks.length ≤ 1000000) :
    SeqStopsK Fence.wide 5 Try.prog 56 #[.pointer (some ⟨Bm, 0, none⟩)] kEnc KeepsWalks (fun ss => ss.Nodup ∧ ∀ k, k ∈ ss ↔ k ∈ ks) (fun _ => True) ks.length W := by
  intro li J Jx W1 hB hJ hJx hY h0
  have hK1 := hK.below hB
  have d0 : W1.cell? ⟨Bm, 0, none⟩ = some (.map (some b)) := by simpa using (hm.below hB).cell 0
  obtain ⟨D, hown, hsz⟩ := hK1.owns (by unfold maxLen; omega)
  have hh0 : ∀ k ∈ ks, Maps.has D (litK k) = true := fun k hk => hK1.has0 hown hk
  have HH0 := Lib.hid hh0
  clear hh0
  refine callsIn_of_wp Try.func56 rfl trivial ?_ rfl
  simp only [Try.ntmps56, List.size_toArray, List.length_cons, List.length_nil, Nat.reduceAdd, Nat.reduceSub, Array.replicate_succ, Array.replicate_zero, List.push_toArray, List.append_toArray, List.nil_append, List.cons_append]
  gi_wp2_with (first
    | (gi_at_range; refine wpListIn_range_own _ rfl _ 72 rfl 24 4 fk_law Try.underlying72 _ b ks.length _ rfl hown ?_; intro w0 hrg0 hg0 hs0)
    | gi_in)
  go_frame
  have hK0 : KMap w0 b ks := hK1.heap (hg0.block b hK1.lt (by simp))
  have hJ0 := hJ [] W1 w0 none h0 hg0 (fun r e => by cases e)
  have hC0 := Lib.hid (Come.start (left := Maps.has D) HH0.out)
  gi_loopw [3] (fun _ wr => ∃ (left : Lit → Bool) (cnt : Nat) (ss : List Key), wr.ranges Try.prog 24 anyR b W1.heap.size ks.length D left cnt ∧ ss.length + cnt ≤ Maps.size D ∧ Hid (Come ks left ss) ∧ J ss wr ∧ KMap wr b ks)
    (fun _ wr => wr.rangeLeft b W1.heap.size)
  case atStart => exact ⟨_, _, [], hrg0, by simp, hC0, hJ0, hK0⟩
  case round =>
    clear hK0 hJ0 hC0
    obtain ⟨left, cnt, ss, hrg, hcs, hC, hJs, hKr⟩ := hrel
    gi_wp2_with (first
      | (gi_at_next; refine wpListIn_next_key rfl _ rfl b W1.heap.size _ _ _ _ ks rfl hrg hKr ?_ ?_)
      | gi_in)
    · intro hl0
      gi_wp2
      go_end0
      exact ⟨⟨_, rfl⟩, .inl ⟨ss, ⟨hC.out.nodup, fun k => by rw [hC.out.mem k]; simp [hl0]⟩, hJs⟩⟩
    · intro x v w2 cnt2 hx hlk hrg2 hlt hg2 hs2 hen
      have hbk : Below w2.heap.size w2 (w2.alloc (.cells #[.int .i64 x.kd, .int .i64 x.sb, .int .i64 x.ob] 24)) := (Below.refl _ _).alloc (Nat.le_refl _) _
      have hJ2 : J ss w2 := hJ ss wr w2 (some W1.heap.size) hJs hg2 (fun r e => by cases e; exact ⟨Nat.le_refl _, hrg.iter_walk⟩)
      have hJ3 := hJ ss w2 (w2.alloc (.cells #[.int .i64 x.kd, .int .i64 x.sb, .int .i64 x.ob] 24)) none hJ2 (World.grownBy_alloc _ _ none) (fun r e => by cases e)
      have hK3 : KMap (w2.alloc (.cells #[.int .i64 x.kd, .int .i64 x.sb, .int .i64 x.ob] 24)) b ks := (hKr.heap (hg2.block b hKr.lt (fun e => by
        obtain ⟨es, clock, since, seen, c1, hb, _, _, _, hr, _⟩ := hrg
        injection e with e
        rw [e] at hb; rw [hb] at hr; cases hr))).below hbk
      have hkw : KeepsWalks w2 (w2.alloc (.cells #[.int .i64 x.kd, .int .i64 x.sb, .int .i64 x.ob] 24)) := KeepsWalks.alloc _ _
      obtain ⟨fn, tmps, assign, body, hy, hR⟩ := hY ss x _ hJ3 (by omega)
      simp only [kEnc] at hy
      clear hs2
      gi_wp2
      refine hR.mono ?_
      rintro e W3 (⟨rfl, hJ4, hk4⟩ | ⟨rfl, hJ4⟩)
      · clear hy hR
        gi_wp2
        have hrg3 := hrg2.of_walks (hkw.trans hk4)
        go_roundw
        case rel =>
          refine ⟨_, cnt2, ss ++ [x], hrg3, by simp; omega, Lib.hid (hC.out.step hKr.keys hx hlk), hJ4, ?_⟩
          obtain ⟨es, clock, hb, _⟩ := hK3.has
          exact hK3.heap ((hk4.same b _ hb rfl).trans hb.symm)
        case measure => rw [hrg3.left_eq, hrg.left_eq]; exact hlt
      · clear hy hR
        gi_wp2
        (try simp only [Exit.inBlock, Exit.then])
        refine bodyPost_ret (results_none rfl _ _ _) rfl ?_
        exact ⟨⟨_, rfl⟩, .inr ⟨_, trivial, hJ4⟩⟩
end Go.Proofs.Ytfhekhjojdhmhaa
