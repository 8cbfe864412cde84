/- Cells grouped by a number. Plain Lean, no walk here. -/
import Derived.Test.YtjiacdihfbbfjaaNbs
import Derived.Test.YtjiacdihfbbfjaaMovEq
import Derived.WalkKit
import Derived.DeepKeys5
import Derived.Maps.OwnSet
import Derived.Maps.Views
import Derived.Lib.SlKeysI
import Derived.Test.YtjiacdihfbbfjaaPm
import Derived.Shelf.SlIterI.Sorted
import Derived.RangeFuncCalls
import Derived.RangeFuncNested
import Derived.RangeFuncBound
import Derived.RangeFuncLeaves
import Derived.Shelf.Abstract
import Derived.Shelf.RegionOpen
import Derived.OwnWalkIn
import Derived.TacticsInMore
import Derived.LoopNIn
import Derived.LoopIn
import Derived.Laws.MakeOwn
import Derived.Outline
import Derived.WalkSpells
import Derived.WalkLawsBesides
import Derived.Deep.LoopGhost
import Derived.Deep.QuietTactic
import Derived.BigQuiet
import Derived.StillTailTactics
import Derived.Lib.Hide
import Derived.Lib.QuietBelow
namespace Go.Proofs.Ytjiacdihfbbfjaa
open Go.RowKit

def grpL (f : Nat → Option Int) (k : Nat) (n : Int) : List Int := ((List.range k).filter fun c => f c == some n).map fun (c : Nat) => (c : Int)
theorem grpL_succ (f : Nat → Option Int) (k : Nat) (n : Int) : grpL f (k + 1) n = grpL f k n ++ (if f k = some n then [(k : Int)] else []) := by
  unfold grpL
  rw [List.range_succ, List.filter_append, List.map_append]
  by_cases h : f k = some n
  · simp [h]
  · have : (f k == some n) = false := by simpa using h
    simp [this, h]
theorem grpL_len (f : Nat → Option Int) (k : Nat) (n : Int) : (grpL f k n).length ≤ k := by
  unfold grpL
  rw [List.length_map]
  exact Nat.le_trans (List.length_filter_le _ _) (by simp)
theorem mem_grpL {f : Nat → Option Int} {k : Nat} {n x : Int} : x ∈ grpL f k n ↔ ∃ c : Nat, c < k ∧ f c = some n ∧ x = c := by
  unfold grpL
  simp only [List.mem_map, List.mem_filter, List.mem_range, beq_iff_eq]
  constructor
  · rintro ⟨c, ⟨h1, h2⟩, rfl⟩; exact ⟨c, h1, h2, rfl⟩
  · rintro ⟨c, h1, h2, rfl⟩; exact ⟨c, ⟨h1, h2⟩, rfl⟩
theorem grpL_ne {f : Nat → Option Int} {k : Nat} {n : Int} : grpL f k n ≠ [] ↔ ∃ c : Nat, c < k ∧ f c = some n := by
  constructor
  · intro h
    obtain ⟨x, hx⟩ := List.exists_mem_of_ne_nil _ h
    obtain ⟨c, h1, h2, _⟩ := mem_grpL.1 hx
    exact ⟨c, h1, h2⟩
  · rintro ⟨c, h1, h2⟩ e
    have : (c : Int) ∈ grpL f k n := mem_grpL.2 ⟨c, h1, h2, rfl⟩
    rw [e] at this; cases this
def lineNos : List Int := (List.range 49).map fun (i : Nat) => (i : Int) - 16
def linesL (f : Nat → Option Int) (k : Nat) : List (List Int) := (lineNos.filter fun n => grpL f k n != []).map (grpL f k)
theorem mem_lineNos {n : Int} : n ∈ lineNos ↔ -16 ≤ n ∧ n ≤ 32 := by
  unfold lineNos
  simp only [List.mem_map, List.mem_range]
  constructor
  · rintro ⟨i, h, rfl⟩; omega
  · intro h; exact ⟨(n + 16).toNat, by omega, by omega⟩
theorem lineNos_lt : lineNos.Pairwise (· < ·) := by
  unfold lineNos
  exact List.Pairwise.map _ (fun a b h => by omega) (List.pairwise_lt_range (n := 49))
theorem lines_sorted {f : Nat → Option Int} {k : Nat} {ks : List Int} (hn : ks.Nodup) (hm : ∀ n, n ∈ ks ↔ grpL f k n ≠ []) (hb : ∀ c n, c < k → f c = some n → -16 ≤ n ∧ n ≤ 32) : (sortI ks).map (grpL f k) = linesL f k := by
  unfold linesL
  congr 1
  refine incr_ext (sortI_lt hn) (List.Pairwise.filter _ lineNos_lt) fun x => ?_
  rw [mem_sortI, hm, List.mem_filter, mem_lineNos]
  simp only [bne_iff_ne, ne_eq]
  constructor
  · intro h
    obtain ⟨c, h1, h2⟩ := grpL_ne.1 h
    exact ⟨hb c x h1 h2, h⟩
  · exact fun h => h.2
end Go.Proofs.Ytjiacdihfbbfjaa

/- A map keyed by ints, of the call's own, its values whatever they be: its block known by its keys, in the order in which they came. -/
namespace Go.Proofs.Ytjiacdihfbbfjaa
open Go.RowKit

def ki (x : Int) : Value := .int .i64 x
theorem ki_inj {x y : Int} (h : ki x = ki y) : x = y := by simpa [ki] using h
theorem vk_law : Maps.Keyed Try.prog 3 := Maps.int_keyed Try.underlying3
theorem vk_key (x : Int) (h : (Lit.int .i64 x).wf = true) : keyOf Try.prog 3 (ki x) = some (.int .i64 x) := Maps.keyOf_int_mk Try.underlying3 h

open Go.ChangeMaps Go.MapKept in
structure VMap (w : World) (b : Nat) (ks : List Int) (vs : Int → Value) : Prop where
  has : ∃ es clock, w.heap[b]? = some (.map es clock) ∧ Stamped es clock ∧ es.toList.map (fun e => (e.key, e.val)) = ks.map (fun x => (ki x, vs x))
  keys : ∀ x ∈ ks, (Lit.int .i64 x).wf = true
  nodup : ks.Nodup
variable {w w' : World} {b : Nat} {ks : List Int} {vs : Int → Value}
theorem VMap.made (w : World) (vs : Int → Value) : VMap (w.alloc (.map #[] 0)) w.heap.size [] vs := ⟨⟨#[], 0, (MapKept.heap_alloc w _).1, MapKept.stamped_empty 0, rfl⟩, by simp, .nil⟩
theorem VMap.lt (h : VMap w b ks vs) : b < w.heap.size := by
  obtain ⟨⟨es, c, hb, _⟩, _⟩ := h
  exact (Array.getElem?_eq_some_iff.1 hb).1
theorem VMap.same (h : VMap w b ks vs) (hs : w'.heap[b]? = w.heap[b]?) : VMap w' b ks vs := by
  obtain ⟨⟨es, c, h1, h2⟩, h3, h4⟩ := h
  exact ⟨⟨es, c, hs.trans h1, h2⟩, h3, h4⟩
theorem VMap.below (h : VMap w b ks vs) (hb : Below w.heap.size w w') : VMap w' b ks vs := h.same (hb.block b h.lt)
theorem VMap.grown {row : Option Nat} (h : VMap w b ks vs) (hg : w.grownBy w' row) (hne : some b ≠ row) : VMap w' b ks vs := h.same (hg.block b h.lt hne)
theorem VMap.ext {us : Int → Value} (h : VMap w b ks vs) (he : ∀ x ∈ ks, us x = vs x) : VMap w b ks us := by
  obtain ⟨⟨es, c, h1, h2, h5⟩, h3, h4⟩ := h
  refine ⟨⟨es, c, h1, h2, h5.trans (List.map_congr_left fun x hx => by rw [he x hx])⟩, h3, h4⟩

theorem VMap.entry {es : Array MapEntry} (h : es.toList.map (fun e => (e.key, e.val)) = ks.map (fun x => (ki x, vs x))) {e : MapEntry} (he : e ∈ es.toList) :
    ∃ x ∈ ks, e.key = ki x ∧ e.val = vs x := by
  have : (e.key, e.val) ∈ ks.map (fun x => (ki x, vs x)) := by rw [← h]; exact List.mem_map.2 ⟨e, he, rfl⟩
  obtain ⟨x, hx, e1⟩ := List.mem_map.1 this
  injection e1 with e1 e2
  exact ⟨x, hx, e1.symm, e2.symm⟩
theorem VMap.entry' {es : Array MapEntry} (h : es.toList.map (fun e => (e.key, e.val)) = ks.map (fun x => (ki x, vs x))) {x : Int} (hx : x ∈ ks) :
    ∃ e ∈ es.toList, e.key = ki x ∧ e.val = vs x := by
  have : (ki x, vs x) ∈ es.toList.map (fun e => (e.key, e.val)) := by rw [h]; exact List.mem_map.2 ⟨x, hx, rfl⟩
  obtain ⟨e, he, e1⟩ := List.mem_map.1 this
  injection e1 with e1 e2
  exact ⟨e, he, e1, e2⟩
theorem VMap.find (h : VMap w b ks vs) (k : Int) (hk : (Lit.int .i64 k).wf = true) : ∃ es clock, w.heap[b]? = some (.map es clock) ∧ MapKept.Stamped es clock ∧ es.toList.map (fun e => (e.key, e.val)) = ks.map (fun x => (ki x, vs x)) ∧
    ((k ∉ ks ∧ (Instr.findKey 3 (ki k) es.toList).run Try.prog w = .ok none w ∧ ∀ e ∈ es.toList, e.key ≠ ki k) ∨ (k ∈ ks ∧ ∃ j e, (Instr.findKey 3 (ki k) es.toList).run Try.prog w = .ok (some (j, vs k)) w ∧ es.toList[j]? = some e ∧ e.key = ki k)) := by
  obtain ⟨⟨es, c, hb, hst, he⟩, hs, ha⟩ := h
  refine ⟨es, c, hb, hst, he, ?_⟩
  rcases vk_law.find w (vk_key k hk) es.toList (fun e hm => by obtain ⟨x, hx, e1, _⟩ := VMap.entry he hm; exact ⟨_, by rw [e1]; exact vk_key _ (hs x hx)⟩) with ⟨h1, h2⟩ | ⟨j, e0, h1, h2, h3⟩
  · exact .inl ⟨fun hx => by obtain ⟨e1, he1, he2, _⟩ := VMap.entry' he hx; exact h2 e1 he1 he2, h1, h2⟩
  · obtain ⟨x, hx, e1, e2⟩ := VMap.entry he (List.mem_of_getElem? h2)
    rw [h3] at e1
    obtain rfl := ki_inj e1
    rw [e2] at h1
    exact .inr ⟨hx, j, e0, h1, h2, h3⟩

theorem VMap.look {t E : TypeId} {z : Value} (ht : Try.prog.underlying t = some (.map 3 E)) (hz : (zeroValue E).run Try.prog w = .ok z w) (h : VMap w b ks vs) (k : Int) (hk : (Lit.int .i64 k).wf = true) :
    (Instr.lookup t (.map (some b)) (ki k) false).run Try.prog w = .ok (if k ∈ ks then vs k else z) w := by
  obtain ⟨es, c, hb, _, he, ⟨hn, h1, _⟩ | ⟨hm, j, e, h1, _, _⟩⟩ := h.find k hk
  · rw [if_neg hn]
    simp [Instr.lookup, run_underlying ht, MapKept.run_getObj_map hb, vk_law.check w _ (vk_key k hk), h1, hz, Result.andThen]
  · rw [if_pos hm]
    simp [Instr.lookup, run_underlying ht, MapKept.run_getObj_map hb, vk_law.check w _ (vk_key _ hk), h1, Result.andThen]

theorem VMap.put {t E : TypeId} (ht : Try.prog.underlying t = some (.map 3 E)) (h : VMap w b ks vs) (k : Int) (v : Value) (hk : (Lit.int .i64 k).wf = true) :
    ∃ w', (Instr.mapUpdate t (.map (some b)) (ki k) v).run Try.prog w = .ok () w' ∧ VMap w' b (if k ∈ ks then ks else ks ++ [k]) (fun x => if x = k then v else vs x) ∧ w.grownBy w' (some b) ∧ w'.heap.size = w.heap.size := by
  obtain ⟨es, c, hb, hst, he, ⟨hn, h1, h2⟩ | ⟨hm, j, e0, h1, h2, h3⟩⟩ := h.find k hk
  · rw [if_neg hn]
    refine ⟨ChangeMaps.setBlock w b (.map (es.push ⟨ki k, v, c⟩) (c + 1)), ?_, ⟨⟨_, _, ChangeMaps.heap_setBlock_same hb _, MapKept.stamped_push hst h2, ?_⟩, ?_, ?_⟩, ⟨rfl, rfl, rfl, by simp [ChangeMaps.setBlock], fun i _ hi => ChangeMaps.heap_setBlock_other hb _ (fun e => hi (by rw [e]))⟩, by simp [ChangeMaps.setBlock]⟩
    · simp [Instr.mapUpdate, run_underlying ht, MapKept.run_getObj_map hb, vk_law.check w false (vk_key k hk), h1, MapKept.run_setObj_map _ hb, Result.andThen, ChangeMaps.setBlock]
    · have e1 : ks.map (fun x => (ki x, if x = k then v else vs x)) = ks.map (fun x => (ki x, vs x)) := List.map_congr_left fun x hx => by rw [if_neg (fun e => hn (by rw [← e]; exact hx))]
      rw [Array.toList_push, List.map_append, he, List.map_append, e1]
      simp only [List.map_cons, List.map_nil, if_true]
    · intro x hx
      rcases List.mem_append.1 hx with hx | hx
      · exact h.keys x hx
      · rw [List.mem_singleton.1 hx]; exact hk
    · rw [List.nodup_append]
      exact ⟨h.nodup, by simp, fun x hx y hy e => by rw [List.mem_singleton.1 hy] at e; exact hn (by rw [← e]; exact hx)⟩
  · rw [if_pos hm]
    have hj : es[j]? = some e0 := by simpa using h2
    refine ⟨ChangeMaps.setBlock w b (.map (es.modify j fun e => { e with key := ki k, val := v }) c), ?_, ⟨⟨_, _, ChangeMaps.heap_setBlock_same hb _, MapKept.stamped_modify hst j _ (fun _ _ => rfl) (fun e _ h => by rw [hj] at h; cases h; exact h3.symm), ?_⟩, h.keys, h.nodup⟩, ⟨rfl, rfl, rfl, by simp [ChangeMaps.setBlock], fun i _ hi => ChangeMaps.heap_setBlock_other hb _ (fun e => hi (by rw [e]))⟩, by simp [ChangeMaps.setBlock]⟩
    · have hst := vk_law.stays w (vk_key k hk)
      simp [Instr.mapUpdate, run_underlying ht, MapKept.run_getObj_map hb, vk_law.check w false (vk_key k hk), h1, hj, h3, hst, MapKept.run_setObj_map _ hb, Result.andThen, ChangeMaps.setBlock]
    · apply List.ext_getElem?
      intro i
      have hi := congrArg (fun l => l[i]?) he
      simp only [List.getElem?_map, Array.getElem?_toList] at hi
      simp only [List.getElem?_map, Array.getElem?_toList, Array.getElem?_modify]
      have hjx := congrArg (fun l => l[j]?) he
      simp only [List.getElem?_map, Array.getElem?_toList, hj] at hjx
      cases hks : ks[i]? with
      | none =>
        rw [hks] at hi
        cases hes : es[i]? with
        | none => by_cases e : j = i <;> simp [e]
        | some e1 => rw [hes] at hi; simp at hi
      | some x =>
        rw [hks] at hi
        cases hes : es[i]? with
        | none => rw [hes] at hi; simp at hi
        | some e1 =>
          rw [hes] at hi
          simp only [Option.map_some, Option.some.injEq, Prod.mk.injEq] at hi
          by_cases e : j = i
          · subst e
            rw [hj] at hes; cases hes
            have : x = k := ki_inj (hi.1.symm.trans h3)
            subst this
            simp
          · have hne : x ≠ k := fun ex => by
              subst ex
              have h5 : ks[j]? = some x := by
                cases hkj : ks[j]? with
                | none => rw [hkj] at hjx; simp at hjx
                | some y =>
                  rw [hkj] at hjx
                  simp only [Option.map_some, Option.some.injEq, Prod.mk.injEq] at hjx
                  rw [ki_inj (hjx.1.symm.trans h3)]
              have hl : i < ks.length := (List.getElem?_eq_some_iff.1 hks).1
              exact e ((List.getElem?_inj hl h.nodup).1 (hks.trans h5.symm)).symm
            rw [if_neg e]
            simp [hne, hi.1, hi.2]

/-- For maps.Keys. -/
def anyR : Value → Option (DataW Unit × List MemPlace) := fun _ => some (.nil, [])
theorem VMap.owns (h : VMap w b ks vs) (hl : ks.length ≤ maxLen) : ∃ D : DataW Unit, w.ownsMap Try.prog 3 anyR b ks.length D ∧ Maps.size D = ks.length ∧ (Go.intKeys D).Perm ks := by
  obtain ⟨⟨es, c, hb, hst, he⟩, hs, ha⟩ := h
  have hsz : es.size = ks.length := by have := congrArg List.length he; simpa using this
  have hr : ∀ x ∈ es.toList, ∃ k ∈ ks, WideElems.rd (H := Unit) Try.prog 3 anyR x = some (.int .i64 k, .nil) ∧ x.key = ki k := fun x hx => by
    obtain ⟨k, hk, e1, e2⟩ := VMap.entry he hx
    exact ⟨k, hk, by unfold WideElems.rd; rw [e1, vk_key k (hs k hk)]; rfl, e1⟩
  refine ⟨_, ⟨es, c, hb, ⟨by omega, hst, fun x hx => by obtain ⟨k, _, h, _⟩ := hr x hx; exact ⟨_, h⟩⟩, by omega, rfl⟩, ?_, ?_⟩
  · rw [Maps.size_eq, length_sorted]; simp [hsz]
  · have hp := (WideShapes.sorted_perm (es.toList.map (WideElems.rg (H := Unit) Try.prog 3 anyR))).map (fun p => Go.intOf p.1)
    refine hp.trans ?_
    rw [List.map_map]
    have : es.toList.map ((fun p => Go.intOf p.1) ∘ WideElems.rg (H := Unit) Try.prog 3 anyR) = ks := by
      have e2 : es.toList.map ((fun p => Go.intOf p.1) ∘ WideElems.rg (H := Unit) Try.prog 3 anyR) = es.toList.map (fun e => match e.key with | .int _ a => a | _ => 0) := by
        refine List.map_congr_left fun x hx => ?_
        obtain ⟨k, _, h, e⟩ := hr x hx
        simp [WideElems.rg, h, e, ki, Go.intOf]
      rw [e2]
      have e3 := congrArg (List.map (fun p : Value × Value => match p.1 with | .int _ a => a | _ => 0)) he
      rw [List.map_map, List.map_map] at e3
      have e4 : ks.map ((fun p : Value × Value => match p.1 with | .int _ a => a | _ => 0) ∘ fun x => (ki x, vs x)) = ks := by simp [Function.comp_def, ki]
      rw [e4] at e3
      exact e3
    rw [this]
end Go.Proofs.Ytjiacdihfbbfjaa

/- slices.Sorted(maps.Keys(m)) at map[int][]int: the library's contracts laid at this dump. -/
namespace Go.Proofs.Ytjiacdihfbbfjaa
open Go.RowKit Go.Shelf Go.Sort

def it_ren : Go.Shelf.Ren := ⟨fun | 6 => 104 | 8 => 134 | 11 => 142 | 9 => 76 | 7 => 105 | 10 => 135 | n => n, fun | 0 => 0 | 3 => 22 | 4 => 4 | 23 => 114 | 24 => 22 | 26 => 3 | 27 => 116 | 28 => 117 | 33 => 75 | n => n, fun | n => n⟩
theorem it_n6 : SlLaysZI.n6 Try.prog it_ren := {
  mixed := by kernel_rfl
  f6 := ⟨Try.f104.name, by decide, Try.func104.trans (congrArg some (by kernel_rfl))⟩
  f8 := ⟨Try.f134.name, by decide, Try.func134.trans (congrArg some (by kernel_rfl))⟩
  f11 := ⟨Try.f142.name, by decide, Try.func142.trans (congrArg some (by kernel_rfl))⟩
  t0 := Try.underlying0
  a0 := Try.isAgg0
  z0 := Try.sizeOf0
  v0 := Try.zeroValue0
  t24 := Try.underlying22
  a24 := Try.isAgg22
  z24 := Try.sizeOf22
  v24 := Try.zeroValue22
  t26 := Try.underlying3
  a26 := Try.isAgg3
  z26 := Try.sizeOf3
  v26 := Try.zeroValue3
  t28 := Try.underlying117
  a28 := Try.isAgg117
  z28 := Try.sizeOf117
  v28 := Try.zeroValue117
  i26 := by kernel_rfl }
theorem it_n7 : SlLaysZI.n7 Try.prog it_ren := {
  mixed := by kernel_rfl
  f7 := ⟨Try.f105.name, by decide, Try.func105.trans (congrArg some (by kernel_rfl))⟩
  f10 := ⟨Try.f135.name, by decide, Try.func135.trans (congrArg some (by kernel_rfl))⟩
  t0 := Try.underlying0
  a0 := Try.isAgg0
  z0 := Try.sizeOf0
  v0 := Try.zeroValue0
  t4 := Try.underlying4
  a4 := Try.isAgg4
  z4 := Try.sizeOf4
  v4 := Try.zeroValue4
  t23 := Try.underlying114
  a23 := Try.isAgg114
  z23 := Try.sizeOf114
  v23 := Try.zeroValue114
  t26 := Try.underlying3
  a26 := Try.isAgg3
  z26 := Try.sizeOf3
  v26 := Try.zeroValue3
  t27 := Try.underlying116
  a27 := Try.isAgg116
  z27 := Try.sizeOf116
  v27 := Try.zeroValue116
  t28 := Try.underlying117
  a28 := Try.isAgg117
  z28 := Try.sizeOf117
  v28 := Try.zeroValue117
  t33 := Try.underlying75
  a33 := Try.isAgg75
  z33 := Try.sizeOf75
  v33 := Try.zeroValue75 }

theorem it_sorts (m : Nat) : AnyZI.SortsIn Try.prog it_ren Fence.wide m :=
  ⟨fun blk off cap ss W hH hblk hsz => callsIn_wide.2 (Try.slices_Sort_int blk off cap ss W hH hblk hsz),
   fun p cap W => callsIn_wide.2 (Try.slices_Sort_int_none p cap W)⟩
theorem keys_any (mb : Option Nat) (W : World) : CallsIn Fence.wide 5 Try.prog 105 #[.map mb] W fun e w' => e = .returned (.func (.func 135) #[] #[.pointer (some ⟨W.heap.size, 0, none⟩)]) ∧ w' = W.alloc (.cells #[.map mb] 114) :=
  AnyZI.keys_in it_n7 Fence.wide 5 trivial rfl mb W
set_option maxHeartbeats 1000000 in
theorem sortedKeys_any {w : World} {b : Nat} {ks : List Int} {vs : Int → Value} (h : VMap w b ks vs) (hl : ks.length ≤ 1000000) :
    CallsIn Fence.wide 5 Try.prog 104 #[.func (.func 135) #[] #[.pointer (some ⟨w.heap.size, 0, none⟩)]] (w.alloc (.cells #[.map (some b)] 114)) fun e w' => ∃ v, e = .returned v ∧ OwnInts w' (w.heap.size + 1) 3 v (sortI ks) ∧ Below (w.heap.size + 1) (w.alloc (.cells #[.map (some b)] 114)) w' := by
  obtain ⟨D, hown, hs, hp⟩ := h.owns (by unfold maxLen; omega)
  have hbl := hown.lt
  have hseq : SeqGives Fence.wide 2 Try.prog 135 #[.pointer (some ⟨w.heap.size, 0, none⟩)] encZ (fun ss => ss.Perm (Go.intKeys D)) (Maps.size D) (w.alloc (.cells #[.map (some b)] 114)) :=
    AnyZI.keys_gives (ρ := it_ren) { it_n7 with } Fence.wide _ trivial rfl (by omega) w.heap.size b _ D _ (by simp) (by simp) (hown.alloc _)
  refine (AnyZI.sorted_in it_n6 Fence.wide 5 trivial trivial trivial trivial rfl (by omega) (it_sorts _) (enters_of Try.func76 (by kernel_rfl) rfl) 135 #[.pointer (some ⟨w.heap.size, 0, none⟩)] trivial (enters_of Try.func135 (by kernel_rfl) rfl) _ _ (by unfold maxLen; omega) (by omega) _ hseq).mono ?_
  rintro e w' ⟨v, ss, rfl, hP, hrow, _, hb⟩
  have hss : ss.mergeSort (fun x y => decide (x ≤ y)) = sortI ks := by
    have : sortI ss = sortI ks := mergeSort_of_perm_i (hP.trans hp)
    exact this
  refine ⟨v, rfl, ?_, by simpa using hb⟩
  rw [hss] at hrow
  have hlen : ss.length = (sortI ks).length := by rw [← hss, List.length_mergeSort]
  unfold OwnInts
  rw [hlen] at hrow
  have hsz : (w.alloc (.cells #[.map (some b)] 114)).heap.size = w.heap.size + 1 := by simp
  rw [hsz] at hrow
  exact hrow
end Go.Proofs.Ytjiacdihfbbfjaa

/- Contract of grids.lines. -/
namespace Go.Proofs.Ytjiacdihfbbfjaa
open Go.RowKit Go.Shelf
attribute [local go_sem] Oper.semAt_some

theorem wpListIn_append_own2 {F : Fence} {nF : Nat} {P : Program} (w : World) {ops : Array Oper} {rest : List Oper} {o : Oper} {a : Act} {Q : Exit → Act → World → Prop} (hgd : o.guard = none) (s x : Operand) (t : TypeId)
    (ho : o.op = .call { callee := .builtin .append, args := #[s, x], argTypes := #[t, t] })
    (base : Nat) (e : TypeId) (i : TypeInfo) (z : Value) (size bytes : Nat) (ht : P.underlying t = some (.slice e)) (hi : P.info? e = some i) (hz : i.zero = some z)
    (hsize : i.size = size) (hby : i.bytes = bytes) (hzs : z.cells.size = size) (hsz : 0 < size)
    (v : Value) (n : Nat) (xs : List Value) (hown : w.ownsRow base e size v n xs) (hs : a.eval s = v)
    (ad : Addr) (m c : Nat) (news : List Value) (hx : a.eval x = .slice (some ad) m c) (hl : news.length = m * size) (hnews : ∀ j u, news[j]? = some u → w.cell? (ad.add j) = some u) (h1 : ∀ u ∈ news, u.oneCell' = true)
    (h63 : n + m ≤ maxLen) (hbytes : (n + m) * bytes ≤ 140737488355328) (hbase : base ≤ w.heap.size)
    (h : ∀ v' w', w'.ownsRow base e size v' (n + m) (xs ++ news) → w.grownBy w' v.ownBlock → (v'.ownBlock = v.ownBlock ∨ v'.ownBlock = some w.heap.size) → wpListIn F nF P ops Q rest (a.put o.dst v') w') : wpListIn F nF P ops Q (o :: rest) a w := by
  refine wpListIn_plain hgd fun K hK => ?_
  obtain ⟨v', w', hr, h2, h3, h4⟩ := run_append_own2 (P := P) w base t o.type e i z size bytes ht hi hz hsize hby hzs hsz v n xs hown ad m c news hl hnews h1 h63 hbytes hbase
  unfold Oper.wpIn
  refine ⟨by simp [Oper.about, ho, resolve, Target.leads, Sem.run_pure], ?_⟩
  rw [Oper.semAt_plain F _ _ (by rw [ho]; intro c hc'; cases hc')]
  unfold execOp
  simp only [ho, resolve, invoke, builtin, Sem.run_bind, Sem.run_pure, Result.andThen_ok, List.map_toArray, List.map_cons, List.map_nil, hs, hx, hr]
  exact hK _ _ (h v' w' h2 h3 h4)

theorem ints_put {w : World} {a : Option Addr} {n c q : Nat} {l : List Int} {d : Option (List Deferred)} (h : Ints w a n c l) (hq : w.heap[q]? = some (.deferred d)) (o' : Obj) : Ints (w.putObj q o') a n c l := by
  refine h.grown (grownBy_putObj' w q o') fun h0 e => ?_
  obtain ⟨b, o, rfl, hb⟩ := h.at' h0
  have hc := h.cell b o rfl 0 h0
  have : b = q := by simpa [Value.ownBlock] using e
  subst this
  simp [World.cell?, hq] at hc
/-- A slice of slices whose rows, too, lie from b0 on. -/
def NRows (w : World) (base b0 : Nat) (e : TypeId) (v : Value) (ll : List (List Int)) : Prop := ∃ us, w.ownsRow base e 1 v ll.length us ∧ Elems w v.ownBlock us ll ∧ ∀ u ∈ us, ∀ k, u.ownBlock = some k → b0 ≤ k
theorem NRows.nil (w : World) (base b0 : Nat) (e : TypeId) : NRows w base b0 e (.slice none 0 0) [] := ⟨[], World.ownsRow_nil w base e 1, .nil, fun u hu => by cases hu⟩
theorem NRows.own {w : World} {base b0 : Nat} {e : TypeId} {v : Value} {ll : List (List Int)} (h : NRows w base b0 e v ll) : OwnRows w base e v ll := let ⟨us, h1, h2, _⟩ := h; ⟨us, h1, h2⟩
theorem NRows.below {w w' : World} {base b0 : Nat} {e : TypeId} {v : Value} {ll : List (List Int)} (h : NRows w base b0 e v ll) (hb : Below w.heap.size w w') : NRows w' base b0 e v ll :=
  let ⟨us, h1, h2, h3⟩ := h; ⟨us, ownsRow_below' h1 hb, h2.mono fun _ _ hu => hu.below hb, h3⟩
theorem NRows.mono {w : World} {base base' b0 b0' : Nat} {e : TypeId} {v : Value} {ll : List (List Int)} (h : NRows w base b0 e v ll) (hb : base' ≤ base) (h0 : b0' ≤ b0) : NRows w base' b0' e v ll :=
  let ⟨us, h1, h2, h3⟩ := h; ⟨us, ownsRow_mono' h1 hb, h2, fun u hu k hk => Nat.le_trans h0 (h3 u hu k hk)⟩
theorem NRows.pushAll {w w' : World} {base b0 : Nat} {e : TypeId} {v v' : Value} {ll ll2 : List (List Int)} {us us2 : List Value}
    (hE : Elems w v.ownBlock us ll) (hN : ∀ u ∈ us, ∀ k, u.ownBlock = some k → b0 ≤ k) (hown' : w'.ownsRow base e 1 v' (ll.length + ll2.length) (us ++ us2)) (hg : w.grownBy w' v.ownBlock)
    (hfresh : v'.ownBlock = v.ownBlock ∨ v'.ownBlock = some w.heap.size) (hE2 : Elems w v.ownBlock us2 ll2) (hN2 : ∀ u ∈ us2, ∀ k, u.ownBlock = some k → b0 ≤ k) : NRows w' base b0 e v' (ll ++ ll2) := by
  have key : ∀ u l, Elem w v.ownBlock u l → Elem w' v'.ownBlock u l := by
    rintro u l ⟨a, n, c, rfl, hI, hne⟩
    refine ⟨a, n, c, rfl, hI.grown hg hne, fun hn => ?_⟩
    obtain ⟨b, o, rfl, hl⟩ := hI.at' hn
    rcases hfresh with h | h
    · rw [h]; exact hne hn
    · intro hh
      rw [h] at hh
      simp [Value.ownBlock] at hh
      omega
  refine ⟨us ++ us2, by simpa using hown', Elems.append (hE.mono key) (hE2.mono key), fun u hu => ?_⟩
  rcases List.mem_append.1 hu with hu | hu
  · exact hN u hu
  · exact hN2 u hu
theorem nrows_put {w : World} {base b0 q : Nat} {e : TypeId} {v : Value} {ll : List (List Int)} {d : Option (List Deferred)} (h : NRows w base b0 e v ll) (hq : w.heap[q]? = some (.deferred d)) (o' : Obj) : NRows (w.putObj q o') base b0 e v ll := by
  obtain ⟨us, h1, hE, hN⟩ := h
  refine ⟨us, World.ownsRow.kept h1 (grownBy_putObj' w q o') ?_, hE.mono fun u l ⟨a, n, c, e1, hI, hne⟩ => ⟨a, n, c, e1, ints_put hI hq o', hne⟩, hN⟩
  rcases h1.2 with ⟨rfl, _⟩ | ⟨g, cap, cur, rfl, _, hg, _⟩
  · exact .inl rfl
  · refine .inr fun e => ?_
    obtain rfl : g = q := by simpa [Value.ownBlock] using e
    rw [hg] at hq; cases hq
/-- A function value that answers N at a spot, in whatever world beyond W. -/
def ByAt (W : World) (byf : FuncId) (caps : Array Value) (N : Int × Int → Option Int) : Prop :=
  ∀ (x y : Int) (W' : World), -1000 ≤ x ∧ x ≤ 1000 → -1000 ≤ y ∧ y ≤ 1000 → Below W.heap.size W W' →
    ∃ (n : Int) (ok : Bool), N (x, y) = (if ok = true then some n else none) ∧ (-10000 ≤ n ∧ n ≤ 10000) ∧ Calls Try.prog byf (#[.agg #[.int .i64 x, .int .i64 y]] ++ caps) W' fun e w' => e = .returned (.tuple #[.int .i64 n, .bool ok]) ∧ Below W'.heap.size W' w'
def numOf (g : Grid) (N : Int × Int → Option Int) (c : Nat) : Option Int := N (plc g c)

/-- The groups in memory. -/
structure GM (f : Nat → Option Int) (base p M : Nat) (W2 : World) (ks : List Int) (vs : Int → Value) : Prop where
  map : VMap W2 M ks vs
  own : ∀ n ∈ ks, OwnInts W2 base 3 (vs n) (grpL f p n)
  apart : ∀ n ∈ ks, ∀ m ∈ ks, n ≠ m → ∀ k, (vs n).ownBlock = some k → (vs m).ownBlock ≠ some k
  keys : ∀ n, n ∈ ks ↔ grpL f p n ≠ []
  len : ks.length ≤ p
structure L1I (f : Nat → Option Int) (W w5 : World) (M : Nat) (T : Nat → Prop) (p : Nat) (W2 : World) (ks : List Int) (vs : Int → Value) : Prop where
  gm : GM f w5.heap.size p M W2 ks vs
  below : Below W.heap.size W W2
  keep : ∀ k, k < w5.heap.size → k ≠ M → W2.heap[k]? = w5.heap[k]?
  size : w5.heap.size ≤ W2.heap.size
  T : ∀ k, T k ↔ (k = M ∨ ∃ n ∈ ks, (vs n).ownBlock = some k)
def L1 (f : Nat → Option Int) (W w5 : World) (M : Nat) (T : Nat → Prop) (pre : List Sp) (W2 : World) : Prop := ∃ ks vs, L1I f W w5 M T pre.length W2 ks vs
theorem GM.put {f : Nat → Option Int} {base p M l : Nat} {W2 : World} {ks : List Int} {vs : Int → Value} {o : Obj} (h : GM f base p M W2 ks vs) (hl : M ≠ l) (ho : W2.heap[l]? = some o) (hno : o.isCells = false) (o' : Obj) : GM f base p M (W2.putObj l o') ks vs :=
  ⟨h.map.same (World.putObj_heap_other hl), fun n hn => ownInts_put2 (h.own n hn) ho hno o', h.apart, h.keys, h.len⟩
theorem GM.on {f : Nat → Option Int} {base p M : Nat} {W2 W3 : World} {ks : List Int} {vs : Int → Value} (h : GM f base p M W2 ks vs) (hb : Below W2.heap.size W2 W3) : GM f base p M W3 ks vs :=
  ⟨h.map.below hb, fun n hn => (h.own n hn).below hb, h.apart, h.keys, h.len⟩
theorem L1I.put {f : Nat → Option Int} {W w5 W2 : World} {M p l : Nat} {T : Nat → Prop} {ks : List Int} {vs : Int → Value} {o : Obj} (h : L1I f W w5 M T p W2 ks vs) (hl : w5.heap.size ≤ l) (hM : M < w5.heap.size) (hW : W.heap.size ≤ w5.heap.size) (ho : W2.heap[l]? = some o) (hno : o.isCells = false) (o' : Obj) : L1I f W w5 M T p (W2.putObj l o') ks vs :=
  ⟨h.gm.put (by omega) ho hno o', below_put2 h.below (by omega) (by have := h.size; omega) o', fun k hk hne => (World.putObj_heap_other (by omega)).trans (h.keep k hk hne), by simpa using h.size, h.T⟩
theorem L1I.on {f : Nat → Option Int} {W w5 W2 W3 : World} {M p : Nat} {T : Nat → Prop} {ks : List Int} {vs : Int → Value} (h : L1I f W w5 M T p W2 ks vs) (hb : Below W2.heap.size W2 W3) : L1I f W w5 M T p W3 ks vs :=
  ⟨h.gm.on hb, h.below.on hb, fun k hk hne => (hb.block k (Nat.lt_of_lt_of_le hk h.size)).trans (h.keep k hk hne), Nat.le_trans h.size hb.size, h.T⟩
structure L1V (f : Nat → Option Int) (g : Grid) (nc : Nat) (W w5 : World) (M : Nat) (T : Nat → Prop) (p : Nat) (x : Sp) (s : Nat) (V : World) (ks : List Int) (vs : Int → Value) : Prop where
  in1 : L1I f W w5 M T p V ks vs
  box : Box V s #[.int .i64 x.2.1, .int .i64 x.2.2] 82
  new : w5.heap.size ≤ s
  old : ∀ n ∈ ks, ∀ k, (vs n).ownBlock = some k → k < s
  lt : p < nc
  hx : x = (p, plc g p)

theorem L1I.skip {f : Nat → Option Int} {W w5 W2 : World} {M p : Nat} {T : Nat → Prop} {ks : List Int} {vs : Int → Value} (h : L1I f W w5 M T p W2 ks vs) (hf : f p = none) : L1I f W w5 M T (p + 1) W2 ks vs := by
  have e : ∀ n, grpL f (p + 1) n = grpL f p n := fun n => by rw [grpL_succ, hf]; simp
  exact ⟨⟨h.gm.map, fun n hn => by rw [e]; exact h.gm.own n hn, h.gm.apart, fun n => by rw [e]; exact h.gm.keys n, by have := h.gm.len; omega⟩, h.below, h.keep, h.size, h.T⟩
theorem L1I.lt {f : Nat → Option Int} {W w5 W2 : World} {M p : Nat} {T : Nat → Prop} {ks : List Int} {vs : Int → Value} (h : L1I f W w5 M T p W2 ks vs) (hM : M < w5.heap.size) {k : Nat} (hk : T k) : k < W2.heap.size := by
  rcases (h.T k).1 hk with e | ⟨n, hn, e⟩
  · have := h.size; omega
  · exact ((h.gm.own n hn).lt k e).2
theorem L1I.step {f : Nat → Option Int} {W w5 X Y w9 w10 : World} {M p s : Nat} {T : Nat → Prop} {ks : List Int} {vs : Int → Value} {n : Int} {v v' : Value} (hI : L1I f W w5 M T p X ks vs) (hfp : f p = some n) (hM : M < w5.heap.size) (hMW : W.heap.size ≤ M)
    (hB : Below X.heap.size X Y) (hv : v = if n ∈ ks then vs n else .slice none 0 0) (hO : OwnInts w9 w5.heap.size 3 v' (grpL f p n ++ [(p : Int)])) (hg : Y.grownBy w9 v.ownBlock) (hfr : v'.ownBlock = v.ownBlock ∨ v'.ownBlock = some Y.heap.size)
    (hM10 : VMap w10 M (if n ∈ ks then ks else ks ++ [n]) (fun x => if x = n then v' else vs x)) (hg10 : w9.grownBy w10 (some M)) (hold : ∀ n ∈ ks, ∀ k, (vs n).ownBlock = some k → k < s) (hs : s ≤ X.heap.size) (_ : w5.heap.size ≤ s) :
    ∃ T', KeepAt s T T' X w10 ∧ L1I f W w5 M T' (p + 1) w10 (if n ∈ ks then ks else ks ++ [n]) (fun x => if x = n then v' else vs x) := by
  have hvk : ∀ k, v.ownBlock = some k → n ∈ ks ∧ (vs n).ownBlock = some k := fun k hk => by
    by_cases h : n ∈ ks
    · rw [hv, if_pos h] at hk; exact ⟨h, hk⟩
    · rw [hv, if_neg h] at hk; simp [Value.ownBlock] at hk
  have hYX := hB.size
  have h9Y := hg.size
  have h109 := hg10.size
  have hmem : ∀ m, m ∈ (if n ∈ ks then ks else ks ++ [n]) ↔ m = n ∨ m ∈ ks := fun m => by
    by_cases h : n ∈ ks
    · rw [if_pos h]; exact ⟨.inr, fun h2 => h2.elim (fun e => e ▸ h) id⟩
    · rw [if_neg h, List.mem_append, List.mem_singleton]; exact ⟨fun h => h.symm, fun h => h.symm⟩
  have ho10 : OwnInts w10 w5.heap.size 3 v' (grpL f p n ++ [(p : Int)]) := hO.grown hg10 (.inr fun e => by have := (hO.lt M e).1; omega)
  have hom : ∀ m ∈ ks, m ≠ n → OwnInts w10 w5.heap.size 3 (vs m) (grpL f p m) := fun m hm hne => by
    have h1 := (hI.gm.own m hm).below hB
    have h2 : OwnInts w9 w5.heap.size 3 (vs m) (grpL f p m) := by
      cases hb : (vs m).ownBlock with
      | none => exact h1.grown hg (.inl hb)
      | some k =>
        refine h1.grown hg (.inr fun e => ?_)
        rw [hb] at e
        obtain ⟨h3, h4⟩ := hvk k e.symm
        exact hI.gm.apart n h3 m hm (Ne.symm hne) k h4 hb
    exact h2.grown hg10 (.inr fun e => by have := (h2.lt M e).1; omega)
  have hsame : ∀ k, k < X.heap.size → k ≠ M → v.ownBlock ≠ some k → w10.heap[k]? = X.heap[k]? := fun k hk h1 h2 =>
    (hg10.block k (by omega) (fun e => h1 (Option.some.inj e))).trans ((hg.block k (by omega) (fun e => h2 e.symm)).trans (hB.block k hk))
  refine ⟨fun k => k = M ∨ ∃ m ∈ (if n ∈ ks then ks else ks ++ [n]), (if m = n then v' else vs m).ownBlock = some k, ⟨by omega, fun k hk hT => ?_, fun k hk => ?_, fun k hk => ?_⟩, ⟨hM10, fun m hm => ?_, fun a ha b hb hne k h1 h2 => ?_, fun m => ?_, ?_⟩, ?_, fun k hk hne => ?_, by have := hI.size; omega, fun k => Iff.rfl⟩
  · refine hsame k (by omega) (fun e => hT ((hI.T k).2 (.inl e))) (fun e => ?_)
    obtain ⟨h3, h4⟩ := hvk k e
    exact hT ((hI.T k).2 (.inr ⟨n, h3, h4⟩))
  · rcases hk with h | ⟨m, hm, h⟩
    · exact .inl ((hI.T k).2 (.inl h))
    · by_cases e : m = n
      · rw [if_pos e] at h
        rcases hfr with h5 | h5
        · rw [h] at h5
          obtain ⟨h3, h4⟩ := hvk k h5.symm
          exact .inl ((hI.T k).2 (.inr ⟨n, h3, h4⟩))
        · rw [h] at h5
          have := Option.some.inj h5
          exact .inr (by omega)
      · rw [if_neg e] at h
        exact .inl ((hI.T k).2 (.inr ⟨m, ((hmem m).1 hm).resolve_left e, h⟩))
  · rcases hk with h | ⟨m, hm, h⟩
    · have := hI.size; omega
    · by_cases e : m = n
      · rw [if_pos e] at h; exact (ho10.lt k h).2
      · rw [if_neg e] at h; exact ((hom m (((hmem m).1 hm).resolve_left e) e).lt k h).2
  · by_cases e : m = n
    · subst e; rw [if_pos rfl, grpL_succ, hfp, if_pos rfl]; exact ho10
    · rw [if_neg e, grpL_succ, hfp, if_neg (fun h => e (Option.some.inj h).symm), List.append_nil]
      exact hom m (((hmem m).1 hm).resolve_left e) e
  · have key : ∀ b ∈ ks, b ≠ n → v'.ownBlock = some k → (vs b).ownBlock = some k → False := fun b hb hne h1 h2 => by
      rcases hfr with h5 | h5
      · rw [h1] at h5
        obtain ⟨h3, h4⟩ := hvk k h5.symm
        exact hI.gm.apart n h3 b hb (Ne.symm hne) k h4 h2
      · rw [h1] at h5
        have := Option.some.inj h5
        have := hold b hb k h2
        omega
    by_cases e1 : a = n
    · rw [if_pos e1] at h1
      have e2 : b ≠ n := fun e => hne (by rw [e1, e])
      rw [if_neg e2] at h2
      exact key b (((hmem b).1 hb).resolve_left e2) e2 h1 h2
    · rw [if_neg e1] at h1
      by_cases e2 : b = n
      · rw [if_pos e2] at h2
        exact key a (((hmem a).1 ha).resolve_left e1) e1 h2 h1
      · rw [if_neg e2] at h2
        exact hI.gm.apart a (((hmem a).1 ha).resolve_left e1) b (((hmem b).1 hb).resolve_left e2) hne k h1 h2
  · rw [hmem, grpL_succ, hfp]
    by_cases e : m = n
    · subst e; simp
    · rw [if_neg (fun h => e (Option.some.inj h).symm), List.append_nil, ← hI.gm.keys m]
      exact ⟨fun h => h.resolve_left e, .inr⟩
  · have := hI.gm.len
    by_cases h : n ∈ ks
    · rw [if_pos h]; omega
    · rw [if_neg h, List.length_append]; simp; omega
  · have hbs := hI.below.size
    exact ((hI.below.on hB).grown hg (by omega) (fun k e => by obtain ⟨h3, h4⟩ := hvk k e; have := ((hI.gm.own n h3).lt k h4).1; omega)).grown hg10 (by omega) (fun k e => by have := Option.some.inj e; omega)
  · refine (hsame k (by have := hI.size; omega) hne (fun e => ?_)).trans (hI.keep k hk hne)
    obtain ⟨h3, h4⟩ := hvk k e
    have := ((hI.gm.own n h3).lt k h4).1
    omega

set_option maxRecDepth 40000 in
set_option maxHeartbeats 4000000 in
theorem lines_any (g : Grid) (ah ac : Option Addr) (nh ch nc cc : Nat) (byf : FuncId) (caps : Array Value) (N : Int × Int → Option Int) (W : World) (h2 : Ints W ac nc cc g.cells) (hv : Valid g) (hen : Enters Try.prog byf) (hby : ByAt W byf caps N)
    (hb : ∀ c n, c < nc → numOf g N c = some n → -16 ≤ n ∧ n ≤ 32) :
    Calls Try.prog 78 #[.agg #[.int .i64 g.shape, .int .i64 g.w, .int .i64 g.h, .slice ah nh ch, .slice ac nc cc], .func (.func byf) #[] caps] W fun e w' => ∃ v, e = .returned v ∧ NRows w' W.heap.size W.heap.size 22 v (linesL (numOf g N) nc) ∧ Below W.heap.size W w' := by
  have HV := Lib.hid hv
  have HB := Lib.hid hby
  have HBD := Lib.hid hb
  clear hv hby hb
  obtain ⟨f, hf⟩ : ∃ f, numOf g N = f := ⟨_, rfl⟩
  have HF := Lib.hid hf
  rw [hf] at HBD ⊢
  clear hf
  unfold Enters at hen
  have hmm := fun w => run_makeMap (P := Try.prog) 114 w
  refine (callsIn_wide (n := 6)).1 (callsIn_of_wp_marks Try.func78 rfl trivial ?_ rfl)
  simp only [Try.ntmps78, List.size_toArray, List.length_cons, List.length_nil, Nat.reduceAdd, Nat.reduceSub, Array.replicate_succ, Array.replicate_zero, List.push_toArray, List.append_toArray, List.nil_append, List.cons_append]
  gi_wp2_with (refine ⟨trivial, ?_⟩; gi_at_call 75; refine (callsIn_wide.2 (spots_any _ rfl _)).mono ?_; rintro e w2 ⟨rfl, rfl⟩)
  have hB5 : Below W.heap.size W (((((W.alloc (.cells #[.int .i64 g.shape, .int .i64 g.w, .int .i64 g.h, .slice ah nh ch, .slice ac nc cc] 24)).alloc (.cells #[.func (.func byf) #[] caps] 91)).alloc (.map #[] 0)).alloc (.cells #[.map (some (W.heap.size + 1 + 1))] 114)).alloc (.cells #[.int .i64 g.shape, .int .i64 g.w, .int .i64 g.h, .slice ah nh ch, .slice ac nc cc] 24)) := (((((Below.refl _ _).alloc (Nat.le_refl _) _).alloc (by simp) _).alloc (by simp; omega) _).alloc (by simp; omega) _).alloc (by simp; omega) _
  have hz5 : ((((((W.alloc (.cells #[.int .i64 g.shape, .int .i64 g.w, .int .i64 g.h, .slice ah nh ch, .slice ac nc cc] 24)).alloc (.cells #[.func (.func byf) #[] caps] 91)).alloc (.map #[] 0)).alloc (.cells #[.map (some (W.heap.size + 1 + 1))] 114)).alloc (.cells #[.int .i64 g.shape, .int .i64 g.w, .int .i64 g.h, .slice ah nh ch, .slice ac nc cc] 24))).heap.size = W.heap.size + 5 := by simp
  have x1 : Box (((((W.alloc (.cells #[.int .i64 g.shape, .int .i64 g.w, .int .i64 g.h, .slice ah nh ch, .slice ac nc cc] 24)).alloc (.cells #[.func (.func byf) #[] caps] 91)).alloc (.map #[] 0)).alloc (.cells #[.map (some (W.heap.size + 1 + 1))] 114)).alloc (.cells #[.int .i64 g.shape, .int .i64 g.w, .int .i64 g.h, .slice ah nh ch, .slice ac nc cc] 24)) (W.heap.size + 1) #[.func (.func byf) #[] caps] 91 := by
    have := (((Box.new (W.alloc (.cells #[.int .i64 g.shape, .int .i64 g.w, .int .i64 g.h, .slice ah nh ch, .slice ac nc cc] 24)) #[.func (.func byf) #[] caps] 91).alloc (.map #[] 0)).alloc (.cells #[.map (some (W.heap.size + 1 + 1))] 114)).alloc (.cells #[.int .i64 g.shape, .int .i64 g.w, .int .i64 g.h, .slice ah nh ch, .slice ac nc cc] 24)
    simpa only [World.size_alloc] using this
  have x2 : VMap (((((W.alloc (.cells #[.int .i64 g.shape, .int .i64 g.w, .int .i64 g.h, .slice ah nh ch, .slice ac nc cc] 24)).alloc (.cells #[.func (.func byf) #[] caps] 91)).alloc (.map #[] 0)).alloc (.cells #[.map (some (W.heap.size + 1 + 1))] 114)).alloc (.cells #[.int .i64 g.shape, .int .i64 g.w, .int .i64 g.h, .slice ah nh ch, .slice ac nc cc] 24)) (W.heap.size + 1 + 1) [] (fun _ => .slice none 0 0) := by
    have := ((VMap.made ((W.alloc (.cells #[.int .i64 g.shape, .int .i64 g.w, .int .i64 g.h, .slice ah nh ch, .slice ac nc cc] 24)).alloc (.cells #[.func (.func byf) #[] caps] 91)) (fun _ => .slice none 0 0)).below ((Below.refl _ _).alloc (Nat.le_refl _) (.cells #[.map (some (W.heap.size + 1 + 1))] 114))).below ((Below.refl _ _).alloc (Nat.le_refl _) (.cells #[.int .i64 g.shape, .int .i64 g.w, .int .i64 g.h, .slice ah nh ch, .slice ac nc cc] 24))
    simpa only [World.size_alloc] using this
  have x3 : Box (((((W.alloc (.cells #[.int .i64 g.shape, .int .i64 g.w, .int .i64 g.h, .slice ah nh ch, .slice ac nc cc] 24)).alloc (.cells #[.func (.func byf) #[] caps] 91)).alloc (.map #[] 0)).alloc (.cells #[.map (some (W.heap.size + 1 + 1))] 114)).alloc (.cells #[.int .i64 g.shape, .int .i64 g.w, .int .i64 g.h, .slice ah nh ch, .slice ac nc cc] 24)) (W.heap.size + 1 + 1 + 1) #[.map (some (W.heap.size + 1 + 1))] 114 := by
    have := (Box.new (((W.alloc (.cells #[.int .i64 g.shape, .int .i64 g.w, .int .i64 g.h, .slice ah nh ch, .slice ac nc cc] 24)).alloc (.cells #[.func (.func byf) #[] caps] 91)).alloc (.map #[] 0)) #[.map (some (W.heap.size + 1 + 1))] 114).alloc (.cells #[.int .i64 g.shape, .int .i64 g.w, .int .i64 g.h, .slice ah nh ch, .slice ac nc cc] 24)
    simpa only [World.size_alloc] using this
  have x4 : Box (((((W.alloc (.cells #[.int .i64 g.shape, .int .i64 g.w, .int .i64 g.h, .slice ah nh ch, .slice ac nc cc] 24)).alloc (.cells #[.func (.func byf) #[] caps] 91)).alloc (.map #[] 0)).alloc (.cells #[.map (some (W.heap.size + 1 + 1))] 114)).alloc (.cells #[.int .i64 g.shape, .int .i64 g.w, .int .i64 g.h, .slice ah nh ch, .slice ac nc cc] 24)) (W.heap.size + 1 + 1 + 1 + 1) #[.int .i64 g.shape, .int .i64 g.w, .int .i64 g.h, .slice ah nh ch, .slice ac nc cc] 24 := by
    have := Box.new ((((W.alloc (.cells #[.int .i64 g.shape, .int .i64 g.w, .int .i64 g.h, .slice ah nh ch, .slice ac nc cc] 24)).alloc (.cells #[.func (.func byf) #[] caps] 91)).alloc (.map #[] 0)).alloc (.cells #[.map (some (W.heap.size + 1 + 1))] 114)) #[.int .i64 g.shape, .int .i64 g.w, .int .i64 g.h, .slice ah nh ch, .slice ac nc cc] 24
    simpa only [World.size_alloc] using this
  obtain ⟨w5, hw5⟩ : ∃ w5, (((((W.alloc (.cells #[.int .i64 g.shape, .int .i64 g.w, .int .i64 g.h, .slice ah nh ch, .slice ac nc cc] 24)).alloc (.cells #[.func (.func byf) #[] caps] 91)).alloc (.map #[] 0)).alloc (.cells #[.map (some (W.heap.size + 1 + 1))] 114)).alloc (.cells #[.int .i64 g.shape, .int .i64 g.w, .int .i64 g.h, .slice ah nh ch, .slice ac nc cc] 24)) = w5 := ⟨_, rfl⟩
  rw [hw5] at hB5 hz5 x1 x2 x3 x4 ⊢
  clear hw5 hmm
  have hnl := HV.out.len
  rw [h2.len] at hnl
  refine wpIn_rangeFunc_told3 rfl (by omega) (gf := 98) (lb := #[.pointer (some ⟨W.heap.size + 1 + 1 + 1 + 1, 0, none⟩)]) rfl trivial (enters_of Try.func98 (by kernel_rfl) rfl)
    (spots1_told g (W.heap.size + 1 + 1 + 1 + 1) ah ac nh ch nc cc w5 x4 (h2.below hB5) ⟨HV.out.dims.2.1, HV.out.dims.2.2.1⟩ (fun x hx => by have := HV.out.mem hx; have := HV.out.area; omega) hnl) (Below.refl _ _) (fun _ => rfl)
    (fun k => k = W.heap.size + 1 + 1) ?hT0 (by rintro k rfl; omega) (L1 f W w5 (W.heap.size + 1 + 1)) (fun T pre x s V => ∃ ks vs, L1V f g nc W w5 (W.heap.size + 1 + 1) T pre.length x s V ks vs) ?hIput ?hVput ?hIb (fun x s => { tmps := #[.agg #[.int .i64 g.shape, .int .i64 g.w, .int .i64 g.h, .slice ah nh ch, .slice ac nc cc], .func (.func byf) #[] caps, .pointer (some ⟨W.heap.size, 0, none⟩), .pointer (some ⟨W.heap.size + 1, 0, none⟩), .slice none 0 0, .pointer (some ⟨W.heap.size + 1 + 1 + 1, 0, none⟩), (.int .i64 x.1), (.pointer (some ⟨s, 0, none⟩)), undef, undef, undef, undef, .map (some (W.heap.size + 1 + 1)), .agg #[.int .i64 g.shape, .int .i64 g.w, .int .i64 g.h, .slice ah nh ch, .slice ac nc cc], .func (.func 98) #[] #[.pointer (some ⟨W.heap.size + 1 + 1 + 1 + 1, 0, none⟩)], (.int .i64 x.1), (.agg #[.int .i64 x.2.1, .int .i64 x.2.2]), undef, undef, undef, undef, undef, undef, undef, undef, undef, undef, undef, undef, undef, undef, undef, undef, undef, undef, undef, undef, undef, undef, undef, undef, undef, undef, undef, undef, undef, undef, undef], defers := [] }) (fun x W2 => W2.alloc (.cells #[.int .i64 x.2.1, .int .i64 x.2.2] 82)) (fun x W2 => (Below.refl _ _).alloc (Nat.le_refl _) _) ?hV ?hT ?h0 ?assign ?body ?done
  case hT0 =>
    rintro k rfl (h | ⟨o, h⟩)
    · omega
    · by_cases h0 : nc = 0
      · have := HV.out.pos; rw [h2.len] at this; omega
      · obtain ⟨b', o', e, hlt⟩ := h2.at' (by omega)
        rw [e] at h
        have h := Option.some.inj h
        have : b' = W.heap.size + 1 + 1 := by simpa using congrArg Addr.block h
        omega
  case hIput => rintro T pre W2 l o o' ⟨ks, vs, hI⟩ hl ho hno; exact ⟨ks, vs, hI.put (by omega) (by omega) (by omega) ho hno o'⟩
  case hVput =>
    rintro T pre x s W2 l o o' ⟨ks, vs, h1, h2, h3, h4, h5, h6⟩ hl hls ho hno
    exact ⟨ks, vs, h1.put (by omega) (by omega) (by omega) ho hno o', box_put2 h2 (by omega) o', h3, h4, h5, h6⟩
  case hIb => rintro T pre W2 W3 ⟨ks, vs, hI⟩ hb; exact ⟨ks, vs, hI.on hb⟩
  case hV => rintro T pre x W0 W1 ⟨ks, vs, hI⟩ hb ⟨hp, hl, hx⟩ hlen hs; exact ⟨ks, vs, (hI.on hb).on ((Below.refl _ _).alloc (Nat.le_refl _) _), Box.new _ _ _, by omega, fun n hn k hk => (((hI.on hb).gm.own n hn).lt k hk).2, hl, hx⟩
  case hT =>
    rintro T pre W2 ⟨ks, vs, hI⟩ k o hT hk ho
    rcases (hI.T k).1 hT with h | ⟨n, hn, e⟩
    · omega
    · exact ownInts_cells (hI.gm.own n hn) e ho
  case h0 => exact ⟨[], _, ⟨x2, (fun n hn => by cases hn), (fun n hn => by cases hn), (fun n => by simp [grpL]), by simp⟩, hB5, fun k _ _ => rfl, Nat.le_refl _, fun k => by simp⟩
  case assign =>
    rintro l ⟨c, px, py⟩ W2 K hK
    simp only [spEnc] at hK ⊢
    gi_wp2
    exact hK
  case done =>
    rintro D T xs W2 hD rfl ⟨ks, vs, hI⟩ hK
    rw [spotsUpto_len] at hI
    have hszI := hI.size
    have y3 : Box W2 (W.heap.size + 1 + 1 + 1) #[.map (some (W.heap.size + 1 + 1))] 114 := (hI.keep _ (by omega) (by omega)).trans x3
    have hM := hI.gm.map
    have hkl := hI.gm.len
    have hLS := lines_sorted hM.nodup hI.gm.keys HBD.out
    have HLS := Lib.hid hLS
    clear x1 x2 x3 x4 hLS
    have c3 : W2.cell? ⟨W.heap.size + 1 + 1 + 1, 0, none⟩ = some (.map (some (W.heap.size + 1 + 1))) := by simpa using y3.cell 0
    gi_wp2_with (first
      | (refine ⟨trivial, ?_⟩; gi_at_call 105; refine (keys_any _ _).mono ?_; rintro e w3 ⟨rfl, rfl⟩)
      | (refine ⟨trivial, ?_⟩; gi_at_call 104; refine (sortedKeys_any hM (by omega)).mono ?_; rintro e w4 ⟨v, rfl, hO4, hB4⟩; obtain ⟨sa, sc, rfl, hI4⟩ := hO4.ints))
    have hB4' : Below W2.heap.size W2 w4 := ((Below.refl _ _).alloc (Nat.le_refl _) _).trans (hB4.mono (by omega))
    have hKl : D < W2.heap.size := (Array.getElem?_eq_some_iff.1 hK).1
    have hK4 := (hB4'.block D hKl).trans hK
    have hM4 := hM.below hB4'
    have hO : ∀ n ∈ sortI ks, OwnInts w4 w5.heap.size 3 (vs n) (grpL f nc n) ∧ ∀ k, (vs n).ownBlock = some k → k < W2.heap.size := fun n hn => ⟨(hI.gm.own n (mem_sortI.1 hn)).below hB4', fun k hk => ((hI.gm.own n (mem_sortI.1 hn)).lt k hk).2⟩
    have y4 : Box w4 (W.heap.size + 1 + 1 + 1) #[.map (some (W.heap.size + 1 + 1))] 114 := y3.below hB4'
    have hIB := hI.below
    have hsl : (sortI ks).length ≤ 256 := by rw [sortI_len]; omega
    have hs4 := hB4'.size
    have hmk : ∀ x, x ∈ sortI ks → x ∈ ks ∧ (Lit.int .i64 x).wf = true := fun x hx => ⟨mem_sortI.1 hx, hM.keys x (mem_sortI.1 hx)⟩
    have HO := Lib.hid hO
    have HMK := Lib.hid hmk
    clear hI hM c3 y3 hB4 hO hK hO4 hmk
    obtain ⟨sl, hsle⟩ : ∃ sl, sortI ks = sl := ⟨_, rfl⟩
    rw [hsle] at HLS HO HMK hI4 hsl ⊢
    clear hsle
    obtain ⟨m, hm⟩ : ∃ m, sl.length = m := ⟨_, rfl⟩
    rw [hm] at hI4 hsl ⊢
    have HM := Lib.hid hm
    clear hm
    have hcc := hI4.cap
    have hmc := hI4.mx
    unfold maxLen at hmc
    obtain ⟨i22, hi22, hz220, hz221, hz222⟩ := info_parts info_ints
    gi_loopw [4, 36] (fun r i wr => ∃ k : Nat, k ≤ m ∧ i = .int .i64 k ∧ NRows wr w4.heap.size W.heap.size 22 r ((sl.take k).map (grpL f nc)) ∧ Below w4.heap.size w4 wr) (fun _ i _ => m - (intOf i).toNat)
    case atStart => exact ⟨0, by omega, rfl, NRows.nil _ _ _ _, Below.refl _ _⟩
    case round =>
      obtain ⟨k, hk, rfl, hr, hBr⟩ := hrel
      have hsr := hBr.size
      by_cases hlt : k < m
      · obtain ⟨cb, co, rfl, hcb⟩ := (hI4.below hBr).at' (by omega)
        have e0 := (hI4.below hBr).cell cb co rfl k hlt
        have hmem := getD_mem sl k (by rw [HM.out]; exact hlt)
        have htk := take_getD sl k (by rw [HM.out]; exact hlt)
        obtain ⟨x, hx⟩ : ∃ x, sl[k]?.getD 0 = x := ⟨_, rfl⟩
        rw [hx] at e0 hmem htk
        have HTK := Lib.hid htk
        obtain ⟨hxk, hxw⟩ := HMK.out x hmem
        obtain ⟨hOx, hOl⟩ := HO.out x hmem
        have hOB : ∀ q, (vs x).ownBlock = some q → w5.heap.size ≤ q := fun q hq => (hOx.lt q hq).1
        obtain ⟨va, vc, hve, hvI⟩ := hOx.ints
        have hrun := (hM4.below hBr).look Try.underlying114 (z := .slice none 0 0) (by kernel_rfl) x hxw
        rw [if_pos hxk, hve] at hrun
        simp only [ki] at hrun
        have c3 : wr.cell? ⟨W.heap.size + 1 + 1 + 1, 0, none⟩ = some (.map (some (W.heap.size + 1 + 1))) := by simpa using (y4.below hBr).cell 0
        have hcl := (y4.below hBr).lt
        rw [hve] at hOl hOB
        obtain ⟨us, hus, hE, hN⟩ := hr
        have HN := Lib.hid hN
        clear hN
        have hlen : ((sl.take k).map (grpL f nc)).length = k := by rw [List.length_map, List.length_take, HM.out]; omega
        rw [hlen] at hus
        have HLE := Lib.hid hlen
        obtain ⟨G, hG⟩ : ∃ G, (grpL f nc x) = G := ⟨_, rfl⟩
        rw [hG] at hvI hrun hOl hOB
        obtain ⟨Ln, hLn⟩ : ∃ Ln, G.length = Ln := ⟨_, rfl⟩
        rw [hLn] at hvI hrun hOl hOB
        have HG := Lib.hid hG
        have hne : 0 < Ln → (Value.slice va Ln vc).ownBlock ≠ _ := fun h0 e => by
          obtain ⟨q, o, rfl, _⟩ := hvI.at' h0
          have h1 := hOl q rfl
          have h2 := (hus.lt q e.symm).1
          omega
        have HNE := Lib.hid hne
        have HOL := Lib.hid hOB
        clear hOB hx hG hLn hOl hOx hve hmem htk hlen hne
        gi_wp2_with (gi_at_builtin; refine wpListIn_append_own2 _ rfl _ _ 28 rfl w4.heap.size 22 i22 (.slice none 0 0) 1 24 Try.underlying28 hi22 hz220 hz221 hz222 rfl (by decide) _ _ _ (hus.alloc _) rfl ⟨_, 0, none⟩ 1 1 [.slice va Ln vc] rfl rfl (cell_one_new _ _ _) (by simp [Value.oneCell']) (by unfold maxLen; omega) (by omega) (by first | omega | (simp; omega)) ?_; intro v' w1 hown' hgrow hfr)
        clear hrun
        go_roundw
        case rel =>
          refine ⟨k + 1, by omega, by go_num, ?_, (hBr.alloc (by omega) _).grown hgrow (by simp; omega) (fun q e => (hus.lt q e).1)⟩
          rw [HTK.out, List.map_append, List.map_cons, List.map_nil, HG.out]
          exact NRows.pushAll (hE.mono fun _ _ hu => hu.below ((Below.refl _ _).alloc (Nat.le_refl _) _)) HN.out (by rw [HLE.out]; exact hown') hgrow hfr (.cons ⟨_, _, _, rfl, (hvI.below hBr).below ((Below.refl _ _).alloc (Nat.le_refl _) _), HNE.out⟩ .nil) (fun u hu q hq => by rw [List.mem_singleton.1 hu] at hq; have := HOL.out q hq; omega)
        case measure => simp [intOf]; omega
      · obtain rfl : k = m := by omega
        gi_wp2
        have hKr := (hBr.block D (by omega)).trans hK4
        refine ⟨by simp, .inl ⟨_, _, rfl, run_takeDeferred hKr, ?_⟩⟩
        refine ⟨u4, ?_, ?_⟩
        · simp [results, Try.results78, go_sem]
        · have hrr := nrows_put hr hKr (.deferred none)
          rw [← HM.out, List.take_length, HLS.out] at hrr
          exact ⟨_, rfl, hrr.mono (by have := hIB.size; omega) (Nat.le_refl _), below_put2 ((hIB.on hB4').on hBr) (by have := hB5.size; omega) (by have := hIB.size; omega) _⟩
  case body =>
    rintro l T pre x s W2 ⟨ks, vs, hI, hbx, hnew, hold, hlt, hx⟩ hlen hs
    obtain ⟨p, hp⟩ : ∃ p, pre.length = p := ⟨_, rfl⟩
    rw [hp] at hI hlt hx
    obtain ⟨px, py, hpl⟩ : ∃ px py, plc g p = (px, py) := ⟨_, _, rfl⟩
    have hsm := small_plc HV.out (k := p) (by rw [h2.len]; exact hlt)
    rw [hpl] at hx hsm
    subst hx
    simp only at hsm hbx
    obtain ⟨n, ok, hN, hnb, hcall⟩ := HB.out px py W2 hsm.1 hsm.2 hI.below
    have hfp : f p = (if ok = true then some n else none) := by rw [← HF.out]; unfold numOf; rw [hpl]; exact hN
    have HFP := Lib.hid hfp
    have HPP := Lib.hid hp
    clear hpl hN hfp hp
    have hy1 : Box W2 (W.heap.size + 1) #[.func (.func byf) #[] caps] 91 := (hI.keep _ (by omega) (by omega)).trans x1
    have hy3 : Box W2 (W.heap.size + 1 + 1 + 1) #[.map (some (W.heap.size + 1 + 1))] 114 := (hI.keep _ (by omega) (by omega)).trans x3
    have c0 : W2.cell? ⟨W.heap.size + 1, 0, none⟩ = some (.func (.func byf) #[] caps) := by simpa using hy1.cell 0
    have c1 : W2.cell? ⟨s, 0, none⟩ = some (.int .i64 px) := by simpa using hbx.cell 0
    have c2 : W2.cell? ⟨s, 1, none⟩ = some (.int .i64 py) := by simpa using hbx.cell 1
    have hsl := hbx.lt
    have HCL := Lib.hid hcall
    clear hcall
    have hsz7 := hs
    cases ok with
    | false =>
      gi_wp2_with (refine ⟨trivial, ?_⟩; (try simp only [hen]); refine (CallsIn.inRound l (callsIn_wide.2 HCL.out)).mono ?_; rintro e w7 ⟨rfl, hBw⟩)
      have hI7 := hI.on hBw
      have hf0 : f p = none := by simpa using HFP.out
      exact ⟨T, ⟨by have := hBw.size; omega, fun k hk _ => hBw.block k (by omega), fun k h => .inl h, fun k h => hI7.lt (by omega) h⟩, ks, vs, by rw [List.length_append, HPP.out]; exact hI7.skip hf0⟩
    | true =>
      gi_wp2_with (refine ⟨trivial, ?_⟩; (try simp only [hen]); refine (CallsIn.inRound l (callsIn_wide.2 HCL.out)).mono ?_; rintro e X ⟨rfl, hBw⟩)
      have hI7 := hI.on hBw
      have hf0 : f p = some n := by simpa using HFP.out
      have HF0 := Lib.hid hf0
      have hnw : (Lit.int .i64 n).wf = true := WalkArith.wf_i64 (by omega)
      obtain ⟨v, hv⟩ : ∃ v, (if n ∈ ks then vs n else .slice none 0 0) = v := ⟨_, rfl⟩
      have hOv : OwnInts X w5.heap.size 3 v (grpL f p n) := by
        rw [← hv]
        by_cases h : n ∈ ks
        · rw [if_pos h]; exact hI7.gm.own n h
        · rw [if_neg h]
          have : grpL f p n = [] := by
            by_cases h5 : grpL f p n = []
            · exact h5
            · exact absurd ((hI7.gm.keys n).2 h5) h
          rw [this]; exact OwnInts.nil _ _ _
      have hvlt : ∀ k, v.ownBlock = some k → w5.heap.size ≤ k := fun k hk => (hOv.lt k hk).1
      have hl0 : (Instr.lookup 114 (.map (some (W.heap.size + 1 + 1))) (.int .i64 n) false).run Try.prog X.drew = .ok v X.drew := by
        rw [← hv]; exact VMap.look Try.underlying114 (by kernel_rfl) (hI7.gm.map.below (Below.refl _ _).drew) n hnw
      have hl1 : (Instr.lookup 114 (.map (some (W.heap.size + 1 + 1))) (.int .i64 n) false).run Try.prog (X.alloc (.cells #[.int .i64 p] 3)).drew = .ok v (X.alloc (.cells #[.int .i64 p] 3)).drew := by
        rw [← hv]; exact VMap.look Try.underlying114 (by kernel_rfl) (hI7.gm.map.below (((Below.refl _ _).alloc (Nat.le_refl _) _).drew)) n hnw
      have HV2 := Lib.hid hv
      have xb : Box X (W.heap.size + 1 + 1 + 1) #[.map (some (W.heap.size + 1 + 1))] 114 := hy3.below hBw
      have f1 : X.cell? ⟨W.heap.size + 1 + 1 + 1, 0, none⟩ = some (.map (some (W.heap.size + 1 + 1))) := by simpa using xb.cell 0
      have xM := hI7.gm.map
      have hXs := hI7.size
      have hsX := hBw.size
      have hgl := grpL_len f p n
      obtain ⟨L, hL⟩ : ∃ L, (grpL f p n).length = L := ⟨_, rfl⟩
      have hOr : X.ownsRow w5.heap.size 3 1 v (grpL f p n).length ((grpL f p n).map (Value.int .i64)) := hOv
      rw [hL] at hOr hgl
      have HL := Lib.hid hL
      clear hf0 hv hL c0 c1 c2 hy1 hy3 hnb hsm hbx hOv
      obtain ⟨i3, hi3, hz30, hz31, hz32⟩ := info_parts info_int
      refine wpIn_region_heldR (S := fun w' => w'.cell? ⟨W.heap.size + 1 + 1 + 1, 0, none⟩ = some (.map (some (W.heap.size + 1 + 1)))) (by kernel_rfl) (by kernel_rfl) ?_
      have hS0 : (fun w' : World => w'.cell? ⟨W.heap.size + 1 + 1 + 1, 0, none⟩ = some (.map (some (W.heap.size + 1 + 1)))) X.drew := f1
      refine wpAnyH_take (i := 0) (v := ?va) rfl (by kernel_rfl) (by kernel_rfl) (by kernel_rfl) NormQ.hq (Or.inl ⟨by rfl, ?ya⟩) (by assumption) ?ra
      case ya =>
        intro w hSw
        (try dsimp only at hSw)
        go_simp
        try with_reducible rfl
      try simp only [Act.put, List.setIfInBounds_toArray]
      refine wpAnyH_take (i := 1) (v := ?vb) rfl (by kernel_rfl) (by kernel_rfl) (by kernel_rfl) NormQ.hq (Or.inl ⟨by rfl, ?yb⟩) (by assumption) ?rb
      case yb =>
        intro w hSw
        (try dsimp only at hSw)
        go_simp
        try with_reducible rfl
      try simp only [Act.put]
      refine wpAnyH_take (i := 2) (v := ?vc) rfl (by kernel_rfl) (by kernel_rfl) (by kernel_rfl) NormQ.hq (Or.inl ⟨by rfl, ?yc⟩) (by assumption) ?rc
      case yc =>
        intro w hSw
        (try dsimp only at hSw)
        go_simp
        try with_reducible rfl
      try simp only [Act.put]
      refine wpAnyH_take (i := 3) (v := ?vd) rfl (by kernel_rfl) (by kernel_rfl) (by kernel_rfl) NormQ.hq (Or.inl ⟨by rfl, ?yd⟩) (by assumption) ?rd
      case yd =>
        intro w hSw
        (try dsimp only at hSw)
        go_simp
        try with_reducible rfl
      try simp only [Act.put]
      refine wpAnyH_take (i := 5) (v := ?ve) rfl (by kernel_rfl) (by kernel_rfl) (by kernel_rfl) NormQ.hq (Or.inl ⟨by rfl, ?ye⟩) (by assumption) ?re
      case ye =>
        intro w hSw
        (try dsimp only at hSw)
        go_simp
        try with_reducible rfl
      try simp only [Act.put]
      refine wpAnyH_ready (rs := [4, 6]) (by kernel_rfl) (by simp) (AllReadyH.cons rfl (fun K hK => ?_) (AllReadyH.cons rfl (fun K hK => ?_) AllReadyH.nil))
      · go_simp
        refine hK.out _ _ f1 (fun hS1 => ?_)
        clear hK K
        refine wpAnyH_ready (rs := [6]) (by kernel_rfl) (by simp) (AllReadyH.cons rfl (fun K hK => ?_) AllReadyH.nil)
        go_simp
        refine hK.out _ _ (by simpa using (xb.alloc (.cells #[.int .i64 p] 3)).cell 0) (fun hS2 => ?_)
        clear hK K
        refine wpAnyH_ready (rs := [7]) (by kernel_rfl) (by simp) (AllReadyH.cons rfl (fun K hK => ?_) AllReadyH.nil)
        refine step_append_own2 rfl _ _ 22 rfl w5.heap.size 3 i3 (.int .i64 0) 1 8 Try.underlying22 hi3 hz30 hz31 hz32 rfl (by decide) v L _ (ownsRow_below' hOr (by repeat (first | (with_reducible exact Below.refl _ _) | (with_reducible assumption) | (with_reducible refine below_drewN ?_ _) | ((with_reducible refine Below.setCell ?_ ?_ _); rotate_left; focus (first | (simp; done) | (simp; omega) | omega)) | ((with_reducible refine Below.alloc ?_ ?_ _); rotate_left; focus (first | (simp; done) | (simp; omega) | omega)) | (with_reducible refine Below.drew ?_)))) rfl ⟨_, 0, none⟩ 1 1 [.int .i64 p] rfl rfl (fun j u h => cell_one_new X _ _ j u h) (by simp [Value.oneCell']) (by unfold maxLen; omega) (by omega) (by simp; omega) ?_
        intro v9 w9 hown' hgrow hfr
        obtain ⟨a9, c9, rfl, _, _⟩ := own_slice hown'
        have nev : ∀ k, k < w5.heap.size → some k ≠ v.ownBlock := fun k hk e => by have := hvlt k e.symm; omega
        have b3 : Box w9 (W.heap.size + 1 + 1 + 1) #[.map (some (W.heap.size + 1 + 1))] 114 := (hgrow.block _ (by simp; omega) (nev _ (by omega))).trans (xb.alloc _)
        have bM : VMap w9 (W.heap.size + 1 + 1) ks vs := (xM.below (((Below.refl _ _).drew).alloc (Nat.le_refl _) (.cells #[.int .i64 p] 3))).grown hgrow (nev _ (by omega))
        have hO9 : OwnInts w9 w5.heap.size 3 (.slice a9 (L + 1) c9) (grpL f p n ++ [(p : Int)]) := OwnInts.snoc (by rw [HL.out]; exact hown')
        refine hK.out _ _ (by simpa using b3.cell 0) (fun hS3 => ?_)
        clear hK K
        obtain ⟨w10, hrun, hM10, hg10, hs10⟩ := bM.put Try.underlying114 n (.slice a9 (L + 1) c9) hnw
        have b4 : Box w10 (W.heap.size + 1 + 1 + 1) #[.map (some (W.heap.size + 1 + 1))] 114 := b3.grown hg10 (by intro e; have := Option.some.inj e; omega)
        simp only [ki] at hrun
        refine wpAnyH_ready (rs := [8]) (by kernel_rfl) (by simp) (AllReadyH.cons rfl (fun K hK => ?_) AllReadyH.nil)
        go_simp
        refine hK.out _ _ (by simpa using b4.cell 0) (fun hS4 => ?_)
        clear hK K
        refine wpAnyH_done (by kernel_rfl) ?_ _
        refine ⟨rfl, ?_⟩
        clear hS0 hS1 hS2 hS3 hS4 f1 hrun
        gi_wp2
        obtain ⟨T', hKA, hI10⟩ := hI7.step (Y := X.drew.alloc (.cells #[.int .i64 p] 3)) HF0.out (by omega) (by omega) (((Below.refl _ _).drew).alloc (Nat.le_refl _) _) HV2.out.symm hO9 hgrow hfr hM10 hg10 hold (by omega) hnew
        exact ⟨T', ⟨hKA.size, fun k hk hT => (hKA.same k hk hT).trans (hBw.block k (by omega)), hKA.own, hKA.lt⟩, _, _, by rw [List.length_append, HPP.out]; exact hI10⟩
      · go_simp
        refine hK.out _ _ (by simpa using (xb.alloc (.cells #[.int .i64 p] 3)).cell 0) (fun hS1 => ?_)
        clear hK K
        refine wpAnyH_ready (rs := [4]) (by kernel_rfl) (by simp) (AllReadyH.cons rfl (fun K hK => ?_) AllReadyH.nil)
        go_simp
        refine hK.out _ _ (by simpa using (xb.alloc (.cells #[.int .i64 p] 3)).cell 0) (fun hS2 => ?_)
        clear hK K
        refine wpAnyH_ready (rs := [7]) (by kernel_rfl) (by simp) (AllReadyH.cons rfl (fun K hK => ?_) AllReadyH.nil)
        refine step_append_own2 rfl _ _ 22 rfl w5.heap.size 3 i3 (.int .i64 0) 1 8 Try.underlying22 hi3 hz30 hz31 hz32 rfl (by decide) v L _ (ownsRow_below' hOr (by repeat (first | (with_reducible exact Below.refl _ _) | (with_reducible assumption) | (with_reducible refine below_drewN ?_ _) | ((with_reducible refine Below.setCell ?_ ?_ _); rotate_left; focus (first | (simp; done) | (simp; omega) | omega)) | ((with_reducible refine Below.alloc ?_ ?_ _); rotate_left; focus (first | (simp; done) | (simp; omega) | omega)) | (with_reducible refine Below.drew ?_)))) rfl ⟨_, 0, none⟩ 1 1 [.int .i64 p] rfl rfl (fun j u h => cell_one_new X _ _ j u h) (by simp [Value.oneCell']) (by unfold maxLen; omega) (by omega) (by simp; omega) ?_
        intro v9 w9 hown' hgrow hfr
        obtain ⟨a9, c9, rfl, _, _⟩ := own_slice hown'
        have nev : ∀ k, k < w5.heap.size → some k ≠ v.ownBlock := fun k hk e => by have := hvlt k e.symm; omega
        have b3 : Box w9 (W.heap.size + 1 + 1 + 1) #[.map (some (W.heap.size + 1 + 1))] 114 := (hgrow.block _ (by simp; omega) (nev _ (by omega))).trans (xb.alloc _)
        have bM : VMap w9 (W.heap.size + 1 + 1) ks vs := (xM.below (((Below.refl _ _).drew).alloc (Nat.le_refl _) (.cells #[.int .i64 p] 3))).grown hgrow (nev _ (by omega))
        have hO9 : OwnInts w9 w5.heap.size 3 (.slice a9 (L + 1) c9) (grpL f p n ++ [(p : Int)]) := OwnInts.snoc (by rw [HL.out]; exact hown')
        refine hK.out _ _ (by simpa using b3.cell 0) (fun hS3 => ?_)
        clear hK K
        obtain ⟨w10, hrun, hM10, hg10, hs10⟩ := bM.put Try.underlying114 n (.slice a9 (L + 1) c9) hnw
        have b4 : Box w10 (W.heap.size + 1 + 1 + 1) #[.map (some (W.heap.size + 1 + 1))] 114 := b3.grown hg10 (by intro e; have := Option.some.inj e; omega)
        simp only [ki] at hrun
        refine wpAnyH_ready (rs := [8]) (by kernel_rfl) (by simp) (AllReadyH.cons rfl (fun K hK => ?_) AllReadyH.nil)
        go_simp
        refine hK.out _ _ (by simpa using b4.cell 0) (fun hS4 => ?_)
        clear hK K
        refine wpAnyH_done (by kernel_rfl) ?_ _
        refine ⟨rfl, ?_⟩
        clear hS0 hS1 hS2 hS3 hS4 f1 hrun
        gi_wp2
        obtain ⟨T', hKA, hI10⟩ := hI7.step (Y := X.drew.alloc (.cells #[.int .i64 p] 3)) HF0.out (by omega) (by omega) (((Below.refl _ _).drew).alloc (Nat.le_refl _) _) HV2.out.symm hO9 hgrow hfr hM10 hg10 hold (by omega) hnew
        exact ⟨T', ⟨hKA.size, fun k hk hT => (hKA.same k hk hT).trans (hBw.block k (by omega)), hKA.own, hKA.lt⟩, _, _, by rw [List.length_append, HPP.out]; exact hI10⟩
end Go.Proofs.Ytjiacdihfbbfjaa

/- The closures that number the spots. -/
namespace Go.Proofs.Ytjiacdihfbbfjaa
open Go.RowKit

set_option maxRecDepth 10000 in
set_option maxHeartbeats 1000000 in
theorem by_row (W : World) : ByAt W 79 #[] (fun p => some (p.2)) := by
  intro x y W' hx hy hB
  refine ⟨_, true, rfl, by simp only; omega, ?_⟩
  have hal : Below W'.heap.size W' (W'.alloc (.cells #[.int .i64 x, .int .i64 y] 82)) := (Below.refl _ _).alloc (Nat.le_refl _) _
  go_enter Try.func79, Try.ntmps79
  go_wp2
  go_ret2
  exact ⟨rfl, hal⟩
set_option maxRecDepth 10000 in
set_option maxHeartbeats 1000000 in
theorem by_col (W : World) : ByAt W 80 #[] (fun p => some (p.1)) := by
  intro x y W' hx hy hB
  refine ⟨_, true, rfl, by simp only; omega, ?_⟩
  have hal : Below W'.heap.size W' (W'.alloc (.cells #[.int .i64 x, .int .i64 y] 82)) := (Below.refl _ _).alloc (Nat.le_refl _) _
  go_enter Try.func80, Try.ntmps80
  go_wp2
  go_ret2
  exact ⟨rfl, hal⟩
set_option maxRecDepth 10000 in
set_option maxHeartbeats 1000000 in
theorem by_sum (W : World) : ByAt W 106 #[] (fun p => some (p.1 + p.2)) := by
  intro x y W' hx hy hB
  refine ⟨_, true, rfl, by simp only; omega, ?_⟩
  have hal : Below W'.heap.size W' (W'.alloc (.cells #[.int .i64 x, .int .i64 y] 82)) := (Below.refl _ _).alloc (Nat.le_refl _) _
  go_enter Try.func106, Try.ntmps106
  go_wp2
  go_ret2
  exact ⟨rfl, hal⟩
set_option maxRecDepth 10000 in
set_option maxHeartbeats 1000000 in
theorem by_main (W : World) : ByAt W 107 #[] (fun p => if p.1 = p.2 then some 0 else none) := by
  intro x y W' hx hy hB
  refine ⟨0, x == y, by simp, by omega, ?_⟩
  have hal : Below W'.heap.size W' (W'.alloc (.cells #[.int .i64 x, .int .i64 y] 82)) := (Below.refl _ _).alloc (Nat.le_refl _) _
  go_enter Try.func107, Try.ntmps107
  go_wp2
  go_quiet (fail)
  go_wp2
  go_ret2
  exact ⟨rfl, below_drewN hal _⟩
set_option maxRecDepth 10000 in
set_option maxHeartbeats 1000000 in
theorem by_anti (b : Nat) (cs : Array Value) (w : Int) (W : World) (hb : Box W b cs 24) (h1 : cs[1]? = some (.int .i64 w)) (hw : 0 ≤ w ∧ w ≤ 1000) : ByAt W 108 #[.pointer (some ⟨b, 0, none⟩)] (fun p => if p.1 + p.2 = w - 1 then some 0 else none) := by
  intro x y W' hx hy hB
  refine ⟨0, x + y == w - 1, by simp, by omega, ?_⟩
  have hal : Below W'.heap.size W' (W'.alloc (.cells #[.int .i64 x, .int .i64 y] 82)) := (Below.refl _ _).alloc (Nat.le_refl _) _
  have hbl := (hb.below hB).lt
  have hc : W'.cell? ⟨b, 1, none⟩ = some (.int .i64 w) := by rw [(hb.below hB).cell]; exact h1
  show Calls Try.prog 108 #[.agg #[.int .i64 x, .int .i64 y], .pointer (some ⟨b, 0, none⟩)] W' _
  go_enter Try.func108, Try.ntmps108
  go_wp2
  go_quiet (fail)
  go_wp2
  go_ret2
  exact ⟨rfl, below_drewN hal _⟩
end Go.Proofs.Ytjiacdihfbbfjaa

/- grids.diagonals on a hexagonal grid; grids.Family at the families that are lines. -/
namespace Go.Proofs.Ytjiacdihfbbfjaa
open Go.RowKit

def rowF (g : Grid) : Nat → Option Int := numOf g (fun p => some p.2)
def colF (g : Grid) : Nat → Option Int := numOf g (fun p => some p.1)
def sumF (g : Grid) : Nat → Option Int := numOf g (fun p => some (p.1 + p.2))
theorem plc_bds {g : Grid} (hv : Valid g) {c : Nat} (hc : c < g.cells.length) : (-7 ≤ (plc g c).1 ∧ (plc g c).1 ≤ 15) ∧ (0 ≤ (plc g c).2 ∧ (plc g c).2 ≤ 15) := by
  have hm := hv.mem (getD_mem g.cells c hc)
  obtain ⟨d1, d2, d3, d4, d5⟩ := hv.dims
  unfold plc placeOf
  generalize g.cells[c]?.getD 0 = x at *
  have q1 : 0 ≤ x % g.w := Int.emod_nonneg _ (by omega)
  have q2 : x % g.w < g.w := Int.emod_lt_of_pos _ (by omega)
  have q3 : 0 ≤ x / g.w := Int.ediv_nonneg hm.1 (by omega)
  have q4 : x / g.w < g.h := Int.ediv_lt_of_lt_mul (by omega) (by have := hm.2; rw [Int.mul_comm]; exact this)
  by_cases hs : g.shape = 2
  · rw [if_pos hs]; simp only; omega
  · rw [if_neg hs]; simp only; omega
def RetLn (W : World) (ll : List (List Int)) (e : Ending) (w' : World) : Prop := ∃ v, e = .returned v ∧ NRows w' W.heap.size W.heap.size 22 v ll ∧ Below W.heap.size W w'
def RetRowsN (w : World) (ll : List (List Int)) (e : Ending) (w' : World) : Prop := ∃ v, e = .returned (.tuple #[v, .int .i64 0]) ∧ NRows w' w.heap.size w.heap.size 22 v ll ∧ Below w.heap.size w w'
theorem row_lines (g : Grid) (ah ac : Option Addr) (nh ch nc cc : Nat) (W : World) (h2 : Ints W ac nc cc g.cells) (hv : Valid g) : Calls Try.prog 78 #[.agg #[.int .i64 g.shape, .int .i64 g.w, .int .i64 g.h, .slice ah nh ch, .slice ac nc cc], .func (.func 79) #[] #[]] W (RetLn W (linesL (rowF g) nc)) :=
  lines_any g ah ac nh ch nc cc _ _ _ W h2 hv (enters_of Try.func79 (by kernel_rfl) rfl) (by_row W) (fun c n hc h => by have := plc_bds hv (c := c) (by rw [h2.len]; exact hc); unfold numOf at h; have := Option.some.inj h; omega)
theorem col_lines (g : Grid) (ah ac : Option Addr) (nh ch nc cc : Nat) (W : World) (h2 : Ints W ac nc cc g.cells) (hv : Valid g) : Calls Try.prog 78 #[.agg #[.int .i64 g.shape, .int .i64 g.w, .int .i64 g.h, .slice ah nh ch, .slice ac nc cc], .func (.func 80) #[] #[]] W (RetLn W (linesL (colF g) nc)) :=
  lines_any g ah ac nh ch nc cc _ _ _ W h2 hv (enters_of Try.func80 (by kernel_rfl) rfl) (by_col W) (fun c n hc h => by have := plc_bds hv (c := c) (by rw [h2.len]; exact hc); unfold numOf at h; have := Option.some.inj h; omega)
theorem sum_lines (g : Grid) (ah ac : Option Addr) (nh ch nc cc : Nat) (W : World) (h2 : Ints W ac nc cc g.cells) (hv : Valid g) : Calls Try.prog 78 #[.agg #[.int .i64 g.shape, .int .i64 g.w, .int .i64 g.h, .slice ah nh ch, .slice ac nc cc], .func (.func 106) #[] #[]] W (RetLn W (linesL (sumF g) nc)) :=
  lines_any g ah ac nh ch nc cc _ _ _ W h2 hv (enters_of Try.func106 (by kernel_rfl) rfl) (by_sum W) (fun c n hc h => by have := plc_bds hv (c := c) (by rw [h2.len]; exact hc); unfold numOf at h; have := Option.some.inj h; omega)

set_option maxRecDepth 20000 in
set_option maxHeartbeats 2000000 in
theorem diag_hex (g : Grid) (ah ac : Option Addr) (nh ch nc cc : Nat) (W : World) (h2 : Ints W ac nc cc g.cells) (hv : Valid g) (hs : g.shape = 2) : Calls Try.prog 81 #[.agg #[.int .i64 g.shape, .int .i64 g.w, .int .i64 g.h, .slice ah nh ch, .slice ac nc cc]] W (RetLn W (linesL (sumF g) nc)) := by
  have hal : Below W.heap.size W (W.alloc (.cells #[.int .i64 g.shape, .int .i64 g.w, .int .i64 g.h, .slice ah nh ch, .slice ac nc cc] 24)) := (Below.refl _ _).alloc (Nat.le_refl _) _
  have HC := Lib.hid (sum_lines g ah ac nh ch nc cc _ (h2.below hal) hv)
  have ts : (g.shape == 2) = true := by rw [hs]; rfl
  clear hs hv
  go_enter Try.func81, Try.ntmps81
  go_wp2_with fail
  refine HC.out.mono ?_
  rintro e w1 ⟨v, rfl, hO, hB⟩
  go_wp2_with fail
  go_ret
  exact ⟨_, rfl, hO.mono (by simp) (by simp), hal.on hB⟩

set_option maxRecDepth 20000 in
set_option maxHeartbeats 2000000 in
theorem fam_row (g : Grid) (ah ac : Option Addr) (nh ch nc cc : Nat) (W : World) (h1 : Ints W ah nh ch g.holes) (h2 : Ints W ac nc cc g.cells) (hn : nh ≤ 10000000) (hm : nc ≤ 10000000000) (he : checkErr g = 0) (hs : 1 = 3 → g.shape = 2) : Calls Try.prog 47 #[.agg #[.int .i64 g.shape, .int .i64 g.w, .int .i64 g.h, .slice ah nh ch, .slice ac nc cc], .int .i64 1] W (RetRowsN W (linesL (rowF g) nc)) := by
  have hv := valid_of he
  have hal : Below W.heap.size W (W.alloc (.cells #[.int .i64 g.shape, .int .i64 g.w, .int .i64 g.h, .slice ah nh ch, .slice ac nc cc] 24)) := (Below.refl _ _).alloc (Nat.le_refl _) _
  have hc := neighbors_any g ah ac nh ch nc cc _ (h1.below hal) (h2.below hal) hn hm
  rw [he] at hc
  have HC := Lib.hid hc
  have hx := Box.new W #[.int .i64 g.shape, .int .i64 g.w, .int .i64 g.h, .slice ah nh ch, .slice ac nc cc] 24
  have HV := Lib.hid hv
  have HS := Lib.hid hs
  clear hc hv he hs
  go_enter Try.func47, Try.ntmps47
  go_wp2_with fail
  refine HC.out.mono ?_
  rintro e w1 ⟨v1, rfl, hO1, hB1⟩
  have hx1 := hx.below hB1
  have hxl := hx1.lt
  obtain ⟨d0, d1, d2, d3, d4⟩ := hx1.g5
  have hcall := row_lines g ah ac nh ch nc cc w1 (h2.below (hal.on hB1)) HV.out
  have HCL := Lib.hid hcall
  clear hcall
  go_wp2_with fail
  refine HCL.out.mono ?_
  rintro e w2 ⟨v2, rfl, hO2, hB2⟩
  go_wp2_with fail
  refine bodyPost_ret (v := .tuple #[v2, .int .i64 0]) (by simp [results, Try.results47, go_sem]) rfl ?_
  exact ⟨_, rfl, hO2.mono (by have := hB1.size; simp at this; omega) (by have := hB1.size; simp at this; omega), (hal.on hB1).on hB2⟩
set_option maxRecDepth 20000 in
set_option maxHeartbeats 2000000 in
theorem fam_col (g : Grid) (ah ac : Option Addr) (nh ch nc cc : Nat) (W : World) (h1 : Ints W ah nh ch g.holes) (h2 : Ints W ac nc cc g.cells) (hn : nh ≤ 10000000) (hm : nc ≤ 10000000000) (he : checkErr g = 0) (hs : 2 = 3 → g.shape = 2) : Calls Try.prog 47 #[.agg #[.int .i64 g.shape, .int .i64 g.w, .int .i64 g.h, .slice ah nh ch, .slice ac nc cc], .int .i64 2] W (RetRowsN W (linesL (colF g) nc)) := by
  have hv := valid_of he
  have hal : Below W.heap.size W (W.alloc (.cells #[.int .i64 g.shape, .int .i64 g.w, .int .i64 g.h, .slice ah nh ch, .slice ac nc cc] 24)) := (Below.refl _ _).alloc (Nat.le_refl _) _
  have hc := neighbors_any g ah ac nh ch nc cc _ (h1.below hal) (h2.below hal) hn hm
  rw [he] at hc
  have HC := Lib.hid hc
  have hx := Box.new W #[.int .i64 g.shape, .int .i64 g.w, .int .i64 g.h, .slice ah nh ch, .slice ac nc cc] 24
  have HV := Lib.hid hv
  have HS := Lib.hid hs
  clear hc hv he hs
  go_enter Try.func47, Try.ntmps47
  go_wp2_with fail
  refine HC.out.mono ?_
  rintro e w1 ⟨v1, rfl, hO1, hB1⟩
  have hx1 := hx.below hB1
  have hxl := hx1.lt
  obtain ⟨d0, d1, d2, d3, d4⟩ := hx1.g5
  have hcall := col_lines g ah ac nh ch nc cc w1 (h2.below (hal.on hB1)) HV.out
  have HCL := Lib.hid hcall
  clear hcall
  go_wp2_with fail
  refine HCL.out.mono ?_
  rintro e w2 ⟨v2, rfl, hO2, hB2⟩
  go_wp2_with fail
  refine bodyPost_ret (v := .tuple #[v2, .int .i64 0]) (by simp [results, Try.results47, go_sem]) rfl ?_
  exact ⟨_, rfl, hO2.mono (by have := hB1.size; simp at this; omega) (by have := hB1.size; simp at this; omega), (hal.on hB1).on hB2⟩
set_option maxRecDepth 20000 in
set_option maxHeartbeats 2000000 in
theorem fam_diag (g : Grid) (ah ac : Option Addr) (nh ch nc cc : Nat) (W : World) (h1 : Ints W ah nh ch g.holes) (h2 : Ints W ac nc cc g.cells) (hn : nh ≤ 10000000) (hm : nc ≤ 10000000000) (he : checkErr g = 0) (hs : 3 = 3 → g.shape = 2) : Calls Try.prog 47 #[.agg #[.int .i64 g.shape, .int .i64 g.w, .int .i64 g.h, .slice ah nh ch, .slice ac nc cc], .int .i64 3] W (RetRowsN W (linesL (sumF g) nc)) := by
  have hv := valid_of he
  have hal : Below W.heap.size W (W.alloc (.cells #[.int .i64 g.shape, .int .i64 g.w, .int .i64 g.h, .slice ah nh ch, .slice ac nc cc] 24)) := (Below.refl _ _).alloc (Nat.le_refl _) _
  have hc := neighbors_any g ah ac nh ch nc cc _ (h1.below hal) (h2.below hal) hn hm
  rw [he] at hc
  have HC := Lib.hid hc
  have hx := Box.new W #[.int .i64 g.shape, .int .i64 g.w, .int .i64 g.h, .slice ah nh ch, .slice ac nc cc] 24
  have HV := Lib.hid hv
  have HS := Lib.hid hs
  clear hc hv he hs
  go_enter Try.func47, Try.ntmps47
  go_wp2_with fail
  refine HC.out.mono ?_
  rintro e w1 ⟨v1, rfl, hO1, hB1⟩
  have hx1 := hx.below hB1
  have hxl := hx1.lt
  obtain ⟨d0, d1, d2, d3, d4⟩ := hx1.g5
  have hcall := diag_hex g ah ac nh ch nc cc w1 (h2.below (hal.on hB1)) HV.out (HS.out (by first | rfl | trivial))
  have HCL := Lib.hid hcall
  clear hcall
  go_wp2_with fail
  refine HCL.out.mono ?_
  rintro e w2 ⟨v2, rfl, hO2, hB2⟩
  go_wp2_with fail
  refine bodyPost_ret (v := .tuple #[v2, .int .i64 0]) (by simp [results, Try.results47, go_sem]) rfl ?_
  exact ⟨_, rfl, hO2.mono (by have := hB1.size; simp at this; omega) (by have := hB1.size; simp at this; omega), (hal.on hB1).on hB2⟩
end Go.Proofs.Ytjiacdihfbbfjaa

