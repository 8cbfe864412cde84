/- A map from arrays of bytes to bools, of the call's own. -/
import Derived.DeepKeys5
import Derived.Maps.OwnSet
import Derived.Test.YtkekkbbdhdamjaaPKey
import Derived.WalkKit
import Derived.WalkSpells
import Derived.WalkLawsBesides
import Derived.Deep.LoopGhost
import Derived.Deep.QuietTactic
import Derived.BigQuiet
import Derived.StillTailTactics
import Derived.Lib.Hide
import Derived.Outline
import Derived.Lib.QuietBelow
namespace Go.Proofs.Ytkekkbbdhdamjaa
open Go.RowKit

theorem pk_laid : laidOutB Try.prog = true := by kernel_rfl
theorem pk_row : (51 : TypeId) < Try.prog.types.size := of_decide_eq_true (by kernel_rfl)
theorem pk_at : Try.prog.keyTypeAt 2 51 = true := by kernel_rfl
theorem pk_law : Maps.Keyed Try.prog 51 := by
  refine Maps.Keyed.of_law (deep_law_laid pk_laid (m := 2) (by omega) pk_row pk_at ?_)
  have h := Try.underlying51
  revert h
  generalize Try.prog.underlying 51 = x
  rintro rfl
  rfl
theorem pk_type : Try.prog.keyType 51 = true := by kernel_rfl
theorem pk_cells : Try.prog.cellsOf 51 = 256 := by kernel_rfl
theorem pk_one : Try.prog.cellsOf 5 = 1 := by kernel_rfl
theorem pk_lits (d : Nat) (x : Int) (h : 0 ≤ x ∧ x < 256) : Try.prog.keyLits (d + 1) 5 [.int .u8 x] = some [.int .u8 x] := by
  have hw : (Lit.int .u8 x).wf = true := by simp [Lit.wf, IntKind.min, IntKind.max, IntKind.signed, IntKind.bits]; omega
  unfold Program.keyLits
  rw [Try.underlying5]
  simp [hw]
theorem mapM_some {α β : Type} {f : α → Option β} {g : α → β} : ∀ {l : List α}, (∀ x ∈ l, f x = some (g x)) → l.mapM f = some (l.map g)
  | [], _ => rfl
  | x :: l, h => by
    rw [List.mapM_cons, h x (List.mem_cons_self ..), mapM_some (fun y hy => h y (List.mem_cons_of_mem _ hy))]; rfl
theorem flat_one {α β : Type} (g : α → β) : ∀ l : List α, (l.map fun x => [g x]).flatten = l.map g
  | [] => rfl
  | x :: l => by rw [List.map_cons, List.flatten_cons, flat_one g l]; rfl
def smallL (p : List Int) : Prop := ∀ i : Nat, 0 ≤ p[i]?.getD 0 ∧ p[i]?.getD 0 < 256
theorem smallL_of {p : List Int} {n : Nat} (h : okPerm p n) (hn : n ≤ 256) : smallL p := fun i => by
  cases e : p[i]? with
  | none => simp
  | some x => have := h.rng x (List.mem_of_getElem? e); simp; omega
def litsP (p : List Int) : List Lit := (List.range 256).map fun i => .int .u8 (p[i]?.getD 0)
def litP (p : List Int) : Lit := .string (keyBytes (litsP p))
theorem pk_lits256 (d : Nat) (p : List Int) (h : smallL p) : Try.prog.keyLits (d + 1 + 1) 51 (kArr p).toList = some (litsP p) := by
  unfold Program.keyLits
  rw [Try.underlying51]
  simp only [pk_cells, pk_one, kArr_len, if_true]
  rw [mapM_some (g := fun i => [Lit.int .u8 (p[i]?.getD 0)])]
  · rw [Option.map_some, flat_one]; rfl
  · intro i hi
    have hi' := List.mem_range.1 hi
    have e : ((kArr p).toList.drop (i * 1)).take 1 = [Value.int .u8 (p[i]?.getD 0)] := by
      have hl : i < (kArr p).toList.length := by rw [kArr_len]; exact hi'
      rw [Nat.mul_one, List.drop_eq_getElem_cons hl]
      simp only [List.take_succ_cons, List.take_zero, List.cons.injEq, and_true]
      have h2 := kArr_get p hi'
      rw [← Array.getElem?_toList, List.getElem?_eq_getElem hl] at h2
      injection h2
    rw [e]
    exact pk_lits d _ (h i)
theorem pk_size : Try.prog.types.size + 1 = (Try.prog.types.size - 1) + 1 + 1 := by
  have h : (Nat.lt 51 Try.prog.types.size) := pk_row
  generalize Try.prog.types.size = z at h
  simp only [Nat.lt_eq] at h
  omega
theorem pk_key (p : List Int) (h : smallL p) : keyOf Try.prog 51 (keyP p) = some (litP p) := by
  unfold keyOf
  rw [Try.underlying51]
  have hf : (keyP p).formed Try.prog 51 = true := by simp [Value.formed, Try.underlying51, pk_cells, kArr_size]
  simp only [pk_type, hf, Bool.and_self, if_true]
  rw [pk_size]
  show (Try.prog.keyLits _ 51 (kArr p).toList).map _ = _
  rw [pk_lits256 _ p h]
  rfl

open Go.ChangeMaps Go.MapKept in
/-- Block b is a map whose keys are the permutations ks, each once; each of them is marked true. -/
structure PMap (w : World) (b : Nat) (N : Nat) (ks : List (List Int)) : Prop where
  has : ∃ es clock, w.heap[b]? = some (.map es clock) ∧ es.toList.map (fun e => (e.key, e.val)) = ks.map (fun k => (keyP k, Value.bool true))
  keys : ∀ x ∈ ks, okPerm x N
  small : N ≤ 256
section
variable {w w' : World} {b N : Nat} {ks : List (List Int)}
theorem PMap.made (w : World) (hN : N ≤ 256) : PMap (w.alloc (.map #[] 0)) w.heap.size N [] := ⟨⟨#[], 0, (MapKept.heap_alloc w _).1, rfl⟩, by simp, hN⟩
theorem PMap.lt (h : PMap w b N ks) : b < w.heap.size := by
  obtain ⟨⟨es, c, hb, _⟩, _⟩ := h
  exact (Array.getElem?_eq_some_iff.1 hb).1
theorem PMap.heap (h : PMap w b N ks) (e : w'.heap[b]? = w.heap[b]?) : PMap w' b N ks := by
  obtain ⟨⟨es, c, h1, h2⟩, h3, h4⟩ := h
  exact ⟨⟨es, c, e.trans h1, h2⟩, h3, h4⟩
theorem PMap.below (h : PMap w b N ks) (hb : Below w.heap.size w w') : PMap w' b N ks := h.heap (hb.block b h.lt)
theorem PMap.grown {row : Option Nat} (h : PMap w b N ks) (hg : w.grownBy w' row) (hne : some b ≠ row) : PMap w' b N ks := h.heap (hg.block b h.lt hne)
theorem PMap.key (h : PMap w b N ks) {x : List Int} (hx : x ∈ ks) : keyOf Try.prog 51 (keyP x) = some (litP x) := pk_key x (smallL_of (h.keys x hx) h.small)
theorem PMap.inj (h : PMap w b N ks) {x y : List Int} (hx : x ∈ ks) (hy : okPerm y N) (e : keyP x = keyP y) : x = y := keyP_inj (h.keys x hx).len hy.len h.small e
theorem PMap.entry {es : Array MapEntry} (h : es.toList.map (fun e => (e.key, e.val)) = ks.map (fun k => (keyP k, Value.bool true))) {e : MapEntry} (he : e ∈ es.toList) : ∃ x ∈ ks, e.key = keyP x ∧ e.val = .bool true := by
  have : (e.key, e.val) ∈ ks.map (fun k => (keyP k, Value.bool true)) := by rw [← h]; exact List.mem_map.2 ⟨e, he, rfl⟩
  obtain ⟨x, hx, e1⟩ := List.mem_map.1 this
  injection e1 with e1 e2
  exact ⟨x, hx, e1.symm, e2.symm⟩
theorem PMap.entry' {es : Array MapEntry} (h : es.toList.map (fun e => (e.key, e.val)) = ks.map (fun k => (keyP k, Value.bool true))) {x : List Int} (hx : x ∈ ks) : ∃ e ∈ es.toList, e.key = keyP x := by
  have : (keyP x, Value.bool true) ∈ es.toList.map (fun e => (e.key, e.val)) := by rw [h]; exact List.mem_map.2 ⟨x, hx, rfl⟩
  obtain ⟨e, he, e1⟩ := List.mem_map.1 this
  injection e1 with e1 _
  exact ⟨e, he, e1⟩
theorem PMap.look (h : PMap w b N ks) (k : List Int) (hk : okPerm k N) :
    (Instr.lookup 53 (.map (some b)) (keyP k) false).run Try.prog w = .ok (.bool (decide (k ∈ ks))) w := by
  have hkk := pk_key k (smallL_of hk h.small)
  have hz : (zeroValue 4).run Try.prog w = .ok (.bool false) w := by kernel_rfl
  have h' := h
  obtain ⟨⟨es, c, hb, he⟩, hs, hN⟩ := h
  rcases pk_law.find w hkk es.toList (fun e hm => by obtain ⟨x, hx, e1, _⟩ := PMap.entry he hm; exact ⟨_, by rw [e1]; exact h'.key hx⟩) with ⟨h1, h2⟩ | ⟨j, e0, h1, h2, h3⟩
  · have hn : decide (k ∈ ks) = false := decide_eq_false fun hx => by obtain ⟨e1, he1, he2⟩ := PMap.entry' he hx; exact h2 e1 he1 he2
    rw [hn]
    simp [Instr.lookup, run_underlying Try.underlying53, MapKept.run_getObj_map hb, pk_law.check w _ hkk, h1, hz, Result.andThen]
  · obtain ⟨x, hx, e1, e2⟩ := PMap.entry he (List.mem_of_getElem? h2)
    rw [h3] at e1
    obtain rfl : x = k := h'.inj hx hk e1.symm
    rw [decide_eq_true hx]
    simp [Instr.lookup, run_underlying Try.underlying53, MapKept.run_getObj_map hb, pk_law.check w _ hkk, h1, e2, Result.andThen]
theorem PMap.put (h : PMap w b N ks) (k : List Int) (hk : okPerm k N) (hn : k ∉ ks) :
    ∃ w', (Instr.mapUpdate 53 (.map (some b)) (keyP k) (.bool true)).run Try.prog w = .ok () w' ∧ PMap w' b N (ks ++ [k]) ∧ w.grownBy w' (some b) ∧ w'.heap.size = w.heap.size := by
  have hkk := pk_key k (smallL_of hk h.small)
  have h' := h
  obtain ⟨⟨es, c, hb, he⟩, hs, hN⟩ := h
  rcases pk_law.find w hkk es.toList (fun e hm => by obtain ⟨x, hx, e1, _⟩ := PMap.entry he hm; exact ⟨_, by rw [e1]; exact h'.key hx⟩) with ⟨h1, h2⟩ | ⟨j, e0, h1, h2, h3⟩
  · refine ⟨ChangeMaps.setBlock w b (.map (es.push ⟨keyP k, .bool true, c⟩) (c + 1)), ?_, ⟨⟨_, _, ChangeMaps.heap_setBlock_same hb _, ?_⟩, ?_, hN⟩, ⟨rfl, rfl, rfl, by simp [ChangeMaps.setBlock], fun i _ hi => ChangeMaps.heap_setBlock_other hb _ (fun e => hi (by rw [e]))⟩, by simp [ChangeMaps.setBlock]⟩
    · simp [Instr.mapUpdate, run_underlying Try.underlying53, MapKept.run_getObj_map hb, pk_law.check w false hkk, h1, MapKept.run_setObj_map _ hb, Result.andThen, ChangeMaps.setBlock]
    · rw [Array.toList_push, List.map_append, he, List.map_append]; rfl
    · intro x hx
      rcases List.mem_append.1 hx with hx | hx
      · exact hs x hx
      · rw [List.mem_singleton.1 hx]; exact hk
  · obtain ⟨x, hx, e1, e2⟩ := PMap.entry he (List.mem_of_getElem? h2)
    rw [h3] at e1
    exact absurd (h'.inj hx hk e1.symm ▸ hx) hn
end
end Go.Proofs.Ytkekkbbdhdamjaa
