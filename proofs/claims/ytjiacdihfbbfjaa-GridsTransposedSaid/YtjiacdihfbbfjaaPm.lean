/- A map from places to ints, of the call's own: its block known as a list of entries. -/
import Derived.WalkKit
import Derived.DeepKeys5
import Derived.Maps.OwnSet
import Derived.Test.YtjiacdihfbbfjaaBase
import Derived.Test.YtjiacdihfbbfjaaPlc
namespace Go.Proofs.Ytjiacdihfbbfjaa
open Go.RowKit

theorem pk_laid : laidOutB Try.prog = true := by kernel_rfl
theorem pk_row : (98 : TypeId) < Try.prog.types.size := of_decide_eq_true (by kernel_rfl)
theorem pk_at : Try.prog.keyTypeAt 2 98 = true := by kernel_rfl
theorem pk_law : Maps.Keyed Try.prog 98 := by
  refine Maps.Keyed.of_law (deep_law_laid pk_laid (m := 2) (by omega) pk_row pk_at ?_)
  have h := Try.underlying98
  revert h
  generalize Try.prog.underlying 98 = x
  rintro rfl
  rfl
theorem pk_type : Try.prog.keyType 98 = true := by kernel_rfl
theorem pk_cells : Try.prog.cellsOf 98 = 2 := by kernel_rfl

theorem pk_int : Try.prog.cellsOf 3 = 1 := by kernel_rfl
def pv (p : Int × Int) : Value := .agg #[.int .i64 p.1, .int .i64 p.2]
def small64 (p : Int × Int) : Prop := (Lit.int .i64 p.1).wf = true ∧ (Lit.int .i64 p.2).wf = true
theorem pk_lits (d : Nat) (x : Int) (h : (Lit.int .i64 x).wf = true) : Try.prog.keyLits (d + 1) 3 [.int .i64 x] = some [.int .i64 x] := by
  unfold Program.keyLits
  rw [Try.underlying3]
  simp [h]
theorem pk_lits2 (d : Nat) (p : Int × Int) (h : small64 p) : Try.prog.keyLits (d + 1 + 1) 98 [.int .i64 p.1, .int .i64 p.2] = some [.int .i64 p.1, .int .i64 p.2] := by
  unfold Program.keyLits
  rw [Try.underlying98]
  simp [pk_cells, pk_int, pk_lits d _ h.1, pk_lits d _ h.2]
theorem pk_size : Try.prog.types.size + 1 = (Try.prog.types.size - 1) + 1 + 1 := by
  have h : (Nat.lt 98 Try.prog.types.size) := pk_row
  generalize Try.prog.types.size = z at h
  simp only [Nat.lt_eq] at h
  omega
theorem pk_key (p : Int × Int) (h : small64 p) : keyOf Try.prog 98 (pv p) = some (.string (keyBytes [.int .i64 p.1, .int .i64 p.2])) := by
  unfold keyOf
  rw [Try.underlying98]
  have hf : (pv p).formed Try.prog 98 = true := by simp [pv, Value.formed, Try.underlying98, pk_cells]
  simp only [pk_type, hf, Bool.and_self, if_true]
  rw [pk_size]
  show (Try.prog.keyLits _ 98 [.int .i64 p.1, .int .i64 p.2]).map _ = _
  rw [pk_lits2 _ p h]
  rfl

open Go.ChangeMaps Go.MapKept in
/-- Block b is a map whose entries are l, in the order in which they came; no two keys are alike. -/
structure PMap (w : World) (b : Nat) (l : List ((Int × Int) × Int)) : Prop where
  has : ∃ es clock, w.heap[b]? = some (.map es clock) ∧ es.toList.map (fun e => (e.key, e.val)) = l.map (fun x => (pv x.1, Value.int .i64 x.2))
  keys : ∀ x ∈ l, small64 x.1
  apart : l.Pairwise (fun x y => x.1 ≠ y.1)

def lookP (l : List ((Int × Int) × Int)) (k : Int × Int) : Option Int := (l.find? (fun x => x.1 == k)).map (·.2)
theorem pv_inj {p q : Int × Int} (h : pv p = pv q) : p = q := by
  unfold pv at h
  obtain ⟨a, b⟩ := p
  obtain ⟨c, d⟩ := q
  simpa using h
theorem lookP_none {l : List ((Int × Int) × Int)} {k : Int × Int} (h : ∀ x ∈ l, x.1 ≠ k) : lookP l k = none := by
  unfold lookP
  rw [List.find?_eq_none.2 (fun x hx => by simpa using h x hx)]
  rfl
theorem lookP_some {l : List ((Int × Int) × Int)} {x : (Int × Int) × Int} (ha : l.Pairwise (fun x y => x.1 ≠ y.1)) (hx : x ∈ l) : lookP l x.1 = some x.2 := by
  unfold lookP
  induction l with
  | nil => cases hx
  | cons y r ih =>
    obtain ⟨h1, h2⟩ := List.pairwise_cons.1 ha
    rcases List.mem_cons.1 hx with rfl | hx
    · simp
    · rw [List.find?_cons_of_neg (by simpa using h1 x hx)]
      exact ih h2 hx

theorem PMap.made (w : World) : PMap (w.alloc (.map #[] 0)) w.heap.size [] := ⟨⟨#[], 0, (MapKept.heap_alloc w _).1, rfl⟩, by simp, .nil⟩
theorem PMap.lt {w : World} {b : Nat} {l : List ((Int × Int) × Int)} (h : PMap w b l) : b < w.heap.size := by
  obtain ⟨⟨es, c, hb, _⟩, _⟩ := h
  exact (Array.getElem?_eq_some_iff.1 hb).1
theorem PMap.below {w w' : World} {b : Nat} {l : List ((Int × Int) × Int)} (h : PMap w b l) (hb : Below w.heap.size w w') : PMap w' b l := by
  have hlt := h.lt
  obtain ⟨⟨es, c, h1, h2⟩, h3, h4⟩ := h
  exact ⟨⟨es, c, (hb.block b hlt).trans h1, h2⟩, h3, h4⟩
theorem PMap.grown {w w' : World} {b : Nat} {row : Option Nat} {l : List ((Int × Int) × Int)} (h : PMap w b l) (hg : w.grownBy w' row) (hne : some b ≠ row) : PMap w' b l := by
  have hlt := h.lt
  obtain ⟨⟨es, c, h1, h2⟩, h3, h4⟩ := h
  exact ⟨⟨es, c, (hg.block b hlt hne).trans h1, h2⟩, h3, h4⟩

theorem PMap.entry {l : List ((Int × Int) × Int)} {es : Array MapEntry} (h : es.toList.map (fun e => (e.key, e.val)) = l.map (fun x => (pv x.1, Value.int .i64 x.2))) {e : MapEntry} (he : e ∈ es.toList) :
    ∃ x ∈ l, e.key = pv x.1 ∧ e.val = .int .i64 x.2 := by
  have : (e.key, e.val) ∈ l.map (fun x => (pv x.1, Value.int .i64 x.2)) := by rw [← h]; exact List.mem_map.2 ⟨e, he, rfl⟩
  obtain ⟨x, hx, e1⟩ := List.mem_map.1 this
  injection e1 with e1 e2
  exact ⟨x, hx, e1.symm, e2.symm⟩
theorem PMap.entry' {l : List ((Int × Int) × Int)} {es : Array MapEntry} (h : es.toList.map (fun e => (e.key, e.val)) = l.map (fun x => (pv x.1, Value.int .i64 x.2))) {x : (Int × Int) × Int} (hx : x ∈ l) :
    ∃ e ∈ es.toList, e.key = pv x.1 ∧ e.val = .int .i64 x.2 := by
  have : (pv x.1, Value.int .i64 x.2) ∈ es.toList.map (fun e => (e.key, e.val)) := by rw [h]; exact List.mem_map.2 ⟨x, hx, rfl⟩
  obtain ⟨e, he, e1⟩ := List.mem_map.1 this
  injection e1 with e1 e2
  exact ⟨e, he, e1, e2⟩

theorem PMap.look {w : World} {b : Nat} {l : List ((Int × Int) × Int)} (h : PMap w b l) (k : Int × Int) (hk : small64 k) :
    (Instr.lookup 101 (.map (some b)) (pv k) true).run Try.prog w = .ok (.tuple #[.int .i64 ((lookP l k).getD 0), .bool (lookP l k).isSome]) w := by
  obtain ⟨⟨es, c, hb, he⟩, hs, ha⟩ := h
  have hz : (zeroValue 3).run Try.prog w = .ok (.int .i64 0) w := by kernel_rfl
  rcases pk_law.find w (pk_key k hk) es.toList (fun e hm => by obtain ⟨x, hx, e1, _⟩ := PMap.entry he hm; exact ⟨_, by rw [e1]; exact pk_key _ (hs x hx)⟩) with ⟨h1, h2⟩ | ⟨j, e0, h1, h2, h3⟩
  · have hn : lookP l k = none := lookP_none fun x hx e => by
      obtain ⟨e1, he1, he2, _⟩ := PMap.entry' he hx
      exact h2 e1 he1 (by rw [he2, e])
    rw [hn]
    simp [Instr.lookup, run_underlying Try.underlying101, MapKept.run_getObj_map hb, pk_law.check w _ (pk_key k hk), h1, hz, Result.andThen]
  · obtain ⟨x, hx, e1, e2⟩ := PMap.entry he (List.mem_of_getElem? h2)
    rw [h3] at e1
    obtain rfl := pv_inj e1
    rw [lookP_some ha hx]
    simp [Instr.lookup, run_underlying Try.underlying101, MapKept.run_getObj_map hb, pk_law.check w _ (pk_key _ hk), h1, e2, Result.andThen]

theorem PMap.put {w : World} {b : Nat} {l : List ((Int × Int) × Int)} (h : PMap w b l) (k : Int × Int) (i : Int) (hk : small64 k) (hn : ∀ x ∈ l, x.1 ≠ k) :
    ∃ w', (Instr.mapUpdate 101 (.map (some b)) (pv k) (.int .i64 i)).run Try.prog w = .ok () w' ∧ PMap w' b (l ++ [(k, i)]) ∧ w.grownBy w' (some b) ∧ w'.heap.size = w.heap.size := by
  obtain ⟨⟨es, c, hb, he⟩, hs, ha⟩ := h
  rcases pk_law.find w (pk_key k hk) es.toList (fun e hm => by obtain ⟨x, hx, e1, _⟩ := PMap.entry he hm; exact ⟨_, by rw [e1]; exact pk_key _ (hs x hx)⟩) with ⟨h1, h2⟩ | ⟨j, e0, h1, h2, h3⟩
  · refine ⟨ChangeMaps.setBlock w b (.map (es.push ⟨pv k, .int .i64 i, c⟩) (c + 1)), ?_, ⟨⟨_, _, ChangeMaps.heap_setBlock_same hb _, ?_⟩, ?_, ?_⟩, ⟨rfl, rfl, rfl, by simp [ChangeMaps.setBlock], fun i _ hi => ChangeMaps.heap_setBlock_other hb _ (fun e => hi (by rw [e]))⟩, by simp [ChangeMaps.setBlock]⟩
    · simp [Instr.mapUpdate, run_underlying Try.underlying101, MapKept.run_getObj_map hb, pk_law.check w false (pk_key k hk), h1, MapKept.run_setObj_map _ hb, Result.andThen, ChangeMaps.setBlock]
    · simp [he]
    · intro x hx
      rcases List.mem_append.1 hx with hx | hx
      · exact hs x hx
      · simp at hx; subst hx; exact hk
    · rw [List.pairwise_append]
      refine ⟨ha, by simp, fun x hx y hy => ?_⟩
      simp at hy; subst hy; exact hn x hx
  · obtain ⟨x, hx, e1, e2⟩ := PMap.entry he (List.mem_of_getElem? h2)
    rw [h3] at e1
    exact absurd (pv_inj e1).symm (hn x hx)
end Go.Proofs.Ytjiacdihfbbfjaa
