/- Contract of facts.At. -/
import Derived.RangeFuncNested
import Derived.RangeFuncBound
import Derived.RangeFuncCalls
import Derived.RangeFuncLeaves
import Derived.Shelf.Abstract
import Derived.Shelf.RegionOpen
import Derived.WalkKit
import Derived.OwnWalkIn
import Derived.TacticsInMore
import Derived.LoopNIn
import Derived.LoopIn
import Derived.Laws.MakeOwn
import Derived.Outline
import Derived.Test.YtfhekhjojdhmhaaFOf
namespace Go.Proofs.Ytfhekhjojdhmhaa
open Go.RowKit Go.Shelf
attribute [local go_sem] Oper.semAt_some

theorem below_put2 {n0 q : Nat} {w w' : World} (h : Below n0 w w') (hq : n0 ≤ q) (hs : n0 ≤ w'.heap.size) (o' : Obj) : Below n0 w (w'.putObj q o') := h.grown (grownBy_putObj' w' q o') hs (fun k e => by cases e; exact hq)
theorem box_put2 {w : World} {B q : Nat} {cs : Array Value} {t : TypeId} (h : Box w B cs t) (hne : B ≠ q) (o' : Obj) : Box (w.putObj q o') B cs t := (World.putObj_heap_other hne).trans h

theorem Box.newAt {w : World} {q : Nat} {cs : Array Value} {t : TypeId} (h : w.heap.size = q) : Box (w.alloc (.cells cs t)) q cs t := h ▸ Box.new w cs t
/-- The best one so far. -/
def bestOn (day : Int) (pre : List Fact) : Option Fact := bestF (pre.filter (onB day))
theorem bestOn_off {day : Int} {pre : List Fact} {x : Fact} (h : onB day x = false) : bestOn day (pre ++ [x]) = bestOn day pre := by
  unfold bestOn; rw [List.filter_append]; simp [h]
theorem bestOn_on {day : Int} {pre : List Fact} {x : Fact} (h : onB day x = true) : bestOn day (pre ++ [x]) = bestStep (bestOn day pre) x := by
  unfold bestOn; rw [List.filter_append, ← bestF_snoc]; simp [h]
/-- Between two rounds: M is best's block, M + 1 that of some. -/
structure A1 (W w5 : World) (M : Nat) (day : Int) (T : Nat → Prop) (pre : List Fact) (W2 : World) : Prop where
  best : ∃ f : Fact, Box W2 M #[.int .i64 f.kd, .int .i64 f.sb, .int .i64 f.ob, .int .i64 f.val, .int .i64 f.vf, .int .i64 f.vt, .int .i64 f.kn, .int .i64 f.no] 28 ∧ ∀ y, bestOn day pre = some y → y = f
  some' : Box W2 (M + 1) #[.bool (bestOn day pre).isSome] 4
  below : Below W.heap.size W W2
  keep : ∀ k, k < w5.heap.size → k ≠ M → k ≠ M + 1 → W2.heap[k]? = w5.heap[k]?
  size : w5.heap.size ≤ W2.heap.size
  T : ∀ k, T k ↔ (k = M ∨ k = M + 1)
theorem A1.put {W w5 W2 : World} {M l : Nat} {day : Int} {T : Nat → Prop} {pre : List Fact} (h : A1 W w5 M day T pre W2) (hl : w5.heap.size ≤ l) (hM : M + 1 < w5.heap.size) (hW : W.heap.size ≤ w5.heap.size) (o' : Obj) : A1 W w5 M day T pre (W2.putObj l o') :=
  ⟨let ⟨f, h1, h2⟩ := h.best; ⟨f, box_put2 h1 (by omega) o', h2⟩, box_put2 h.some' (by omega) o', below_put2 h.below (by omega) (by have := h.size; omega) o', fun k hk h1 h2 => (World.putObj_heap_other (by omega)).trans (h.keep k hk h1 h2), by simpa using h.size, h.T⟩
theorem A1.on {W w5 W2 W3 : World} {M : Nat} {day : Int} {T : Nat → Prop} {pre : List Fact} (h : A1 W w5 M day T pre W2) (hb : Below W2.heap.size W2 W3) : A1 W w5 M day T pre W3 :=
  ⟨let ⟨f, h1, h2⟩ := h.best; ⟨f, h1.below hb, h2⟩, h.some'.below hb, h.below.on hb, fun k hk h1 h2 => (hb.block k (Nat.lt_of_lt_of_le hk h.size)).trans (h.keep k hk h1 h2), Nat.le_trans h.size hb.size, h.T⟩
structure A1V (W w5 : World) (M : Nat) (day : Int) (T : Nat → Prop) (pre : List Fact) (x : Fact) (s : Nat) (V : World) : Prop where
  in1 : A1 W w5 M day T pre V
  box : Box V s #[.int .i64 x.kd, .int .i64 x.sb, .int .i64 x.ob, .int .i64 x.val, .int .i64 x.vf, .int .i64 x.vt, .int .i64 x.kn, .int .i64 x.no] 28
  new : w5.heap.size ≤ s

theorem Box.set8 {w : World} {M : Nat} {f : Fact} (x : Fact) (h : Box w M #[.int .i64 f.kd, .int .i64 f.sb, .int .i64 f.ob, .int .i64 f.val, .int .i64 f.vf, .int .i64 f.vt, .int .i64 f.kn, .int .i64 f.no] 28) : Box (((((((((w.setCell ⟨M, 0, none⟩ (.int .i64 x.kd)).setCell ⟨M, 1, none⟩ (.int .i64 x.sb)).setCell ⟨M, 2, none⟩ (.int .i64 x.ob)).setCell ⟨M, 3, none⟩ (.int .i64 x.val)).setCell ⟨M, 4, none⟩ (.int .i64 x.vf)).setCell ⟨M, 5, none⟩ (.int .i64 x.vt)).setCell ⟨M, 6, none⟩ (.int .i64 x.kn)).setCell ⟨M, 7, none⟩ (.int .i64 x.no))) M #[.int .i64 x.kd, .int .i64 x.sb, .int .i64 x.ob, .int .i64 x.val, .int .i64 x.vf, .int .i64 x.vt, .int .i64 x.kn, .int .i64 x.no] 28 := by
  have := (((((((h.set 0 (.int .i64 x.kd)).set 1 (.int .i64 x.sb)).set 2 (.int .i64 x.ob)).set 3 (.int .i64 x.val)).set 4 (.int .i64 x.vf)).set 5 (.int .i64 x.vt)).set 6 (.int .i64 x.kn)).set 7 (.int .i64 x.no)
  simpa using this
theorem heap_set8 (w : World) (M : Nat) (x : Fact) (k : Nat) (hk : k ≠ M) : (((((((((w.setCell ⟨M, 0, none⟩ (.int .i64 x.kd)).setCell ⟨M, 1, none⟩ (.int .i64 x.sb)).setCell ⟨M, 2, none⟩ (.int .i64 x.ob)).setCell ⟨M, 3, none⟩ (.int .i64 x.val)).setCell ⟨M, 4, none⟩ (.int .i64 x.vf)).setCell ⟨M, 5, none⟩ (.int .i64 x.vt)).setCell ⟨M, 6, none⟩ (.int .i64 x.kn)).setCell ⟨M, 7, none⟩ (.int .i64 x.no))).heap[k]? = w.heap[k]? := by
  exact (Below.heap_setCell _ _ _ k hk).trans ((Below.heap_setCell _ _ _ k hk).trans ((Below.heap_setCell _ _ _ k hk).trans ((Below.heap_setCell _ _ _ k hk).trans ((Below.heap_setCell _ _ _ k hk).trans ((Below.heap_setCell _ _ _ k hk).trans ((Below.heap_setCell _ _ _ k hk).trans (Below.heap_setCell _ _ _ k hk)))))))
theorem below_set8 {n0 : Nat} {w0 w : World} (h : Below n0 w0 w) (M : Nat) (hM : n0 ≤ M) (x : Fact) : Below n0 w0 (((((((((w.setCell ⟨M, 0, none⟩ (.int .i64 x.kd)).setCell ⟨M, 1, none⟩ (.int .i64 x.sb)).setCell ⟨M, 2, none⟩ (.int .i64 x.ob)).setCell ⟨M, 3, none⟩ (.int .i64 x.val)).setCell ⟨M, 4, none⟩ (.int .i64 x.vf)).setCell ⟨M, 5, none⟩ (.int .i64 x.vt)).setCell ⟨M, 6, none⟩ (.int .i64 x.kn)).setCell ⟨M, 7, none⟩ (.int .i64 x.no))) := by
  exact (((((((h.setCell (p := ⟨M, 0, none⟩) hM _).setCell (p := ⟨M, 1, none⟩) hM _).setCell (p := ⟨M, 2, none⟩) hM _).setCell (p := ⟨M, 3, none⟩) hM _).setCell (p := ⟨M, 4, none⟩) hM _).setCell (p := ⟨M, 5, none⟩) hM _).setCell (p := ⟨M, 6, none⟩) hM _).setCell (p := ⟨M, 7, none⟩) hM _
theorem A1.store {W w5 V V3 : World} {M : Nat} {day : Int} {T : Nat → Prop} {pre : List Fact} (h : A1 W w5 M day T pre V) (hb : Below V.heap.size V V3) (x : Fact) (_hM : M + 1 < w5.heap.size) (hWM : W.heap.size ≤ M) (hon : bestOn day (pre ++ [x]) = some x) :
    A1 W w5 M day T (pre ++ [x]) ((((((((((V3.setCell ⟨M, 0, none⟩ (.int .i64 x.kd)).setCell ⟨M, 1, none⟩ (.int .i64 x.sb)).setCell ⟨M, 2, none⟩ (.int .i64 x.ob)).setCell ⟨M, 3, none⟩ (.int .i64 x.val)).setCell ⟨M, 4, none⟩ (.int .i64 x.vf)).setCell ⟨M, 5, none⟩ (.int .i64 x.vt)).setCell ⟨M, 6, none⟩ (.int .i64 x.kn)).setCell ⟨M, 7, none⟩ (.int .i64 x.no))).setCell ⟨M + 1, 0, none⟩ (.bool true)) := by
  have h3 := h.on hb
  obtain ⟨f, h1, h2⟩ := h3.best
  refine ⟨⟨x, (Box.set8 x h1).setOther _ (by simp), fun y hy => by rw [hon] at hy; injection hy with hy; exact hy.symm⟩, ?_, (below_set8 h3.below M hWM x).setCell (p := ⟨M + 1, 0, none⟩) (by simp; omega) _, fun k hk k1 k2 => ?_, ?_, h3.T⟩
  · rw [hon]
    have := (show Box (((((((((V3.setCell ⟨M, 0, none⟩ (.int .i64 x.kd)).setCell ⟨M, 1, none⟩ (.int .i64 x.sb)).setCell ⟨M, 2, none⟩ (.int .i64 x.ob)).setCell ⟨M, 3, none⟩ (.int .i64 x.val)).setCell ⟨M, 4, none⟩ (.int .i64 x.vf)).setCell ⟨M, 5, none⟩ (.int .i64 x.vt)).setCell ⟨M, 6, none⟩ (.int .i64 x.kn)).setCell ⟨M, 7, none⟩ (.int .i64 x.no))) (M + 1) _ _ from (heap_set8 V3 M x (M + 1) (by omega)).trans h3.some').set 0 (.bool true)
    simpa using this
  · rw [Below.heap_setCell _ _ _ k k2, heap_set8 V3 M x k k1]; exact h3.keep k hk k1 k2
  · simpa using h3.size
theorem KeepAt.store {s M : Nat} {T : Nat → Prop} {V V3 : World} (hb : Below V.heap.size V V3) (x : Fact) (hs : s ≤ V.heap.size) (hT : ∀ k, T k ↔ (k = M ∨ k = M + 1)) (hM : M + 1 < V.heap.size) : KeepAt s T T V ((((((((((V3.setCell ⟨M, 0, none⟩ (.int .i64 x.kd)).setCell ⟨M, 1, none⟩ (.int .i64 x.sb)).setCell ⟨M, 2, none⟩ (.int .i64 x.ob)).setCell ⟨M, 3, none⟩ (.int .i64 x.val)).setCell ⟨M, 4, none⟩ (.int .i64 x.vf)).setCell ⟨M, 5, none⟩ (.int .i64 x.vt)).setCell ⟨M, 6, none⟩ (.int .i64 x.kn)).setCell ⟨M, 7, none⟩ (.int .i64 x.no))).setCell ⟨M + 1, 0, none⟩ (.bool true)) := by
  have hsz := hb.size
  refine ⟨by simp; omega, fun k hk hTk => ?_, fun k h => .inl h, fun k h => by simp; rcases (hT k).1 h with h | h <;> omega⟩
  rw [Below.heap_setCell _ _ _ k (fun e => hTk ((hT k).2 (.inr e))), heap_set8 V3 M x k (fun e => hTk ((hT k).2 (.inl e)))]
  exact hb.block k (by omega)
theorem KeepAt.on {s : Nat} {T : Nat → Prop} {V V3 : World} (hb : Below V.heap.size V V3) (hs : s ≤ V.heap.size) (hT : ∀ k, T k → k < V.heap.size) : KeepAt s T T V V3 :=
  ⟨Nat.le_trans hs hb.size, fun k hk _ => hb.block k (by omega), fun k h => .inl h, fun k h => Nat.lt_of_lt_of_le (hT k h) hb.size⟩
theorem A1.off {W w5 V V3 : World} {M : Nat} {day : Int} {T : Nat → Prop} {pre : List Fact} (h : A1 W w5 M day T pre V) (hb : Below V.heap.size V V3) {x : Fact} (he : bestOn day (pre ++ [x]) = bestOn day pre) : A1 W w5 M day T (pre ++ [x]) V3 := by
  have h3 := h.on hb
  exact ⟨by rw [he]; exact h3.best, by rw [he]; exact h3.some', h3.below, h3.keep, h3.size, h3.T⟩

set_option maxRecDepth 20000 in
set_option maxHeartbeats 4000000 in
theorem at_any (a0 : Option Addr) (n0 c0 : Nat) (l : List Fact) (k : Key) (day known : Int) (W : World) (h0 : SL encF 8 W a0 n0 c0 l) :
    Calls Try.prog 18 #[.slice a0 n0 c0, keyV k, .int .i64 day, .int .i64 known] W fun e w' => e = .returned (.tuple #[.int .i64 (atV l k day known), .bool (atOk l k day known)]) ∧ Below W.heap.size W w' := by
  have hm0 := h0.mx
  have hc0 := h0.cap
  have hl0 := Lib.hid h0.len
  unfold maxLen at hm0
  refine (callsIn_wide (n := 6)).1 (callsIn_of_wp_marks Try.func18 rfl trivial ?_ rfl)
  simp only [Try.ntmps18, List.size_toArray, List.length_cons, List.length_nil, Nat.reduceAdd, Nat.reduceSub, Array.replicate_succ, Array.replicate_zero, List.push_toArray, List.append_toArray, List.nil_append, List.cons_append]
  gi_wp2_with (refine ⟨trivial, ?_⟩; gi_at_call 38; refine (callsIn_wide.2 (of_any _ _ _ _ _ _)).mono ?_; rintro e w2 ⟨rfl, rfl⟩)
  obtain ⟨M, hM⟩ : ∃ M, W.heap.size + 1 + 1 = M := ⟨_, rfl⟩
  have x0 : Box ((((((((W.alloc (.cells #[.int .i64 k.kd, .int .i64 k.sb, .int .i64 k.ob] 24)).alloc (.cells #[.int .i64 day] 3)).alloc (.cells #[.int .i64 0, .int .i64 0, .int .i64 0, .int .i64 0, .int .i64 0, .int .i64 0, .int .i64 0, .int .i64 0] 28)).alloc (.cells #[.bool false] 4)).alloc (.cells #[.slice a0 n0 c0] 22)).alloc (.cells #[.int .i64 k.kd, .int .i64 k.sb, .int .i64 k.ob] 24)).alloc (.cells #[.int .i64 known] 3))) W.heap.size #[.int .i64 k.kd, .int .i64 k.sb, .int .i64 k.ob] 24 := (by repeat (first | (refine Box.newAt ?_; simp; done) | (refine Box.newAt ?_; rfl; done) | refine Box.alloc ?_ _))
  have x1 : Box ((((((((W.alloc (.cells #[.int .i64 k.kd, .int .i64 k.sb, .int .i64 k.ob] 24)).alloc (.cells #[.int .i64 day] 3)).alloc (.cells #[.int .i64 0, .int .i64 0, .int .i64 0, .int .i64 0, .int .i64 0, .int .i64 0, .int .i64 0, .int .i64 0] 28)).alloc (.cells #[.bool false] 4)).alloc (.cells #[.slice a0 n0 c0] 22)).alloc (.cells #[.int .i64 k.kd, .int .i64 k.sb, .int .i64 k.ob] 24)).alloc (.cells #[.int .i64 known] 3))) (W.heap.size + 1) #[.int .i64 day] 3 := (by repeat (first | (refine Box.newAt ?_; simp; done) | (refine Box.newAt ?_; rfl; done) | refine Box.alloc ?_ _))
  have x2 : Box ((((((((W.alloc (.cells #[.int .i64 k.kd, .int .i64 k.sb, .int .i64 k.ob] 24)).alloc (.cells #[.int .i64 day] 3)).alloc (.cells #[.int .i64 0, .int .i64 0, .int .i64 0, .int .i64 0, .int .i64 0, .int .i64 0, .int .i64 0, .int .i64 0] 28)).alloc (.cells #[.bool false] 4)).alloc (.cells #[.slice a0 n0 c0] 22)).alloc (.cells #[.int .i64 k.kd, .int .i64 k.sb, .int .i64 k.ob] 24)).alloc (.cells #[.int .i64 known] 3))) (W.heap.size + 1 + 1) #[.int .i64 (⟨0, 0, 0, 0, 0, 0, 0, 0⟩ : Fact).kd, .int .i64 (⟨0, 0, 0, 0, 0, 0, 0, 0⟩ : Fact).sb, .int .i64 (⟨0, 0, 0, 0, 0, 0, 0, 0⟩ : Fact).ob, .int .i64 (⟨0, 0, 0, 0, 0, 0, 0, 0⟩ : Fact).val, .int .i64 (⟨0, 0, 0, 0, 0, 0, 0, 0⟩ : Fact).vf, .int .i64 (⟨0, 0, 0, 0, 0, 0, 0, 0⟩ : Fact).vt, .int .i64 (⟨0, 0, 0, 0, 0, 0, 0, 0⟩ : Fact).kn, .int .i64 (⟨0, 0, 0, 0, 0, 0, 0, 0⟩ : Fact).no] 28 := (by repeat (first | (refine Box.newAt ?_; simp; done) | (refine Box.newAt ?_; rfl; done) | refine Box.alloc ?_ _))
  have x3 : Box ((((((((W.alloc (.cells #[.int .i64 k.kd, .int .i64 k.sb, .int .i64 k.ob] 24)).alloc (.cells #[.int .i64 day] 3)).alloc (.cells #[.int .i64 0, .int .i64 0, .int .i64 0, .int .i64 0, .int .i64 0, .int .i64 0, .int .i64 0, .int .i64 0] 28)).alloc (.cells #[.bool false] 4)).alloc (.cells #[.slice a0 n0 c0] 22)).alloc (.cells #[.int .i64 k.kd, .int .i64 k.sb, .int .i64 k.ob] 24)).alloc (.cells #[.int .i64 known] 3))) (W.heap.size + 1 + 1 + 1) #[.bool false] 4 := (by repeat (first | (refine Box.newAt ?_; simp; done) | (refine Box.newAt ?_; rfl; done) | refine Box.alloc ?_ _))
  have x4 : Box ((((((((W.alloc (.cells #[.int .i64 k.kd, .int .i64 k.sb, .int .i64 k.ob] 24)).alloc (.cells #[.int .i64 day] 3)).alloc (.cells #[.int .i64 0, .int .i64 0, .int .i64 0, .int .i64 0, .int .i64 0, .int .i64 0, .int .i64 0, .int .i64 0] 28)).alloc (.cells #[.bool false] 4)).alloc (.cells #[.slice a0 n0 c0] 22)).alloc (.cells #[.int .i64 k.kd, .int .i64 k.sb, .int .i64 k.ob] 24)).alloc (.cells #[.int .i64 known] 3))) (W.heap.size + 1 + 1 + 1 + 1) #[.slice a0 n0 c0] 22 := (by repeat (first | (refine Box.newAt ?_; simp; done) | (refine Box.newAt ?_; rfl; done) | refine Box.alloc ?_ _))
  have x5 : Box ((((((((W.alloc (.cells #[.int .i64 k.kd, .int .i64 k.sb, .int .i64 k.ob] 24)).alloc (.cells #[.int .i64 day] 3)).alloc (.cells #[.int .i64 0, .int .i64 0, .int .i64 0, .int .i64 0, .int .i64 0, .int .i64 0, .int .i64 0, .int .i64 0] 28)).alloc (.cells #[.bool false] 4)).alloc (.cells #[.slice a0 n0 c0] 22)).alloc (.cells #[.int .i64 k.kd, .int .i64 k.sb, .int .i64 k.ob] 24)).alloc (.cells #[.int .i64 known] 3))) (W.heap.size + 1 + 1 + 1 + 1 + 1) #[.int .i64 k.kd, .int .i64 k.sb, .int .i64 k.ob] 24 := (by repeat (first | (refine Box.newAt ?_; simp; done) | (refine Box.newAt ?_; rfl; done) | refine Box.alloc ?_ _))
  have x6 : Box ((((((((W.alloc (.cells #[.int .i64 k.kd, .int .i64 k.sb, .int .i64 k.ob] 24)).alloc (.cells #[.int .i64 day] 3)).alloc (.cells #[.int .i64 0, .int .i64 0, .int .i64 0, .int .i64 0, .int .i64 0, .int .i64 0, .int .i64 0, .int .i64 0] 28)).alloc (.cells #[.bool false] 4)).alloc (.cells #[.slice a0 n0 c0] 22)).alloc (.cells #[.int .i64 k.kd, .int .i64 k.sb, .int .i64 k.ob] 24)).alloc (.cells #[.int .i64 known] 3))) (W.heap.size + 1 + 1 + 1 + 1 + 1 + 1) #[.int .i64 known] 3 := (by repeat (first | (refine Box.newAt ?_; simp; done) | (refine Box.newAt ?_; rfl; done) | refine Box.alloc ?_ _))
  have hB5 : Below W.heap.size W ((((((((W.alloc (.cells #[.int .i64 k.kd, .int .i64 k.sb, .int .i64 k.ob] 24)).alloc (.cells #[.int .i64 day] 3)).alloc (.cells #[.int .i64 0, .int .i64 0, .int .i64 0, .int .i64 0, .int .i64 0, .int .i64 0, .int .i64 0, .int .i64 0] 28)).alloc (.cells #[.bool false] 4)).alloc (.cells #[.slice a0 n0 c0] 22)).alloc (.cells #[.int .i64 k.kd, .int .i64 k.sb, .int .i64 k.ob] 24)).alloc (.cells #[.int .i64 known] 3))) := (((((((Below.refl _ _).alloc (Nat.le_refl _) _).alloc (by simp) _).alloc (by simp; omega) _).alloc (by simp; omega) _).alloc (by simp; omega) _).alloc (by simp; omega) _).alloc (by simp; omega) _
  have hz5 : ((((((((W.alloc (.cells #[.int .i64 k.kd, .int .i64 k.sb, .int .i64 k.ob] 24)).alloc (.cells #[.int .i64 day] 3)).alloc (.cells #[.int .i64 0, .int .i64 0, .int .i64 0, .int .i64 0, .int .i64 0, .int .i64 0, .int .i64 0, .int .i64 0] 28)).alloc (.cells #[.bool false] 4)).alloc (.cells #[.slice a0 n0 c0] 22)).alloc (.cells #[.int .i64 k.kd, .int .i64 k.sb, .int .i64 k.ob] 24)).alloc (.cells #[.int .i64 known] 3))).heap.size = W.heap.size + 7 := by simp
  obtain ⟨w5, hw5⟩ : ∃ w5, ((((((((W.alloc (.cells #[.int .i64 k.kd, .int .i64 k.sb, .int .i64 k.ob] 24)).alloc (.cells #[.int .i64 day] 3)).alloc (.cells #[.int .i64 0, .int .i64 0, .int .i64 0, .int .i64 0, .int .i64 0, .int .i64 0, .int .i64 0, .int .i64 0] 28)).alloc (.cells #[.bool false] 4)).alloc (.cells #[.slice a0 n0 c0] 22)).alloc (.cells #[.int .i64 k.kd, .int .i64 k.sb, .int .i64 k.ob] 24)).alloc (.cells #[.int .i64 known] 3))) = w5 := ⟨_, rfl⟩
  rw [hw5] at hB5 hz5 x0 x1 x2 x3 x4 x5 x6 ⊢
  rw [hM] at x2 x3 x4 x5 x6 ⊢
  clear hw5
  refine wpIn_rangeFunc_told3 rfl (by omega) (gf := 53) (lb := #[.pointer (some ⟨M + 1 + 1, 0, none⟩), .pointer (some ⟨M + 1 + 1 + 1, 0, none⟩), .pointer (some ⟨M + 1 + 1 + 1 + 1, 0, none⟩)]) rfl trivial (enters_of Try.func53 (by kernel_rfl) rfl)
    (of1_told l (M + 1 + 1) (M + 1 + 1 + 1) (M + 1 + 1 + 1 + 1) a0 n0 c0 k known w5 x4 x5 x6 (h0.below hB5)) (Below.refl _ _) (fun _ => rfl)
    (fun q => q = M ∨ q = M + 1) ?hT0 (by rintro q (rfl | rfl) <;> omega) (A1 W w5 M day) (A1V W w5 M day) ?hIput ?hVput ?hIb (fun x s => { tmps := #[.slice a0 n0 c0, keyV k, .int .i64 day, .int .i64 known, undef, .pointer (some ⟨W.heap.size, 0, none⟩), .pointer (some ⟨W.heap.size + 1, 0, none⟩), undef, .int .i64 0, .bool false, .pointer (some ⟨M, 0, none⟩), .pointer (some ⟨M + 1, 0, none⟩), (.pointer (some ⟨s, 0, none⟩)), .slice a0 n0 c0, .agg #[.int .i64 k.kd, .int .i64 k.sb, .int .i64 k.ob], .int .i64 known, .func (.func 53) #[] #[.pointer (some ⟨M + 1 + 1, 0, none⟩), .pointer (some ⟨M + 1 + 1 + 1, 0, none⟩), .pointer (some ⟨M + 1 + 1 + 1 + 1, 0, none⟩)], (factV x), undef, undef, undef, undef, undef, undef, undef, undef, undef, undef, undef, undef, undef, undef, undef, undef, undef, undef, undef, undef, undef, undef, undef, undef, undef, undef, undef, undef, undef, undef, undef, undef], defers := [] }) (fun x W2 => W2.alloc (.cells #[.int .i64 x.kd, .int .i64 x.sb, .int .i64 x.ob, .int .i64 x.val, .int .i64 x.vf, .int .i64 x.vt, .int .i64 x.kn, .int .i64 x.no] 28)) (fun x W2 => (Below.refl _ _).alloc (Nat.le_refl _) _) ?hV ?hT ?h0 ?assign ?body ?done
  case hT0 =>
    rintro q hq (h | h | h | ⟨h00, o, h⟩)
    · omega
    · omega
    · omega
    · obtain ⟨b', o', e, hlt⟩ := h0.at' h00
      rw [e] at h
      have h := Option.some.inj h
      have : b' = q := by simpa using congrArg Addr.block h
      omega
  case hIput => rintro T pre W2 l o o' hI hl ho hno; exact hI.put hl (by omega) (by omega) o'
  case hVput => rintro T pre x s W2 l o o' ⟨h1, h2, h3⟩ hl hls ho hno; exact ⟨h1.put hl (by omega) (by omega) o', box_put2 h2 (by omega) o', h3⟩
  case hIb => rintro T pre W2 W3 hI hb; exact hI.on hb
  case hV => rintro T pre x W0 W1 hI hb _ hlen hs; exact ⟨(hI.on hb).on ((Below.refl _ _).alloc (Nat.le_refl _) _), Box.new _ _ _, hs⟩
  case hT => rintro T pre W2 hI q o hT hq ho; have := (hI.T q).1 hT; omega
  case h0 => exact ⟨⟨_, x2, fun y hy => by cases hy⟩, by simpa [bestOn, bestF] using x3, hB5, fun _ _ _ _ => rfl, Nat.le_refl _, fun q => Iff.rfl⟩
  case assign =>
    rintro li x W2 K hK
    simp only [fEnc] at hK ⊢
    gi_wp2
    exact hK
  case body =>
    rintro li T pre x s V ⟨hI, hbx, hnew⟩ hlen hs
    obtain ⟨bf, hb1, hbf⟩ := hI.best
    have hsm := hI.some'
    have y1 : Box V (W.heap.size + 1) #[.int .i64 day] 3 := (hI.keep _ (by omega) (by omega) (by omega)).trans x1
    have c1 : V.cell? ⟨W.heap.size + 1, 0, none⟩ = some (.int .i64 day) := by simpa using y1.cell 0
    obtain ⟨d0, d1, d2, d3, d4, d5, d6, d7⟩ : At8 V s 0 x := ⟨hbx.cell 0, hbx.cell 1, hbx.cell 2, hbx.cell 3, hbx.cell 4, hbx.cell 5, hbx.cell 6, hbx.cell 7⟩
    obtain ⟨e0, e1, e2, e3, e4, e5, e6, e7⟩ : At8 V M 0 bf := ⟨hb1.cell 0, hb1.cell 1, hb1.cell 2, hb1.cell 3, hb1.cell 4, hb1.cell 5, hb1.cell 6, hb1.cell 7⟩
    simp only [Nat.zero_add] at d0 d1 d2 d3 d4 d5 d6 d7 e0 e1 e2 e3 e4 e5 e6 e7
    have s0 : V.cell? ⟨M + 1, 0, none⟩ = some (.bool (bestOn day pre).isSome) := by simpa using hsm.cell 0
    have hsx := hbx.lt
    have gf : ∀ i, V.frozen? ⟨M, i, none⟩ = false := fun i => hb1.frozen i
    have gf1 : V.frozen? ⟨M + 1, 0, none⟩ = false := hsm.frozen 0
    have hszV : w5.heap.size ≤ V.heap.size := hI.size
    have hTl : ∀ k, T k → k < V.heap.size := fun k h => by rcases (hI.T k).1 h with h | h <;> omega
    by_cases h1 : x.vf ≤ day
    · by_cases h2 : day < x.vt
      · have HON : Hid (onB day x = true) := Lib.hid (by unfold onB; rw [decide_eq_true h1, decide_eq_true h2]; rfl)
        cases hbo : bestOn day pre with
        | none =>
          rw [hbo] at s0
          have HBO := Lib.hid hbo
          clear hbo
          gi_wp2
          all_goals first | (exact absurd ‹some undef = some (Value.bool _)› (by simp [undef])) | (refine ⟨trivial, ?_⟩)
          gi_wp2
          exact ⟨T, KeepAt.store (Below.refl _ _) x (by omega) hI.T (by omega), hI.store (Below.refl _ _) x (by omega) (by omega) (by rw [bestOn_on HON.out, HBO.out]; rfl)⟩
        | some y =>
          obtain rfl := hbf y hbo
          rw [hbo] at s0
          have HBO := Lib.hid hbo
          have hC := compare_any x y
          have hX8 : At8 V s 0 x := ⟨hbx.cell 0, hbx.cell 1, hbx.cell 2, hbx.cell 3, hbx.cell 4, hbx.cell 5, hbx.cell 6, hbx.cell 7⟩
          have hY8 : At8 V M 0 y := ⟨hb1.cell 0, hb1.cell 1, hb1.cell 2, hb1.cell 3, hb1.cell 4, hb1.cell 5, hb1.cell 6, hb1.cell 7⟩
          clear hbo
          cases hbe : befB x y
          · have t9 : 0 ≤ cmpF x y := by have := cmpF_geq x y; rw [hbe] at this; simpa using this
            have HBE := Lib.hid hbe
            clear hbe
            gi_wp2_with (refine ⟨trivial, ?_⟩; gi_at_call 33; refine (callsIn_wide.2 (hC _)).mono ?_; rintro e w3 ⟨rfl, hB3⟩; obtain ⟨p0, p1, p2, p3, p4, p5, p6, p7⟩ := hX8.below hB3; obtain ⟨r0, r1, r2, r3, r4, r5, r6, r7⟩ := hY8.below hB3; have r8 : w3.cell? ⟨M + 1, 0, none⟩ = some (.bool true) := ((hsm.below hB3).cell 0).trans (by simp [HBO.out]); simp only [Nat.zero_add] at p0 p1 p2 p3 p4 p5 p6 p7 r0 r1 r2 r3 r4 r5 r6 r7; have gf3 : ∀ i, w3.frozen? ⟨M, i, none⟩ = false := fun i => (hb1.below hB3).frozen i; have gf4 : w3.frozen? ⟨M + 1, 0, none⟩ = false := (hsm.below hB3).frozen 0)
            all_goals first | (exfalso; omega) | exact ⟨T, KeepAt.store hB3 x (by omega) hI.T (by omega), hI.store hB3 x (by omega) (by omega) (by rw [bestOn_on HON.out, HBO.out]; show (if befB x y = true then some y else some x) = _; rw [HBE.out]; rfl)⟩
          · have t9 : ¬ 0 ≤ cmpF x y := by have := cmpF_geq x y; rw [hbe] at this; simpa using this
            have HBE := Lib.hid hbe
            clear hbe
            gi_wp2_with (refine ⟨trivial, ?_⟩; gi_at_call 33; refine (callsIn_wide.2 (hC _)).mono ?_; rintro e w3 ⟨rfl, hB3⟩)
            all_goals first | (exfalso; omega) | exact ⟨T, KeepAt.on hB3 (by omega) hTl, hI.off hB3 (by rw [bestOn_on HON.out, HBO.out]; show (if befB x y = true then some y else some x) = _; rw [HBE.out]; rfl)⟩
      · have HON : Hid (onB day x = false) := Lib.hid (by unfold onB; rw [decide_eq_false h2, Bool.and_false])
        gi_wp2
        all_goals first | (exact absurd ‹some undef = some (Value.bool _)› (by simp [undef])) | (refine ⟨trivial, ?_⟩)
        gi_wp2
        exact ⟨T, KeepAt.on (Below.refl _ _) (by omega) hTl, hI.off (Below.refl _ _) (bestOn_off HON.out)⟩
    · have HON : Hid (onB day x = false) := Lib.hid (by unfold onB; rw [decide_eq_false h1, Bool.false_and])
      gi_wp2
      all_goals first | (exact absurd ‹some undef = some (Value.bool _)› (by simp [undef])) | (refine ⟨trivial, ?_⟩)
      gi_wp2
      exact ⟨T, KeepAt.on (Below.refl _ _) (by omega) hTl, hI.off (Below.refl _ _) (bestOn_off HON.out)⟩
  case done =>
    rintro D T xs W2 hD rfl hI hK
    obtain ⟨bf, hb1, hbf⟩ := hI.best
    have hsm := hI.some'
    have hBl := hI.below
    have hszI := hI.size
    have e3 : W2.cell? ⟨M, 3, none⟩ = some (.int .i64 bf.val) := by simpa using hb1.cell 3
    have s0 : W2.cell? ⟨M + 1, 0, none⟩ = some (.bool (bestOn day (ofL l k known)).isSome) := by simpa using hsm.cell 0
    have HAT : Hid (atF l k day known = (bestOn day (ofL l k known)).bind fun f => if f.val < 0 then none else some f.val) := Lib.hid rfl
    clear x0 x1 x2 x3 x4 x5 x6
    cases hbo : bestOn day (ofL l k known) with
    | none =>
      rw [hbo] at s0 HAT
      clear hbo hI
      gi_wp2
      refine ⟨by simp, .inl ⟨_, _, rfl, run_takeDeferred hK, ?_⟩⟩
      refine ⟨.tuple #[.int .i64 0, .bool false], by simp [results, Try.results18, go_sem], ?_⟩
      exact ⟨by unfold atV atOk; rw [HAT.out]; rfl, below_put2 hBl (by omega) (by omega) _⟩
    | some y =>
      obtain rfl := hbf y hbo
      rw [hbo] at s0 HAT
      clear hbo hI hbf
      by_cases hv : y.val < 0
      · have HV := Lib.hid hv
        gi_wp2
        refine ⟨by simp, .inl ⟨_, _, rfl, run_takeDeferred hK, ?_⟩⟩
        refine ⟨.tuple #[.int .i64 0, .bool false], by simp [results, Try.results18, go_sem], ?_⟩
        exact ⟨by unfold atV atOk; rw [HAT.out, Option.bind_some, if_pos (by have := HV.out; omega)]; rfl, below_put2 hBl (by omega) (by omega) _⟩
      · have HV := Lib.hid hv
        gi_wp2
        refine ⟨by simp, .inl ⟨_, _, rfl, run_takeDeferred hK, ?_⟩⟩
        refine ⟨.tuple #[.int .i64 y.val, .bool true], by simp [results, Try.results18, go_sem], ?_⟩
        exact ⟨by unfold atV atOk; rw [HAT.out, Option.bind_some, if_neg (by have := HV.out; omega)]; rfl, below_put2 hBl (by omega) (by omega) _⟩
end Go.Proofs.Ytfhekhjojdhmhaa
