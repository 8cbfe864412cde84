/- A range over a function whose iterator hands out memory of its own: the body is told what lies behind the value that it is handed. No program in sight. -/
import Derived.RangeFuncNested
import Derived.RangeFuncBound
import Derived.RangeFuncCalls
import Derived.RangeFuncLeaves
import Derived.WalkKit
namespace Go.Proofs.Ytfhekhjojdhmhaa
open Go.RowKit

/-- What a round that goes on pays: all blocks but the caller's own lie as they lay; the caller's own are the old ones and new ones. -/
structure RoundKeeps (T T' : Nat → Prop) (W W' : World) : Prop where
  size : W.heap.size ≤ W'.heap.size
  same : ∀ k, k < W.heap.size → ¬ T k → W'.heap[k]? = W.heap[k]?
  own : ∀ k, T' k → T k ∨ W.heap.size ≤ k
  lt : ∀ k, T' k → k < W'.heap.size

/-- The iterator's contract, for bodies that never leave the loop: between two rounds the iterator only makes new memory; V x W0 W1: what is so of x in W1, where W0 is the world behind the last round. T: the caller's own blocks; R: the blocks that the iterator reads. -/
def SeqTold {α : Type} (F : Fence) (n : Nat) (P : Program) (g : Nat) (lb : Array Value) (encs : α → Array Value) (V : α → World → World → Prop) (S : List α → Prop) (N : Nat) (R : Nat → Prop) (w : World) : Prop :=
  ∀ (l : Nat) (T0 : Nat → Prop) (J : (Nat → Prop) → List α → World → Prop) (W : World), Below w.heap.size w W → (∀ k, T0 k → k < W.heap.size) → (∀ k, T0 k → ¬ R k) →
    (∀ T pre x W0 W1, J T pre W0 → Below W0.heap.size W0 W1 → V x W0 W1 → pre.length < N → YieldAt F (n - 1) P l (encs x) W1 fun e W' => e = .returned (.bool true) ∧ ∃ T', RoundKeeps T T' W1 W' ∧ J T' (pre ++ [x]) W') →
    J T0 [] W →
    CallsIn F n P g (#[.func (.yield l) #[] #[]] ++ lb) W fun e W' => (∃ v, e = .returned v) ∧ ∃ T xs W0, S xs ∧ J T xs W0 ∧ Below W0.heap.size W0 W'

variable {F : Fence} {n : Nat} {P : Program} {w : World}

/-- THE CALLER's LAW. -/
theorem wpIn_rangeFunc_told {α : Type} {g : Operand} {ps : Array Tmp} {assign body : Code} {Q : Exit → Act → World → Prop} {a : Act}
    (hro : F.round = none) (h1 : 1 ≤ n) {gf : Nat} {lb : Array Value} (hg : a.eval g = .func (.func gf) #[] lb) (hFg : F.fn gf) (eg : ∀ args w, (callFunc gf args).run P w = .ok (.enter gf args) w)
    {encs : α → Array Value} {V : α → World → World → Prop} {S : List α → Prop} {N : Nat} {R : Nat → Prop} {w0 : World} (hseq : SeqTold F (n - 1) P gf lb encs V S N R w0) (hb0 : Below w0.heap.size w0 w) (hps : ∀ x, ps.size = (encs x).size)
    (T0 : Nat → Prop) (hT0 : ∀ k, T0 k → ¬ R k) (hTw : ∀ k, T0 k → k < w.heap.size)
    (I : (Nat → Prop) → List α → World → Prop) (IV : (Nat → Prop) → List α → α → World → Prop)
    (hIput : ∀ T pre W l o o', I T pre W → w.heap.size ≤ l → W.heap[l]? = some o → o.isCells = false → I T pre (W.putObj l o'))
    (hVput : ∀ T pre x W l o o', IV T pre x W → w.heap.size ≤ l → W.heap[l]? = some o → o.isCells = false → IV T pre x (W.putObj l o'))
    (hIb : ∀ T pre W W', I T pre W → Below W.heap.size W W' → I T pre W')
    (hV : ∀ T pre x W0 W1, I T pre W0 → Below W0.heap.size W0 W1 → V x W0 W1 → IV T pre x W1)
    (hT : ∀ T pre x W, IV T pre x W → ∀ k o, T k → W.heap[k]? = some o → o.isCells = true)
    (h0 : I T0 [] w) (a₁ : α → Act)
    (hassign : ∀ (l : Nat) (x : α) (W : World) (K : Act → World → Prop), K (a₁ x) W → assign.wpIn (F.inRound l) (n - 1 - 1) P (Exit.then K (fun _ _ _ => False)) { tmps := (ps.zip (encs x)).foldl (fun t (p, v) => t.setIfInBounds p v) a.tmps, defers := [] } W)
    (hbody : ∀ (l : Nat) (T : Nat → Prop) (pre : List α) (x : α) (W : World), IV T pre x W → pre.length < N → body.wpIn (F.inRound l) (n - 1 - 1) P (fun e _ W' => e = .normal ∧ ∃ T', RoundKeeps T T' W W' ∧ I T' (pre ++ [x]) W') (a₁ x) W)
    (hdone : ∀ (D : Nat) (T : Nat → Prop) (xs : List α) (W : World), w.heap.size ≤ D → S xs → I T xs W → W.heap[D]? = some (.deferred (some [])) → Q .normal { a with defers := { target := .collected D, args := #[] } :: a.defers } W) :
    (Code.rangeFunc g ps assign body).wpIn F n P Q a w := by
  refine wpIn_rangeFunc ?_
  intro fn hfn
  rw [hro]
  obtain ⟨rec, hrec⟩ : ∃ rec : LoopState → Option Code → Loop, rec = fun st pe => { state := st, pending := pe, fn, tmps := a.tmps, params := ps, assign, body, defers := w.heap.size } := ⟨_, rfl⟩
  obtain ⟨W1, hW1⟩ : ∃ W1, (w.alloc (.deferred (some []))).alloc (.loop (rec .ready none)) = W1 := ⟨_, rfl⟩
  have hbw : Below w.heap.size w W1 := by rw [← hW1]; exact (((Below.refl _ w).alloc (Nat.le_refl _) _).alloc (by simp) _)
  have hL1 : W1.heap[w.heap.size + 1]? = some (.loop (rec .ready none)) := by
    rw [← hW1]; have := World.alloc_heap_new (w.alloc (.deferred (some []))) (.loop (rec .ready none)); rwa [World.size_alloc] at this
  have hK1 : W1.heap[w.heap.size]? = some (.deferred (some [])) := by
    rw [← hW1]; exact (Below.heap_alloc _ _ _ (by simp)).trans (World.alloc_heap_new w _)
  refine ⟨w.heap.size + 1, [{ target := .collected w.heap.size, args := #[] }], W1, { target := .fn (.func gf) lb, args := #[.func (.yield (w.heap.size + 1)) #[] #[]] }, W1, gf,
    #[.func (.yield (w.heap.size + 1)) #[] #[]] ++ lb, W1, ?_, ?_, ?_, ?_, fun _ => h1, ?_⟩
  · rw [← hW1, hrec]; exact run_enterLoop_outer _ _ _ _ _
  · simp only [resolve, hg]
    simp [go_sem]
  · intro f' hf'; simp [Target.leads] at hf'; subst hf'; exact hFg
  · simp [invoke, go_sem, eg]
  · refine (hseq (w.heap.size + 1) T0 (fun T pre W => I T pre W ∧ W.heap[w.heap.size + 1]? = some (.loop (rec .ready none)) ∧ W.heap[w.heap.size]? = some (.deferred (some []))) W1 (hb0.trans (hbw.mono hb0.size))
      (fun k hk => Nat.lt_of_lt_of_le (hTw k hk) hbw.size) hT0 ?_ ⟨hIb _ _ _ _ h0 hbw, hL1, hK1⟩).mono ?_
    · rintro T pre x W0 W ⟨hi0, hl0, hk0⟩ hB hv hlen
      have hl := (hB.block _ (Array.getElem?_eq_some_iff.1 hl0).1).trans hl0
      have hk := (hB.block _ (Array.getElem?_eq_some_iff.1 hk0).1).trans hk0
      have hi := hV _ _ _ _ _ hi0 hB hv
      have hlt : w.heap.size + 1 < W.heap.size := (Array.getElem?_eq_some_iff.1 hl).1
      have hy := run_yield (P := P) (args := encs x) hl (by rw [hrec]; exact (hps x).symm)
      rw [hrec] at hy
      refine ⟨fn, _, assign, body, hy, roundIn_of_wpIn hfn (hassign _ x W _ ?_)⟩
      clear hy
      refine ⟨_, run_beginRound hl (by rw [hrec]), ?_⟩
      obtain ⟨Wb, hWb⟩ : ∃ Wb, W.putObj (w.heap.size + 1) (.loop { rec .ready none with state := .busy }) = Wb := ⟨_, rfl⟩
      have hsz : Wb.heap.size = W.heap.size := by rw [← hWb]; simp
      have hl2 : Wb.heap[w.heap.size + 1]? = some (.loop { rec .ready none with state := .busy }) := by rw [← hWb]; exact World.putObj_heap_same hlt
      have hk2 : Wb.heap[w.heap.size]? = some (.deferred (some [])) := by rw [← hWb]; exact (World.putObj_heap_other (by omega)).trans hk
      have hi2 : IV T pre x Wb := by rw [← hWb]; exact hVput _ _ _ _ _ _ _ hi (by omega) hl rfl
      have hoth : ∀ k, k ≠ w.heap.size + 1 → Wb.heap[k]? = W.heap[k]? := fun k hne => by rw [← hWb]; exact World.putObj_heap_other hne
      have ht1 : ¬ T (w.heap.size + 1) := fun h => by have := hT _ _ _ _ hi _ _ h hl; simp [Obj.isCells] at this
      have ht0 : ¬ T w.heap.size := fun h => by have := hT _ _ _ _ hi _ _ h hk; simp [Obj.isCells] at this
      rw [hWb]
      refine wpIn_mono (hbody _ T pre x Wb hi2 hlen) ?_
      rintro e a3 W3 ⟨rfl, T', hR, hi3⟩
      have hl3 := (hR.same _ (by omega) ht1).trans hl2
      have hk3 := (hR.same _ (by omega) ht0).trans hk2
      have hr := run_endRound (P := P) none hl3
      rw [hrec] at hr hl3
      refine ⟨_, _, hr, rfl, T', ⟨?_, ?_, ?_, ?_⟩, hIput _ _ _ _ _ _ hi3 (by omega) hl3 rfl, ?_, ?_⟩
      · have := hR.size; simp; omega
      · intro k hk' hTk
        by_cases hke : k = w.heap.size + 1
        · subst hke
          rw [World.putObj_heap_same (Array.getElem?_eq_some_iff.1 hl3).1, hl, hrec]
          rfl
        · rw [World.putObj_heap_other hke, hR.same k (by omega) hTk, hoth k hke]
      · intro k hk'; have := hR.own k hk'; rw [hsz] at this; exact this
      · intro k hk'; have := hR.lt k hk'; simp; omega
      · rw [hrec]; exact World.putObj_heap_same (Array.getElem?_eq_some_iff.1 hl3).1
      · exact (World.putObj_heap_other (by omega)).trans hk3
    · rintro e W2 ⟨⟨v, rfl⟩, T, xs, W0, hS, ⟨hi, hl, hk⟩, hB⟩
      have hl2 := (hB.block _ (Array.getElem?_eq_some_iff.1 hl).1).trans hl
      have hk2 := (hB.block _ (Array.getElem?_eq_some_iff.1 hk).1).trans hk
      exact ⟨none, _, by have := run_endLoop (P := P) hl2 (by rw [hrec]; simp); rw [hrec] at this; exact this, hdone _ T xs _ (Nat.le_refl _) hS (hIput _ _ _ _ _ _ (hIb _ _ _ _ hi hB) (by omega) hl2 rfl) ((World.putObj_heap_other (by omega)).trans hk2)⟩
end Go.Proofs.Ytfhekhjojdhmhaa
