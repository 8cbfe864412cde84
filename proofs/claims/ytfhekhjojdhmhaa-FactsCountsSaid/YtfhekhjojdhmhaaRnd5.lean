/- A range over a function whose iterator may turn walks' objects of its own; the round's variable is made anew. No program in sight. -/
import Derived.Test.YtfhekhjojdhmhaaRnd
import Derived.RangeFuncFrom
import Derived.RangeFuncGives
namespace Go.Proofs.Ytfhekhjojdhmhaa
open Go.RowKit

variable {F : Fence} {n : Nat} {P : Program} {w : World}

theorem wpIn_rangeFunc_own5 {α : Type} {g : Operand} {ps : Array Tmp} {assign body : Code} {Q : Exit → Act → World → Prop} {a : Act}
    (hro : F.round = none) (h1 : 1 ≤ n) {gf : Nat} {lb : Array Value} (hg : a.eval g = .func (.func gf) #[] lb) (hFg : F.fn gf) (eg : ∀ args w, (callFunc gf args).run P w = .ok (.enter gf args) w)
    {encs : α → Array Value} {S Sp : List α → Prop} {N : Nat} {w0 : World} (hseq : SeqStopsK F (n - 1) P gf lb encs KeepsWalks S Sp N w0) (hb0 : Below w0.heap.size w0 w) (hps : ∀ x, ps.size = (encs x).size)
    (I : List α → World → Prop) (IV : List α → α → Nat → World → Prop) (hI : OwnFrom w.heap.size I)
    (hVput : ∀ pre x s W l o o', IV pre x s W → w.heap.size ≤ l → l < s → W.heap[l]? = some o → o.isCells = false → IV pre x s (W.putObj l o'))
    (a₁ : α → Nat → Act) (wA : α → World → World) (hwA : ∀ x W, Below W.heap.size W (wA x W))
    (hV : ∀ pre x W1, I pre W1 → pre.length < N → w.heap.size ≤ W1.heap.size → IV pre x W1.heap.size (wA x W1))
    (h0 : I [] w)
    (hassign : ∀ (l : Nat) (x : α) (W : World) (K : Act → World → Prop), K (a₁ x W.heap.size) (wA x W) → assign.wpIn (F.inRound l) (n - 1 - 1) P (Exit.then K (fun _ _ _ => False)) { tmps := (ps.zip (encs x)).foldl (fun t (p, v) => t.setIfInBounds p v) a.tmps, defers := [] } W)
    (hbody : ∀ (l : Nat) (pre : List α) (x : α) (s : Nat) (W : World), IV pre x s W → pre.length < N → w.heap.size ≤ s → body.wpIn (F.inRound l) (n - 1 - 1) P (fun e _ W' => e = .normal ∧ KeepsOthers W W' ∧ I (pre ++ [x]) W') (a₁ x s) W)
    (hdone : ∀ (D : Nat) (xs : List α) (W : World), w.heap.size ≤ D → S xs → I xs W → W.heap[D]? = some (.deferred (some [])) → Q .normal { a with defers := { target := .collected D, args := #[] } :: a.defers } W) :
    (Code.rangeFunc g ps assign body).wpIn F n P Q a w := by
  refine wpIn_rangeFunc ?_
  intro fn hfn
  rw [hro]
  obtain ⟨rec, hrec⟩ : ∃ rec : LoopState → Option Code → Loop, rec = fun st pe => { state := st, pending := pe, fn, tmps := a.tmps, params := ps, assign, body, defers := w.heap.size } := ⟨_, rfl⟩
  obtain ⟨W1, hW1⟩ : ∃ W1, (w.alloc (.deferred (some []))).alloc (.loop (rec .ready none)) = W1 := ⟨_, rfl⟩
  have hbw : Below w.heap.size w W1 := by rw [← hW1]; exact (((Below.refl _ w).alloc (Nat.le_refl _) _).alloc (by simp) _)
  have hs1 : W1.heap.size = w.heap.size + 2 := by rw [← hW1]; simp
  have hL1 : W1.heap[w.heap.size + 1]? = some (.loop (rec .ready none)) := by
    rw [← hW1]; have := World.alloc_heap_new (w.alloc (.deferred (some []))) (.loop (rec .ready none)); rwa [World.size_alloc] at this
  have hK1 : W1.heap[w.heap.size]? = some (.deferred (some [])) := by
    rw [← hW1]; exact (Below.heap_alloc _ _ _ (by simp)).trans (World.alloc_heap_new w _)
  have hI1 : I [] W1 := by rw [← hW1]; exact hI.alloc _ (hI.alloc _ h0)
  refine ⟨w.heap.size + 1, [{ target := .collected w.heap.size, args := #[] }], W1, { target := .fn (.func gf) lb, args := #[.func (.yield (w.heap.size + 1)) #[] #[]] }, W1, gf,
    #[.func (.yield (w.heap.size + 1)) #[] #[]] ++ lb, W1, ?_, ?_, ?_, ?_, fun _ => h1, ?_⟩
  · rw [← hW1, hrec]; exact run_enterLoop_outer _ _ _ _ _
  · simp only [resolve, hg]
    simp [go_sem]
  · intro f' hf'; simp [Target.leads] at hf'; subst hf'; exact hFg
  · simp [invoke, go_sem, eg]
  · refine (hseq (w.heap.size + 1) (fun pre W => I pre W ∧ W.heap[w.heap.size + 1]? = some (.loop (rec .ready none)) ∧ W.heap[w.heap.size]? = some (.deferred (some []))) (fun _ _ => False) W1 (hb0.trans (hbw.mono hb0.size))
      (fun s A B row hs hg' hr => ⟨hI s A B row hs.1 hg' (fun r e => by obtain ⟨hB, o, ho, hw⟩ := hr r e; exact ⟨by omega, o, ho, Obj.not_cells_of_walk hw⟩), (grownBy_keeps hg' (fun r e => (hr r e).2) hs.2.1 rfl).trans hs.2.1, (grownBy_keeps hg' (fun r e => (hr r e).2) hs.2.2 rfl).trans hs.2.2⟩)
      (fun s A B row hs _ _ => hs.elim) ?_ ⟨hI1, hL1, hK1⟩).mono ?_
    · rintro pre x W ⟨hi, hl, hk⟩ hlen
      have hlt : w.heap.size + 1 < W.heap.size := (Array.getElem?_eq_some_iff.1 hl).1
      have hiV := hV pre x W hi hlen (by omega)
      have hBA := hwA x W
      have hsA := hBA.size
      have hlA := (hBA.block _ hlt).trans hl
      have hkA := (hBA.block _ (by omega)).trans hk
      have hy := run_yield (P := P) (args := encs x) hl (by rw [hrec]; exact (hps x).symm)
      rw [hrec] at hy
      refine ⟨fn, _, assign, body, hy, roundIn_of_wpIn hfn (hassign _ x W _ ?_)⟩
      clear hy
      refine ⟨_, run_beginRound hlA (by rw [hrec]), ?_⟩
      obtain ⟨Wb, hWb⟩ : ∃ Wb, (wA x W).putObj (w.heap.size + 1) (.loop { rec .ready none with state := .busy }) = Wb := ⟨_, rfl⟩
      have hl2 : Wb.heap[w.heap.size + 1]? = some (.loop { rec .ready none with state := .busy }) := by rw [← hWb]; exact World.putObj_heap_same (by omega)
      have hk2 : Wb.heap[w.heap.size]? = some (.deferred (some [])) := by rw [← hWb]; exact (World.putObj_heap_other (by omega)).trans hkA
      have hi2 : IV pre x W.heap.size Wb := by rw [← hWb]; exact hVput _ _ _ _ _ _ _ hiV (by omega) hlt hlA rfl
      have hkw : KeepsWalks W Wb := by
        rw [← hWb]
        refine KeepsWalks.trans ?_ (KeepsWalks.putObj _ hlA rfl)
        exact ⟨hsA, fun k o hk' _ => (hBA.block k (Array.getElem?_eq_some_iff.1 hk').1).trans hk'⟩
      rw [hWb]
      refine wpIn_mono (hbody _ pre x W.heap.size Wb hi2 hlen (by omega)) ?_
      rintro e a3 W3 ⟨rfl, hR, hi3⟩
      have hl3 := hR.same _ _ hl2 rfl
      have hk3 := hR.same _ _ hk2 rfl
      have hr := run_endRound (P := P) none hl3
      rw [hrec] at hr hl3
      refine ⟨_, _, hr, .inl ⟨rfl, ⟨hI.putObj _ hi3 (by omega) hl3 rfl, ?_, ?_⟩, ?_⟩⟩
      · rw [hrec]; exact World.putObj_heap_same (Array.getElem?_eq_some_iff.1 hl3).1
      · exact (World.putObj_heap_other (by omega)).trans hk3
      · refine (hkw.trans ?_).trans (KeepsWalks.putObj _ hl3 rfl)
        exact ⟨hR.size, fun k o hk' hw => hR.same k o hk' (Obj.not_cells_of_walk hw)⟩
    · rintro e W2 ⟨⟨v, rfl⟩, ⟨xs, hS, hi, hl, hk⟩ | ⟨pre, _, h⟩⟩
      · exact ⟨none, _, by have := run_endLoop (P := P) hl (by rw [hrec]; simp); rw [hrec] at this; exact this, hdone _ xs _ (Nat.le_refl _) hS (hI.putObj _ hi (by omega) hl rfl) ((World.putObj_heap_other (by omega)).trans hk)⟩
      · exact h.elim
end Go.Proofs.Ytfhekhjojdhmhaa
