/- A range over a function, the caller's own blocks being what they may; a region of a round that draws its order and holds no call of a Go function. No program in sight. -/
import Derived.Test.YtfhekhjojdhmhaaTold
import Derived.Deep.RegionHeld3
import Derived.OwnWalkIn
namespace Go.Proofs.Ytfhekhjojdhmhaa
open Go.RowKit

/-- The iterator's contract, told also what has come so far. -/
def SeqTold3 {α : Type} (F : Fence) (n : Nat) (P : Program) (g : Nat) (lb : Array Value) (encs : α → Array Value) (V : List α → α → World → World → Prop) (S : List α → Prop) (N : Nat) (R : Nat → Prop) (w : World) : Prop :=
  ∀ (l : Nat) (T0 : Nat → Prop) (J : (Nat → Prop) → List α → World → Prop) (W : World), Below w.heap.size w W → (∀ k, T0 k → k < W.heap.size) → (∀ k, T0 k → ¬ R k) →
    (∀ T pre x W0 W1, J T pre W0 → Below W0.heap.size W0 W1 → V pre x W0 W1 → pre.length < N → YieldAt F (n - 1) P l (encs x) W1 fun e W' => e = .returned (.bool true) ∧ ∃ T', RoundKeeps T T' W1 W' ∧ J T' (pre ++ [x]) W') →
    J T0 [] W →
    CallsIn F n P g (#[.func (.yield l) #[] #[]] ++ lb) W fun e W' => (∃ v, e = .returned v) ∧ ∃ T xs W0, S xs ∧ J T xs W0 ∧ Below W0.heap.size W0 W'
/-- What a round that goes on pays, s being the heap's size before the round's own variables were made. -/
structure KeepAt (s : Nat) (T T' : Nat → Prop) (V W' : World) : Prop where
  size : s ≤ W'.heap.size
  same : ∀ k, k < s → ¬ T k → W'.heap[k]? = V.heap[k]?
  own : ∀ k, T' k → T k ∨ s ≤ k
  lt : ∀ k, T' k → k < W'.heap.size

variable {F : Fence} {n : Nat} {P : Program} {w : World}

/-- THE CALLER's LAW; the round's variables may be made anew. -/
theorem wpIn_rangeFunc_told3 {α : Type} {g : Operand} {ps : Array Tmp} {assign body : Code} {Q : Exit → Act → World → Prop} {a : Act}
    (hro : F.round = none) (h1 : 1 ≤ n) {gf : Nat} {lb : Array Value} (hg : a.eval g = .func (.func gf) #[] lb) (hFg : F.fn gf) (eg : ∀ args w, (callFunc gf args).run P w = .ok (.enter gf args) w)
    {encs : α → Array Value} {V : List α → α → World → World → Prop} {S : List α → Prop} {N : Nat} {R : Nat → Prop} {w0 : World} (hseq : SeqTold3 F (n - 1) P gf lb encs V S N R w0) (hb0 : Below w0.heap.size w0 w) (hps : ∀ x, ps.size = (encs x).size)
    (T0 : Nat → Prop) (hT0 : ∀ k, T0 k → ¬ R k) (hTw : ∀ k, T0 k → k < w.heap.size)
    (I : (Nat → Prop) → List α → World → Prop) (IV : (Nat → Prop) → List α → α → Nat → World → Prop)
    (hIput : ∀ T pre W l o o', I T pre W → w.heap.size ≤ l → W.heap[l]? = some o → o.isCells = false → I T pre (W.putObj l o'))
    (hVput : ∀ T pre x s W l o o', IV T pre x s W → w.heap.size ≤ l → l < s → W.heap[l]? = some o → o.isCells = false → IV T pre x s (W.putObj l o'))
    (hIb : ∀ T pre W W', I T pre W → Below W.heap.size W W' → I T pre W')
    (a₁ : α → Nat → Act) (wA : α → World → World) (hwA : ∀ x W, Below W.heap.size W (wA x W))
    (hV : ∀ T pre x W0 W1, I T pre W0 → Below W0.heap.size W0 W1 → V pre x W0 W1 → pre.length < N → w.heap.size ≤ W1.heap.size → IV T pre x W1.heap.size (wA x W1))
    (hT : ∀ T pre W, I T pre W → ∀ k o, T k → w.heap.size ≤ k → W.heap[k]? = some o → o.isCells = true)
    (h0 : I T0 [] w)
    (hassign : ∀ (l : Nat) (x : α) (W : World) (K : Act → World → Prop), K (a₁ x W.heap.size) (wA x W) → assign.wpIn (F.inRound l) (n - 1 - 1) P (Exit.then K (fun _ _ _ => False)) { tmps := (ps.zip (encs x)).foldl (fun t (p, v) => t.setIfInBounds p v) a.tmps, defers := [] } W)
    (hbody : ∀ (l : Nat) (T : Nat → Prop) (pre : List α) (x : α) (s : Nat) (W : World), IV T pre x s W → pre.length < N → w.heap.size ≤ s → body.wpIn (F.inRound l) (n - 1 - 1) P (fun e _ W' => e = .normal ∧ ∃ T', KeepAt s T T' W W' ∧ I T' (pre ++ [x]) W') (a₁ x s) W)
    (hdone : ∀ (D : Nat) (T : Nat → Prop) (xs : List α) (W : World), w.heap.size ≤ D → S xs → I T xs W → W.heap[D]? = some (.deferred (some [])) → Q .normal { a with defers := { target := .collected D, args := #[] } :: a.defers } W) :
    (Code.rangeFunc g ps assign body).wpIn F n P Q a w := by
  refine wpIn_rangeFunc ?_
  intro fn hfn
  rw [hro]
  obtain ⟨rec, hrec⟩ : ∃ rec : LoopState → Option Code → Loop, rec = fun st pe => { state := st, pending := pe, fn, tmps := a.tmps, params := ps, assign, body, defers := w.heap.size } := ⟨_, rfl⟩
  obtain ⟨W1, hW1⟩ : ∃ W1, (w.alloc (.deferred (some []))).alloc (.loop (rec .ready none)) = W1 := ⟨_, rfl⟩
  have hbw : Below w.heap.size w W1 := by rw [← hW1]; exact (((Below.refl _ w).alloc (Nat.le_refl _) _).alloc (by simp) _)
  have hL1 : W1.heap[w.heap.size + 1]? = some (.loop (rec .ready none)) := by
    rw [← hW1]; have := World.alloc_heap_new (w.alloc (.deferred (some []))) (.loop (rec .ready none)); rwa [World.size_alloc] at this
  have hK1 : W1.heap[w.heap.size]? = some (.deferred (some [])) := by
    rw [← hW1]; exact (Below.heap_alloc _ _ _ (by simp)).trans (World.alloc_heap_new w _)
  refine ⟨w.heap.size + 1, [{ target := .collected w.heap.size, args := #[] }], W1, { target := .fn (.func gf) lb, args := #[.func (.yield (w.heap.size + 1)) #[] #[]] }, W1, gf,
    #[.func (.yield (w.heap.size + 1)) #[] #[]] ++ lb, W1, ?_, ?_, ?_, ?_, fun _ => h1, ?_⟩
  · rw [← hW1, hrec]; exact run_enterLoop_outer _ _ _ _ _
  · simp only [resolve, hg]
    simp [go_sem]
  · intro f' hf'; simp [Target.leads] at hf'; subst hf'; exact hFg
  · simp [invoke, go_sem, eg]
  · refine (hseq (w.heap.size + 1) T0 (fun T pre W => I T pre W ∧ W.heap[w.heap.size + 1]? = some (.loop (rec .ready none)) ∧ W.heap[w.heap.size]? = some (.deferred (some []))) W1 (hb0.trans (hbw.mono hb0.size))
      (fun k hk => Nat.lt_of_lt_of_le (hTw k hk) hbw.size) hT0 ?_ ⟨hIb _ _ _ _ h0 hbw, hL1, hK1⟩).mono ?_
    · rintro T pre x W0 W ⟨hi0, hl0, hk0⟩ hB hv hlen
      have hl := (hB.block _ (Array.getElem?_eq_some_iff.1 hl0).1).trans hl0
      have hk := (hB.block _ (Array.getElem?_eq_some_iff.1 hk0).1).trans hk0
      have hlt : w.heap.size + 1 < W.heap.size := (Array.getElem?_eq_some_iff.1 hl).1
      have hiW := hIb _ _ _ _ hi0 hB
      have hi := hV _ _ _ _ _ hi0 hB hv hlen (by omega)
      have hBA := hwA x W
      have hsA := hBA.size
      have hlA := (hBA.block _ hlt).trans hl
      have hkA := (hBA.block _ (by omega)).trans hk
      have hy := run_yield (P := P) (args := encs x) hl (by rw [hrec]; exact (hps x).symm)
      rw [hrec] at hy
      refine ⟨fn, _, assign, body, hy, roundIn_of_wpIn hfn (hassign _ x W _ ?_)⟩
      clear hy
      refine ⟨_, run_beginRound hlA (by rw [hrec]), ?_⟩
      obtain ⟨Wb, hWb⟩ : ∃ Wb, (wA x W).putObj (w.heap.size + 1) (.loop { rec .ready none with state := .busy }) = Wb := ⟨_, rfl⟩
      have hsz : Wb.heap.size = (wA x W).heap.size := by rw [← hWb]; simp
      have hl2 : Wb.heap[w.heap.size + 1]? = some (.loop { rec .ready none with state := .busy }) := by rw [← hWb]; exact World.putObj_heap_same (by omega)
      have hk2 : Wb.heap[w.heap.size]? = some (.deferred (some [])) := by rw [← hWb]; exact (World.putObj_heap_other (by omega)).trans hkA
      have hi2 : IV T pre x W.heap.size Wb := by rw [← hWb]; exact hVput _ _ _ _ _ _ _ _ hi (by omega) hlt hlA rfl
      have hoth : ∀ k, k ≠ w.heap.size + 1 → Wb.heap[k]? = (wA x W).heap[k]? := fun k hne => by rw [← hWb]; exact World.putObj_heap_other hne
      have ht1 : ¬ T (w.heap.size + 1) := fun h => by have := hT _ _ _ hiW _ _ h (by omega) hl; simp [Obj.isCells] at this
      have ht0 : ¬ T w.heap.size := fun h => by have := hT _ _ _ hiW _ _ h (Nat.le_refl _) hk; simp [Obj.isCells] at this
      rw [hWb]
      refine wpIn_mono (hbody _ T pre x W.heap.size Wb hi2 hlen (by omega)) ?_
      rintro e a3 W3 ⟨rfl, T', hR, hi3⟩
      have hl3 := (hR.same _ (by omega) ht1).trans hl2
      have hk3 := (hR.same _ (by omega) ht0).trans hk2
      have hr := run_endRound (P := P) none hl3
      rw [hrec] at hr hl3
      refine ⟨_, _, hr, rfl, T', ⟨?_, ?_, ?_, ?_⟩, hIput _ _ _ _ _ _ hi3 (by omega) hl3 rfl, ?_, ?_⟩
      · have := hR.size; simp; omega
      · intro k hk' hTk
        by_cases hke : k = w.heap.size + 1
        · subst hke
          rw [World.putObj_heap_same (Array.getElem?_eq_some_iff.1 hl3).1, hl, hrec]
          rfl
        · rw [World.putObj_heap_other hke, hR.same k hk' hTk, hoth k hke, hBA.block k hk']
      · intro k hk'; exact hR.own k hk'
      · intro k hk'; have := hR.lt k hk'; simp; omega
      · rw [hrec]; exact World.putObj_heap_same (Array.getElem?_eq_some_iff.1 hl3).1
      · exact (World.putObj_heap_other (by omega)).trans hk3
    · rintro e W2 ⟨⟨v, rfl⟩, T, xs, W0, hS, ⟨hi, hl, hk⟩, hB⟩
      have hl2 := (hB.block _ (Array.getElem?_eq_some_iff.1 hl).1).trans hl
      have hk2 := (hB.block _ (Array.getElem?_eq_some_iff.1 hk).1).trans hk
      exact ⟨none, _, by have := run_endLoop (P := P) hl2 (by rw [hrec]; simp); rw [hrec] at this; exact this, hdone _ T xs _ (Nat.le_refl _) hS (hIput _ _ _ _ _ _ (hIb _ _ _ _ hi hB) (by omega) hl2 rfl) ((World.putObj_heap_other (by omega)).trans hk2)⟩

/-! ### a region of a round -/
/-- No operation of the region is a defer. -/
def noDefer (o : Oper) : Bool := match o.op with | .defer _ => false | _ => true
theorem noDefer_ne {o : Oper} (h : noDefer o = true) : ∀ c, o.op ≠ .defer c := by
  intro c e; unfold noDefer at h; rw [e] at h; cases h
/-- Q at its normal exit alone. -/
def NormQ (Q : Exit → Act → World → Prop) (e : Exit) (a : Act) (w : World) : Prop := e = .normal ∧ Q .normal a w
theorem wpOpsIn_of {P : Program} {ops : Array Oper} {Q : Exit → Act → World → Prop} {l n : Nat} (hd : ∀ (i : Nat) (o : Oper), ops[i]? = some o → noDefer o = true) :
    ∀ (L : List Nat) (a : Act) (w : World), wpOps P ops (NormQ Q) L a w → wpOpsIn (Fence.wide.inRound l) n P ops (NormQ Q) L a w
  | [], a, w, h => h
  | i :: rest, a, w, h => by
    have ih := wpOpsIn_of (P := P) (l := l) (n := n) (Q := Q) hd rest
    simp only [wpOps] at h
    simp only [wpOpsIn]
    cases ho : ops[i]? with
    | none => simp only [ho] at h ⊢; exact ih _ _ h
    | some o =>
      simp only [ho] at h ⊢
      split
      · rename_i hw
        rw [if_pos hw] at h
        rcases h with h | ⟨_, a0, w0, h⟩
        · refine ⟨fun _ _ => trivial, ?_⟩
          rw [Oper.semAt_plain _ _ _ (noDefer_ne (hd i o ho))]
          unfold Oper.wp at h
          generalize (execOp a.eval o).run P w = r at h
          cases r with
          | ok x w' =>
            cases x with
            | value v => exact ih _ _ h
            | skip => exact ih _ _ h
            | defer d => exact ih _ _ h
            | enter f args =>
              refine ⟨(fun hz => nomatch hz), CallsIn.inRound l (callsIn_wide.2 (h.mono fun e w'' he => ?_))⟩
              cases e with
              | returned v => exact ih _ _ he
              | panicked chain => exact he
              | outgrown => exact he
            | row row args =>
              exact ⟨(fun hz => nomatch hz), fun c cs _ => let ⟨v, w'', r, s⟩ := h c cs; ⟨v, w'', ih _ _ r, stepsIn_wide.2 s⟩⟩
            | _ => exact h.elim
          | halt x w' => cases x <;> exact h
        · cases h.1
      · rename_i hw
        rw [if_neg hw] at h
        exact ⟨fun _ _ => trivial, ih _ _ h⟩
theorem noDefer_all {ops : Array Oper} (h : ops.all noDefer = true) : ∀ (i : Nat) (o : Oper), ops[i]? = some o → noDefer o = true := fun i o e => by
  obtain ⟨hi, e⟩ := Array.getElem?_eq_some_iff.1 e
  rw [← e]; exact Array.all_eq_true.1 h i hi
/-- THE REGION OF A ROUND: as 'wp_region_held', inside a round. -/
theorem wpIn_region_heldR {P : Program} {ops : Array Oper} {Q : Exit → Act → World → Prop} {S : World → Prop} {l n id : Nat} {a : Act} {w : World} (hm : P.follows .mixedOrders = true) (hd : ops.all noDefer = true)
    (h : wpAnyH P .any ops (NormQ Q) S ops.size (Array.replicate ops.size false) a w.drew) : (Code.region id ops true).wpIn (Fence.wide.inRound l) n P Q a w :=
  wpIn_mono (Q := NormQ Q) (wpIn_region_draw fun t => by
    simp only [Region.schedule, hm, Bool.true_or, if_true]
    exact wpOpsIn_of (noDefer_all hd) _ _ _ (wpAny_sound ops.size t _ a _ (wpAny_of_held _ _ _ _ h))) (by rintro e a w ⟨rfl, h⟩; exact h)
theorem NormQ.hq {Q : Exit → Act → World → Prop} {oi : Oper} {v : Value} : ∀ c a w, NormQ Q (.panic c) (a.put oi.dst v) w → NormQ Q (.panic c) a w := fun _ _ _ h => by cases h.1
end Go.Proofs.Ytfhekhjojdhmhaa
