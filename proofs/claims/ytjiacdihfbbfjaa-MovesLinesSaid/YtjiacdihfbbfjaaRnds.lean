/- A map from spots (arrays of two ints) to ints, of the call's own: its block known as a list of entries. -/
import Derived.WalkKit
import Derived.DeepKeys5
import Derived.Maps.OwnSet
import Derived.Test.YtjiacdihfbbfjaaBase
import Derived.Test.YtjiacdihfbbfjaaPm
import Derived.Test.YtjiacdihfbbfjaaTold
import Derived.Deep.RegionHeld3
import Derived.OwnWalkIn
import Derived.Test.YtjiacdihfbbfjaaSl
import Derived.WalkSpells
import Derived.WalkLawsBesides
import Derived.Deep.LoopGhost
import Derived.Deep.QuietTactic
import Derived.BigQuiet
import Derived.StillTailTactics
import Derived.Lib.Hide
import Derived.Outline
import Derived.Lib.QuietBelow
namespace Go.Proofs.Ytjiacdihfbbfjaa
open Go.RowKit

theorem sk_laid : laidOutB Try.prog = true := by kernel_rfl
theorem sk_row : (82 : TypeId) < Try.prog.types.size := of_decide_eq_true (by kernel_rfl)
theorem sk_at : Try.prog.keyTypeAt 2 82 = true := by kernel_rfl
theorem sk_law : Maps.Keyed Try.prog 82 := by
  refine Maps.Keyed.of_law (deep_law_laid sk_laid (m := 2) (by omega) sk_row sk_at ?_)
  have h := Try.underlying82
  revert h
  generalize Try.prog.underlying 82 = x
  rintro rfl
  rfl
theorem sk_type : Try.prog.keyType 82 = true := by kernel_rfl
theorem sk_cells : Try.prog.cellsOf 82 = 2 := by kernel_rfl

theorem sk_int : Try.prog.cellsOf 3 = 1 := by kernel_rfl
theorem sk_lits (d : Nat) (x : Int) (h : (Lit.int .i64 x).wf = true) : Try.prog.keyLits (d + 1) 3 [.int .i64 x] = some [.int .i64 x] := by
  unfold Program.keyLits
  rw [Try.underlying3]
  simp [h]
theorem sk_lits2 (d : Nat) (p : Int × Int) (h : small64 p) : Try.prog.keyLits (d + 1 + 1) 82 [.int .i64 p.1, .int .i64 p.2] = some [.int .i64 p.1, .int .i64 p.2] := by
  unfold Program.keyLits
  rw [Try.underlying82]
  simp [sk_cells, sk_int]
  refine ⟨[[.int .i64 p.1], [.int .i64 p.2]], ?_, rfl⟩
  rw [show List.range 2 = [0, 1] from rfl]
  simp [sk_lits d _ h.1, sk_lits d _ h.2]
theorem sk_size : Try.prog.types.size + 1 = (Try.prog.types.size - 1) + 1 + 1 := by
  have h : (Nat.lt 82 Try.prog.types.size) := sk_row
  generalize Try.prog.types.size = z at h
  simp only [Nat.lt_eq] at h
  omega
theorem sk_key (p : Int × Int) (h : small64 p) : keyOf Try.prog 82 (pv p) = some (.string (keyBytes [.int .i64 p.1, .int .i64 p.2])) := by
  unfold keyOf
  rw [Try.underlying82]
  have hf : (pv p).formed Try.prog 82 = true := by simp [pv, Value.formed, Try.underlying82, sk_cells]
  simp only [sk_type, hf, Bool.and_self, if_true]
  rw [sk_size]
  show (Try.prog.keyLits _ 82 [.int .i64 p.1, .int .i64 p.2]).map _ = _
  rw [sk_lits2 _ p h]
  rfl

open Go.ChangeMaps Go.MapKept in
/-- Block b is a map whose entries are l, in the order in which they came; no two keys are alike. -/
structure SMap (w : World) (b : Nat) (l : List ((Int × Int) × Int)) : Prop where
  has : ∃ es clock, w.heap[b]? = some (.map es clock) ∧ es.toList.map (fun e => (e.key, e.val)) = l.map (fun x => (pv x.1, Value.int .i64 x.2))
  keys : ∀ x ∈ l, small64 x.1
  apart : l.Pairwise (fun x y => x.1 ≠ y.1)

theorem SMap.made (w : World) : SMap (w.alloc (.map #[] 0)) w.heap.size [] := ⟨⟨#[], 0, (MapKept.heap_alloc w _).1, rfl⟩, by simp, .nil⟩
theorem SMap.lt {w : World} {b : Nat} {l : List ((Int × Int) × Int)} (h : SMap w b l) : b < w.heap.size := by
  obtain ⟨⟨es, c, hb, _⟩, _⟩ := h
  exact (Array.getElem?_eq_some_iff.1 hb).1
theorem SMap.below {w w' : World} {b : Nat} {l : List ((Int × Int) × Int)} (h : SMap w b l) (hb : Below w.heap.size w w') : SMap w' b l := by
  have hlt := h.lt
  obtain ⟨⟨es, c, h1, h2⟩, h3, h4⟩ := h
  exact ⟨⟨es, c, (hb.block b hlt).trans h1, h2⟩, h3, h4⟩
theorem SMap.grown {w w' : World} {b : Nat} {row : Option Nat} {l : List ((Int × Int) × Int)} (h : SMap w b l) (hg : w.grownBy w' row) (hne : some b ≠ row) : SMap w' b l := by
  have hlt := h.lt
  obtain ⟨⟨es, c, h1, h2⟩, h3, h4⟩ := h
  exact ⟨⟨es, c, (hg.block b hlt hne).trans h1, h2⟩, h3, h4⟩

theorem SMap.entry {l : List ((Int × Int) × Int)} {es : Array MapEntry} (h : es.toList.map (fun e => (e.key, e.val)) = l.map (fun x => (pv x.1, Value.int .i64 x.2))) {e : MapEntry} (he : e ∈ es.toList) :
    ∃ x ∈ l, e.key = pv x.1 ∧ e.val = .int .i64 x.2 := by
  have : (e.key, e.val) ∈ l.map (fun x => (pv x.1, Value.int .i64 x.2)) := by rw [← h]; exact List.mem_map.2 ⟨e, he, rfl⟩
  obtain ⟨x, hx, e1⟩ := List.mem_map.1 this
  injection e1 with e1 e2
  exact ⟨x, hx, e1.symm, e2.symm⟩
theorem SMap.entry' {l : List ((Int × Int) × Int)} {es : Array MapEntry} (h : es.toList.map (fun e => (e.key, e.val)) = l.map (fun x => (pv x.1, Value.int .i64 x.2))) {x : (Int × Int) × Int} (hx : x ∈ l) :
    ∃ e ∈ es.toList, e.key = pv x.1 ∧ e.val = .int .i64 x.2 := by
  have : (pv x.1, Value.int .i64 x.2) ∈ es.toList.map (fun e => (e.key, e.val)) := by rw [h]; exact List.mem_map.2 ⟨x, hx, rfl⟩
  obtain ⟨e, he, e1⟩ := List.mem_map.1 this
  injection e1 with e1 e2
  exact ⟨e, he, e1, e2⟩

theorem SMap.look {w : World} {b : Nat} {l : List ((Int × Int) × Int)} (h : SMap w b l) (k : Int × Int) (hk : small64 k) :
    (Instr.lookup 84 (.map (some b)) (pv k) true).run Try.prog w = .ok (.tuple #[.int .i64 ((lookP l k).getD 0), .bool (lookP l k).isSome]) w := by
  obtain ⟨⟨es, c, hb, he⟩, hs, ha⟩ := h
  have hz : (zeroValue 3).run Try.prog w = .ok (.int .i64 0) w := by kernel_rfl
  rcases sk_law.find w (sk_key k hk) es.toList (fun e hm => by obtain ⟨x, hx, e1, _⟩ := SMap.entry he hm; exact ⟨_, by rw [e1]; exact sk_key _ (hs x hx)⟩) with ⟨h1, h2⟩ | ⟨j, e0, h1, h2, h3⟩
  · have hn : lookP l k = none := lookP_none fun x hx e => by
      obtain ⟨e1, he1, he2, _⟩ := SMap.entry' he hx
      exact h2 e1 he1 (by rw [he2, e])
    rw [hn]
    simp [Instr.lookup, run_underlying Try.underlying84, MapKept.run_getObj_map hb, sk_law.check w _ (sk_key k hk), h1, hz, Result.andThen]
  · obtain ⟨x, hx, e1, e2⟩ := SMap.entry he (List.mem_of_getElem? h2)
    rw [h3] at e1
    obtain rfl := pv_inj e1
    rw [lookP_some ha hx]
    simp [Instr.lookup, run_underlying Try.underlying84, MapKept.run_getObj_map hb, sk_law.check w _ (sk_key _ hk), h1, e2, Result.andThen]

theorem SMap.put {w : World} {b : Nat} {l : List ((Int × Int) × Int)} (h : SMap w b l) (k : Int × Int) (i : Int) (hk : small64 k) (hn : ∀ x ∈ l, x.1 ≠ k) :
    ∃ w', (Instr.mapUpdate 84 (.map (some b)) (pv k) (.int .i64 i)).run Try.prog w = .ok () w' ∧ SMap w' b (l ++ [(k, i)]) ∧ w.grownBy w' (some b) ∧ w'.heap.size = w.heap.size := by
  obtain ⟨⟨es, c, hb, he⟩, hs, ha⟩ := h
  rcases sk_law.find w (sk_key k hk) es.toList (fun e hm => by obtain ⟨x, hx, e1, _⟩ := SMap.entry he hm; exact ⟨_, by rw [e1]; exact sk_key _ (hs x hx)⟩) with ⟨h1, h2⟩ | ⟨j, e0, h1, h2, h3⟩
  · refine ⟨ChangeMaps.setBlock w b (.map (es.push ⟨pv k, .int .i64 i, c⟩) (c + 1)), ?_, ⟨⟨_, _, ChangeMaps.heap_setBlock_same hb _, ?_⟩, ?_, ?_⟩, ⟨rfl, rfl, rfl, by simp [ChangeMaps.setBlock], fun i _ hi => ChangeMaps.heap_setBlock_other hb _ (fun e => hi (by rw [e]))⟩, by simp [ChangeMaps.setBlock]⟩
    · simp [Instr.mapUpdate, run_underlying Try.underlying84, MapKept.run_getObj_map hb, sk_law.check w false (sk_key k hk), h1, MapKept.run_setObj_map _ hb, Result.andThen, ChangeMaps.setBlock]
    · simp [he]
    · intro x hx
      rcases List.mem_append.1 hx with hx | hx
      · exact hs x hx
      · simp at hx; subst hx; exact hk
    · rw [List.pairwise_append]
      refine ⟨ha, by simp, fun x hx y hy => ?_⟩
      simp at hy; subst hy; exact hn x hx
  · obtain ⟨x, hx, e1, e2⟩ := SMap.entry he (List.mem_of_getElem? h2)
    rw [h3] at e1
    exact absurd (pv_inj e1).symm (hn x hx)
end Go.Proofs.Ytjiacdihfbbfjaa

/- A range over a function, the caller's own blocks being what they may; a region of a round that draws its order and holds no call of a Go function. No program in sight. -/
namespace Go.Proofs.Ytjiacdihfbbfjaa
open Go.RowKit

/-- The iterator's contract, told also what has come so far. -/
def SeqTold3 {α : Type} (F : Fence) (n : Nat) (P : Program) (g : Nat) (lb : Array Value) (encs : α → Array Value) (V : List α → α → World → World → Prop) (S : List α → Prop) (N : Nat) (R : Nat → Prop) (w : World) : Prop :=
  ∀ (l : Nat) (T0 : Nat → Prop) (J : (Nat → Prop) → List α → World → Prop) (W : World), Below w.heap.size w W → (∀ k, T0 k → k < W.heap.size) → (∀ k, T0 k → ¬ R k) →
    (∀ T pre x W0 W1, J T pre W0 → Below W0.heap.size W0 W1 → V pre x W0 W1 → pre.length < N → YieldAt F (n - 1) P l (encs x) W1 fun e W' => e = .returned (.bool true) ∧ ∃ T', RoundKeeps T T' W1 W' ∧ J T' (pre ++ [x]) W') →
    J T0 [] W →
    CallsIn F n P g (#[.func (.yield l) #[] #[]] ++ lb) W fun e W' => (∃ v, e = .returned v) ∧ ∃ T xs W0, S xs ∧ J T xs W0 ∧ Below W0.heap.size W0 W'
/-- What a round that goes on pays, s being the heap's size before the round's own variables were made. -/
structure KeepAt (s : Nat) (T T' : Nat → Prop) (V W' : World) : Prop where
  size : s ≤ W'.heap.size
  same : ∀ k, k < s → ¬ T k → W'.heap[k]? = V.heap[k]?
  own : ∀ k, T' k → T k ∨ s ≤ k
  lt : ∀ k, T' k → k < W'.heap.size

variable {F : Fence} {n : Nat} {P : Program} {w : World}

/-- THE CALLER's LAW; the round's variables may be made anew. -/
theorem wpIn_rangeFunc_told3 {α : Type} {g : Operand} {ps : Array Tmp} {assign body : Code} {Q : Exit → Act → World → Prop} {a : Act}
    (hro : F.round = none) (h1 : 1 ≤ n) {gf : Nat} {lb : Array Value} (hg : a.eval g = .func (.func gf) #[] lb) (hFg : F.fn gf) (eg : ∀ args w, (callFunc gf args).run P w = .ok (.enter gf args) w)
    {encs : α → Array Value} {V : List α → α → World → World → Prop} {S : List α → Prop} {N : Nat} {R : Nat → Prop} {w0 : World} (hseq : SeqTold3 F (n - 1) P gf lb encs V S N R w0) (hb0 : Below w0.heap.size w0 w) (hps : ∀ x, ps.size = (encs x).size)
    (T0 : Nat → Prop) (hT0 : ∀ k, T0 k → ¬ R k) (hTw : ∀ k, T0 k → k < w.heap.size)
    (I : (Nat → Prop) → List α → World → Prop) (IV : (Nat → Prop) → List α → α → Nat → World → Prop)
    (hIput : ∀ T pre W l o o', I T pre W → w.heap.size ≤ l → W.heap[l]? = some o → o.isCells = false → I T pre (W.putObj l o'))
    (hVput : ∀ T pre x s W l o o', IV T pre x s W → w.heap.size ≤ l → l < s → W.heap[l]? = some o → o.isCells = false → IV T pre x s (W.putObj l o'))
    (hIb : ∀ T pre W W', I T pre W → Below W.heap.size W W' → I T pre W')
    (a₁ : α → Nat → Act) (wA : α → World → World) (hwA : ∀ x W, Below W.heap.size W (wA x W))
    (hV : ∀ T pre x W0 W1, I T pre W0 → Below W0.heap.size W0 W1 → V pre x W0 W1 → pre.length < N → w.heap.size ≤ W1.heap.size → IV T pre x W1.heap.size (wA x W1))
    (hT : ∀ T pre W, I T pre W → ∀ k o, T k → w.heap.size ≤ k → W.heap[k]? = some o → o.isCells = true)
    (h0 : I T0 [] w)
    (hassign : ∀ (l : Nat) (x : α) (W : World) (K : Act → World → Prop), K (a₁ x W.heap.size) (wA x W) → assign.wpIn (F.inRound l) (n - 1 - 1) P (Exit.then K (fun _ _ _ => False)) { tmps := (ps.zip (encs x)).foldl (fun t (p, v) => t.setIfInBounds p v) a.tmps, defers := [] } W)
    (hbody : ∀ (l : Nat) (T : Nat → Prop) (pre : List α) (x : α) (s : Nat) (W : World), IV T pre x s W → pre.length < N → w.heap.size ≤ s → body.wpIn (F.inRound l) (n - 1 - 1) P (fun e _ W' => e = .normal ∧ ∃ T', KeepAt s T T' W W' ∧ I T' (pre ++ [x]) W') (a₁ x s) W)
    (hdone : ∀ (D : Nat) (T : Nat → Prop) (xs : List α) (W : World), w.heap.size ≤ D → S xs → I T xs W → W.heap[D]? = some (.deferred (some [])) → Q .normal { a with defers := { target := .collected D, args := #[] } :: a.defers } W) :
    (Code.rangeFunc g ps assign body).wpIn F n P Q a w := by
  refine wpIn_rangeFunc ?_
  intro fn hfn
  rw [hro]
  obtain ⟨rec, hrec⟩ : ∃ rec : LoopState → Option Code → Loop, rec = fun st pe => { state := st, pending := pe, fn, tmps := a.tmps, params := ps, assign, body, defers := w.heap.size } := ⟨_, rfl⟩
  obtain ⟨W1, hW1⟩ : ∃ W1, (w.alloc (.deferred (some []))).alloc (.loop (rec .ready none)) = W1 := ⟨_, rfl⟩
  have hbw : Below w.heap.size w W1 := by rw [← hW1]; exact (((Below.refl _ w).alloc (Nat.le_refl _) _).alloc (by simp) _)
  have hL1 : W1.heap[w.heap.size + 1]? = some (.loop (rec .ready none)) := by
    rw [← hW1]; have := World.alloc_heap_new (w.alloc (.deferred (some []))) (.loop (rec .ready none)); rwa [World.size_alloc] at this
  have hK1 : W1.heap[w.heap.size]? = some (.deferred (some [])) := by
    rw [← hW1]; exact (Below.heap_alloc _ _ _ (by simp)).trans (World.alloc_heap_new w _)
  refine ⟨w.heap.size + 1, [{ target := .collected w.heap.size, args := #[] }], W1, { target := .fn (.func gf) lb, args := #[.func (.yield (w.heap.size + 1)) #[] #[]] }, W1, gf,
    #[.func (.yield (w.heap.size + 1)) #[] #[]] ++ lb, W1, ?_, ?_, ?_, ?_, fun _ => h1, ?_⟩
  · rw [← hW1, hrec]; exact run_enterLoop_outer _ _ _ _ _
  · simp only [resolve, hg]
    simp [go_sem]
  · intro f' hf'; simp [Target.leads] at hf'; subst hf'; exact hFg
  · simp [invoke, go_sem, eg]
  · refine (hseq (w.heap.size + 1) T0 (fun T pre W => I T pre W ∧ W.heap[w.heap.size + 1]? = some (.loop (rec .ready none)) ∧ W.heap[w.heap.size]? = some (.deferred (some []))) W1 (hb0.trans (hbw.mono hb0.size))
      (fun k hk => Nat.lt_of_lt_of_le (hTw k hk) hbw.size) hT0 ?_ ⟨hIb _ _ _ _ h0 hbw, hL1, hK1⟩).mono ?_
    · rintro T pre x W0 W ⟨hi0, hl0, hk0⟩ hB hv hlen
      have hl := (hB.block _ (Array.getElem?_eq_some_iff.1 hl0).1).trans hl0
      have hk := (hB.block _ (Array.getElem?_eq_some_iff.1 hk0).1).trans hk0
      have hlt : w.heap.size + 1 < W.heap.size := (Array.getElem?_eq_some_iff.1 hl).1
      have hiW := hIb _ _ _ _ hi0 hB
      have hi := hV _ _ _ _ _ hi0 hB hv hlen (by omega)
      have hBA := hwA x W
      have hsA := hBA.size
      have hlA := (hBA.block _ hlt).trans hl
      have hkA := (hBA.block _ (by omega)).trans hk
      have hy := run_yield (P := P) (args := encs x) hl (by rw [hrec]; exact (hps x).symm)
      rw [hrec] at hy
      refine ⟨fn, _, assign, body, hy, roundIn_of_wpIn hfn (hassign _ x W _ ?_)⟩
      clear hy
      refine ⟨_, run_beginRound hlA (by rw [hrec]), ?_⟩
      obtain ⟨Wb, hWb⟩ : ∃ Wb, (wA x W).putObj (w.heap.size + 1) (.loop { rec .ready none with state := .busy }) = Wb := ⟨_, rfl⟩
      have hsz : Wb.heap.size = (wA x W).heap.size := by rw [← hWb]; simp
      have hl2 : Wb.heap[w.heap.size + 1]? = some (.loop { rec .ready none with state := .busy }) := by rw [← hWb]; exact World.putObj_heap_same (by omega)
      have hk2 : Wb.heap[w.heap.size]? = some (.deferred (some [])) := by rw [← hWb]; exact (World.putObj_heap_other (by omega)).trans hkA
      have hi2 : IV T pre x W.heap.size Wb := by rw [← hWb]; exact hVput _ _ _ _ _ _ _ _ hi (by omega) hlt hlA rfl
      have hoth : ∀ k, k ≠ w.heap.size + 1 → Wb.heap[k]? = (wA x W).heap[k]? := fun k hne => by rw [← hWb]; exact World.putObj_heap_other hne
      have ht1 : ¬ T (w.heap.size + 1) := fun h => by have := hT _ _ _ hiW _ _ h (by omega) hl; simp [Obj.isCells] at this
      have ht0 : ¬ T w.heap.size := fun h => by have := hT _ _ _ hiW _ _ h (Nat.le_refl _) hk; simp [Obj.isCells] at this
      rw [hWb]
      refine wpIn_mono (hbody _ T pre x W.heap.size Wb hi2 hlen (by omega)) ?_
      rintro e a3 W3 ⟨rfl, T', hR, hi3⟩
      have hl3 := (hR.same _ (by omega) ht1).trans hl2
      have hk3 := (hR.same _ (by omega) ht0).trans hk2
      have hr := run_endRound (P := P) none hl3
      rw [hrec] at hr hl3
      refine ⟨_, _, hr, rfl, T', ⟨?_, ?_, ?_, ?_⟩, hIput _ _ _ _ _ _ hi3 (by omega) hl3 rfl, ?_, ?_⟩
      · have := hR.size; simp; omega
      · intro k hk' hTk
        by_cases hke : k = w.heap.size + 1
        · subst hke
          rw [World.putObj_heap_same (Array.getElem?_eq_some_iff.1 hl3).1, hl, hrec]
          rfl
        · rw [World.putObj_heap_other hke, hR.same k hk' hTk, hoth k hke, hBA.block k hk']
      · intro k hk'; exact hR.own k hk'
      · intro k hk'; have := hR.lt k hk'; simp; omega
      · rw [hrec]; exact World.putObj_heap_same (Array.getElem?_eq_some_iff.1 hl3).1
      · exact (World.putObj_heap_other (by omega)).trans hk3
    · rintro e W2 ⟨⟨v, rfl⟩, T, xs, W0, hS, ⟨hi, hl, hk⟩, hB⟩
      have hl2 := (hB.block _ (Array.getElem?_eq_some_iff.1 hl).1).trans hl
      have hk2 := (hB.block _ (Array.getElem?_eq_some_iff.1 hk).1).trans hk
      exact ⟨none, _, by have := run_endLoop (P := P) hl2 (by rw [hrec]; simp); rw [hrec] at this; exact this, hdone _ T xs _ (Nat.le_refl _) hS (hIput _ _ _ _ _ _ (hIb _ _ _ _ hi hB) (by omega) hl2 rfl) ((World.putObj_heap_other (by omega)).trans hk2)⟩

/-! ### a region of a round -/
/-- No operation of the region is a defer. -/
def noDefer (o : Oper) : Bool := match o.op with | .defer _ => false | _ => true
theorem noDefer_ne {o : Oper} (h : noDefer o = true) : ∀ c, o.op ≠ .defer c := by
  intro c e; unfold noDefer at h; rw [e] at h; cases h
/-- Q at its normal exit alone. -/
def NormQ (Q : Exit → Act → World → Prop) (e : Exit) (a : Act) (w : World) : Prop := e = .normal ∧ Q .normal a w
theorem wpOpsIn_of {P : Program} {ops : Array Oper} {Q : Exit → Act → World → Prop} {l n : Nat} (hd : ∀ (i : Nat) (o : Oper), ops[i]? = some o → noDefer o = true) :
    ∀ (L : List Nat) (a : Act) (w : World), wpOps P ops (NormQ Q) L a w → wpOpsIn (Fence.wide.inRound l) n P ops (NormQ Q) L a w
  | [], a, w, h => h
  | i :: rest, a, w, h => by
    have ih := wpOpsIn_of (P := P) (l := l) (n := n) (Q := Q) hd rest
    simp only [wpOps] at h
    simp only [wpOpsIn]
    cases ho : ops[i]? with
    | none => simp only [ho] at h ⊢; exact ih _ _ h
    | some o =>
      simp only [ho] at h ⊢
      split
      · rename_i hw
        rw [if_pos hw] at h
        rcases h with h | ⟨_, a0, w0, h⟩
        · refine ⟨fun _ _ => trivial, ?_⟩
          rw [Oper.semAt_plain _ _ _ (noDefer_ne (hd i o ho))]
          unfold Oper.wp at h
          generalize (execOp a.eval o).run P w = r at h
          cases r with
          | ok x w' =>
            cases x with
            | value v => exact ih _ _ h
            | skip => exact ih _ _ h
            | defer d => exact ih _ _ h
            | enter f args =>
              refine ⟨(fun hz => nomatch hz), CallsIn.inRound l (callsIn_wide.2 (h.mono fun e w'' he => ?_))⟩
              cases e with
              | returned v => exact ih _ _ he
              | panicked chain => exact he
              | outgrown => exact he
            | row row args =>
              exact ⟨(fun hz => nomatch hz), fun c cs _ => let ⟨v, w'', r, s⟩ := h c cs; ⟨v, w'', ih _ _ r, stepsIn_wide.2 s⟩⟩
            | _ => exact h.elim
          | halt x w' => cases x <;> exact h
        · cases h.1
      · rename_i hw
        rw [if_neg hw] at h
        exact ⟨fun _ _ => trivial, ih _ _ h⟩
theorem noDefer_all {ops : Array Oper} (h : ops.all noDefer = true) : ∀ (i : Nat) (o : Oper), ops[i]? = some o → noDefer o = true := fun i o e => by
  obtain ⟨hi, e⟩ := Array.getElem?_eq_some_iff.1 e
  rw [← e]; exact Array.all_eq_true.1 h i hi
/-- THE REGION OF A ROUND: as 'wp_region_held', inside a round. -/
theorem wpIn_region_heldR {P : Program} {ops : Array Oper} {Q : Exit → Act → World → Prop} {S : World → Prop} {l n id : Nat} {a : Act} {w : World} (hm : P.follows .mixedOrders = true) (hd : ops.all noDefer = true)
    (h : wpAnyH P .any ops (NormQ Q) S ops.size (Array.replicate ops.size false) a w.drew) : (Code.region id ops true).wpIn (Fence.wide.inRound l) n P Q a w :=
  wpIn_mono (Q := NormQ Q) (wpIn_region_draw fun t => by
    simp only [Region.schedule, hm, Bool.true_or, if_true]
    exact wpOpsIn_of (noDefer_all hd) _ _ _ (wpAny_sound ops.size t _ a _ (wpAny_of_held _ _ _ _ h))) (by rintro e a w ⟨rfl, h⟩; exact h)
theorem NormQ.hq {Q : Exit → Act → World → Prop} {oi : Oper} {v : Value} : ∀ c a w, NormQ Q (.panic c) (a.put oi.dst v) w → NormQ Q (.panic c) a w := fun _ _ _ h => by cases h.1
end Go.Proofs.Ytjiacdihfbbfjaa

/- slices.Sort on an own row of ints. -/
namespace Go.Proofs.Ytjiacdihfbbfjaa
open Go.RowKit

def sortI (l : List Int) : List Int := l.mergeSort fun x y => decide (x ≤ y)
theorem sortI_len (l : List Int) : (sortI l).length = l.length := List.length_mergeSort l
theorem mem_sortI {l : List Int} {x : Int} : x ∈ sortI l ↔ x ∈ l := (List.mergeSort_perm l _).mem_iff
theorem sortI_le (l : List Int) : (sortI l).Pairwise (· ≤ ·) := by
  have h := List.pairwise_mergeSort (le := fun x y : Int => decide (x ≤ y)) (by intro a b c h1 h2; simp at *; omega) (by intro a b; simp; omega) l
  exact h.imp fun h => by simpa using h
theorem sortI_lt {l : List Int} (h : l.Nodup) : (sortI l).Pairwise (· < ·) := by
  have h1 := sortI_le l
  have h2 : (sortI l).Nodup := (List.mergeSort_perm l _).nodup_iff.2 h
  exact List.Pairwise.imp (fun ⟨a, b⟩ => by omega) (List.Pairwise.and h1 h2)
theorem World.grownBy_refl (w : World) (r : Option Nat) : w.grownBy w r := ⟨rfl, rfl, rfl, Nat.le_refl _, fun _ _ _ => rfl⟩

open Go.Sort in
theorem sort_own {W : World} {base : Nat} {v : Value} {l : List Int} (h : OwnInts W base 3 v l) (hl : l.length ≤ 1000000) :
    Calls Try.prog 76 #[v] W fun e w' => e = .returned (.tuple #[]) ∧ OwnInts w' base 3 v (sortI l) ∧ W.grownBy w' v.ownBlock := by
  have h' := h
  unfold OwnInts at h'
  rcases h'.2 with ⟨rfl, h0⟩ | ⟨g, cap, cur, rfl, hg, hb, hn, hm, hs, ht⟩
  · have e0 : l = [] := List.eq_nil_of_length_eq_zero h0
    subst e0
    refine (Try.slices_Sort_int_none none 0 W).mono fun e w' ⟨he, hw⟩ => ?_
    subst hw
    exact ⟨he, by simpa [sortI] using h, World.grownBy_refl _ _⟩
  · have hlt : g < W.heap.size := (Array.getElem?_eq_some_iff.1 hb).1
    have hH : Holds (Value.int .i64) W g 0 l.toArray := fun j hj => by
      have hj' : j < l.length := by simpa using hj
      refine ⟨?_, h'.frozenAt (0 + j)⟩
      rw [Nat.zero_add, h'.cellAt j (by omega)]
      simp [hj']
    refine (Try.slices_Sort_int g 0 cap l W hH hlt (by omega)).mono fun e w' ⟨he, n, os, hw⟩ => ?_
    have hblk : w'.heap[g]? = some (.cells (putCells (Value.int .i64) 0 (sortI l).toArray cur) 3 (0, 0)) := by
      rw [hw, heap_grow_old _ _ (by simpa using hlt)]
      simp [putRow, mapBlock, Go.Sort.ahead, Array.getElem?_modify, hb, onCells, sortI]
    refine ⟨he, ?_, ?_⟩
    · refine ⟨by simp, .inr ⟨g, cap, putCells (Value.int .i64) 0 (sortI l).toArray cur, by rw [sortI_len], hg, hblk, by rw [sortI_len]; exact hn, hm, by simp [putCells, hs], ?_⟩⟩
      apply List.ext_getElem?
      intro i
      by_cases hi : i < l.length
      · have hi2 : i < (sortI l).length := by rw [sortI_len]; exact hi
        have hic : i < cur.size := by omega
        rw [List.getElem?_take, if_pos (by omega), Array.getElem?_toList]
        simp [putCells, hic, hi2]
      · rw [List.getElem?_eq_none (by rw [List.length_take, sortI_len]; omega), List.getElem?_eq_none (by rw [List.length_map, sortI_len]; omega)]
    · refine ⟨by rw [hw]; rfl, by rw [hw]; rfl, by rw [hw]; rfl, by rw [hw]; simp [Go.Sort.ahead], fun k hk hne => ?_⟩
      have hkg : g ≠ k := fun e => hne (by rw [e]; rfl)
      rw [hw, heap_grow_old _ _ (by simpa using hk)]
      simp [putRow, mapBlock, Go.Sort.ahead, Array.getElem?_modify, hkg]
end Go.Proofs.Ytjiacdihfbbfjaa

