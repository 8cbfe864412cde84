/- A range over a function, the caller's own blocks being what they may; a region of a round that draws its order and holds no call of a Go function. No program in sight. -/
import Derived.Test.YtjiacdihfbbfjaaTold
import Derived.Deep.RegionHeld3
import Derived.OwnWalkIn
import Derived.RangeFuncNested
import Derived.RangeFuncBound
import Derived.RangeFuncCalls
import Derived.RangeFuncLeaves
import Derived.Shelf.Abstract
import Derived.Shelf.RegionOpen
import Derived.WalkKit
import Derived.TacticsInMore
import Derived.LoopNIn
import Derived.LoopIn
import Derived.Maps.OwnIn
import Derived.Laws.MakeOwn
import Derived.Sort.QuietIn
import Derived.Outline
import Derived.Test.YtjiacdihfbbfjaaGCell
import Derived.WalkSpells
import Derived.WalkLawsBesides
import Derived.Deep.LoopGhost
import Derived.Deep.QuietTactic
import Derived.BigQuiet
import Derived.StillTailTactics
import Derived.Lib.Hide
import Derived.Lib.QuietBelow
import Derived.Test.YtjiacdihfbbfjaaSl
import Derived.DeepKeys5
import Derived.Maps.OwnSet
import Derived.Test.YtjiacdihfbbfjaaBase
import Derived.Test.YtjiacdihfbbfjaaPm
import Derived.Test.YtjiacdihfbbfjaaRNbX
import Derived.Test.YtjiacdihfbbfjaaMovEq
namespace Go.Proofs.Ytjiacdihfbbfjaa
open Go.RowKit

/-- The iterator's contract, told also what has come so far. -/
def SeqTold3 {α : Type} (F : Fence) (n : Nat) (P : Program) (g : Nat) (lb : Array Value) (encs : α → Array Value) (V : List α → α → World → World → Prop) (S : List α → Prop) (N : Nat) (R : Nat → Prop) (w : World) : Prop :=
  ∀ (l : Nat) (T0 : Nat → Prop) (J : (Nat → Prop) → List α → World → Prop) (W : World), Below w.heap.size w W → (∀ k, T0 k → k < W.heap.size) → (∀ k, T0 k → ¬ R k) →
    (∀ T pre x W0 W1, J T pre W0 → Below W0.heap.size W0 W1 → V pre x W0 W1 → pre.length < N → YieldAt F (n - 1) P l (encs x) W1 fun e W' => e = .returned (.bool true) ∧ ∃ T', RoundKeeps T T' W1 W' ∧ J T' (pre ++ [x]) W') →
    J T0 [] W →
    CallsIn F n P g (#[.func (.yield l) #[] #[]] ++ lb) W fun e W' => (∃ v, e = .returned v) ∧ ∃ T xs W0, S xs ∧ J T xs W0 ∧ Below W0.heap.size W0 W'
/-- What a round that goes on pays, s being the heap's size before the round's own variables were made. -/
structure KeepAt (s : Nat) (T T' : Nat → Prop) (V W' : World) : Prop where
  size : s ≤ W'.heap.size
  same : ∀ k, k < s → ¬ T k → W'.heap[k]? = V.heap[k]?
  own : ∀ k, T' k → T k ∨ s ≤ k
  lt : ∀ k, T' k → k < W'.heap.size

variable {F : Fence} {n : Nat} {P : Program} {w : World}

/-- THE CALLER's LAW; the round's variables may be made anew. -/
theorem wpIn_rangeFunc_told3 {α : Type} {g : Operand} {ps : Array Tmp} {assign body : Code} {Q : Exit → Act → World → Prop} {a : Act}
    (hro : F.round = none) (h1 : 1 ≤ n) {gf : Nat} {lb : Array Value} (hg : a.eval g = .func (.func gf) #[] lb) (hFg : F.fn gf) (eg : ∀ args w, (callFunc gf args).run P w = .ok (.enter gf args) w)
    {encs : α → Array Value} {V : List α → α → World → World → Prop} {S : List α → Prop} {N : Nat} {R : Nat → Prop} {w0 : World} (hseq : SeqTold3 F (n - 1) P gf lb encs V S N R w0) (hb0 : Below w0.heap.size w0 w) (hps : ∀ x, ps.size = (encs x).size)
    (T0 : Nat → Prop) (hT0 : ∀ k, T0 k → ¬ R k) (hTw : ∀ k, T0 k → k < w.heap.size)
    (I : (Nat → Prop) → List α → World → Prop) (IV : (Nat → Prop) → List α → α → Nat → World → Prop)
    (hIput : ∀ T pre W l o o', I T pre W → w.heap.size ≤ l → W.heap[l]? = some o → o.isCells = false → I T pre (W.putObj l o'))
    (hVput : ∀ T pre x s W l o o', IV T pre x s W → w.heap.size ≤ l → l < s → W.heap[l]? = some o → o.isCells = false → IV T pre x s (W.putObj l o'))
    (hIb : ∀ T pre W W', I T pre W → Below W.heap.size W W' → I T pre W')
    (a₁ : α → Nat → Act) (wA : α → World → World) (hwA : ∀ x W, Below W.heap.size W (wA x W))
    (hV : ∀ T pre x W0 W1, I T pre W0 → Below W0.heap.size W0 W1 → V pre x W0 W1 → pre.length < N → w.heap.size ≤ W1.heap.size → IV T pre x W1.heap.size (wA x W1))
    (hT : ∀ T pre W, I T pre W → ∀ k o, T k → w.heap.size ≤ k → W.heap[k]? = some o → o.isCells = true)
    (h0 : I T0 [] w)
    (hassign : ∀ (l : Nat) (x : α) (W : World) (K : Act → World → Prop), K (a₁ x W.heap.size) (wA x W) → assign.wpIn (F.inRound l) (n - 1 - 1) P (Exit.then K (fun _ _ _ => False)) { tmps := (ps.zip (encs x)).foldl (fun t (p, v) => t.setIfInBounds p v) a.tmps, defers := [] } W)
    (hbody : ∀ (l : Nat) (T : Nat → Prop) (pre : List α) (x : α) (s : Nat) (W : World), IV T pre x s W → pre.length < N → w.heap.size ≤ s → body.wpIn (F.inRound l) (n - 1 - 1) P (fun e _ W' => e = .normal ∧ ∃ T', KeepAt s T T' W W' ∧ I T' (pre ++ [x]) W') (a₁ x s) W)
    (hdone : ∀ (D : Nat) (T : Nat → Prop) (xs : List α) (W : World), w.heap.size ≤ D → S xs → I T xs W → W.heap[D]? = some (.deferred (some [])) → Q .normal { a with defers := { target := .collected D, args := #[] } :: a.defers } W) :
    (Code.rangeFunc g ps assign body).wpIn F n P Q a w := by
  refine wpIn_rangeFunc ?_
  intro fn hfn
  rw [hro]
  obtain ⟨rec, hrec⟩ : ∃ rec : LoopState → Option Code → Loop, rec = fun st pe => { state := st, pending := pe, fn, tmps := a.tmps, params := ps, assign, body, defers := w.heap.size } := ⟨_, rfl⟩
  obtain ⟨W1, hW1⟩ : ∃ W1, (w.alloc (.deferred (some []))).alloc (.loop (rec .ready none)) = W1 := ⟨_, rfl⟩
  have hbw : Below w.heap.size w W1 := by rw [← hW1]; exact (((Below.refl _ w).alloc (Nat.le_refl _) _).alloc (by simp) _)
  have hL1 : W1.heap[w.heap.size + 1]? = some (.loop (rec .ready none)) := by
    rw [← hW1]; have := World.alloc_heap_new (w.alloc (.deferred (some []))) (.loop (rec .ready none)); rwa [World.size_alloc] at this
  have hK1 : W1.heap[w.heap.size]? = some (.deferred (some [])) := by
    rw [← hW1]; exact (Below.heap_alloc _ _ _ (by simp)).trans (World.alloc_heap_new w _)
  refine ⟨w.heap.size + 1, [{ target := .collected w.heap.size, args := #[] }], W1, { target := .fn (.func gf) lb, args := #[.func (.yield (w.heap.size + 1)) #[] #[]] }, W1, gf,
    #[.func (.yield (w.heap.size + 1)) #[] #[]] ++ lb, W1, ?_, ?_, ?_, ?_, fun _ => h1, ?_⟩
  · rw [← hW1, hrec]; exact run_enterLoop_outer _ _ _ _ _
  · simp only [resolve, hg]
    simp [go_sem]
  · intro f' hf'; simp [Target.leads] at hf'; subst hf'; exact hFg
  · simp [invoke, go_sem, eg]
  · refine (hseq (w.heap.size + 1) T0 (fun T pre W => I T pre W ∧ W.heap[w.heap.size + 1]? = some (.loop (rec .ready none)) ∧ W.heap[w.heap.size]? = some (.deferred (some []))) W1 (hb0.trans (hbw.mono hb0.size))
      (fun k hk => Nat.lt_of_lt_of_le (hTw k hk) hbw.size) hT0 ?_ ⟨hIb _ _ _ _ h0 hbw, hL1, hK1⟩).mono ?_
    · rintro T pre x W0 W ⟨hi0, hl0, hk0⟩ hB hv hlen
      have hl := (hB.block _ (Array.getElem?_eq_some_iff.1 hl0).1).trans hl0
      have hk := (hB.block _ (Array.getElem?_eq_some_iff.1 hk0).1).trans hk0
      have hlt : w.heap.size + 1 < W.heap.size := (Array.getElem?_eq_some_iff.1 hl).1
      have hiW := hIb _ _ _ _ hi0 hB
      have hi := hV _ _ _ _ _ hi0 hB hv hlen (by omega)
      have hBA := hwA x W
      have hsA := hBA.size
      have hlA := (hBA.block _ hlt).trans hl
      have hkA := (hBA.block _ (by omega)).trans hk
      have hy := run_yield (P := P) (args := encs x) hl (by rw [hrec]; exact (hps x).symm)
      rw [hrec] at hy
      refine ⟨fn, _, assign, body, hy, roundIn_of_wpIn hfn (hassign _ x W _ ?_)⟩
      clear hy
      refine ⟨_, run_beginRound hlA (by rw [hrec]), ?_⟩
      obtain ⟨Wb, hWb⟩ : ∃ Wb, (wA x W).putObj (w.heap.size + 1) (.loop { rec .ready none with state := .busy }) = Wb := ⟨_, rfl⟩
      have hsz : Wb.heap.size = (wA x W).heap.size := by rw [← hWb]; simp
      have hl2 : Wb.heap[w.heap.size + 1]? = some (.loop { rec .ready none with state := .busy }) := by rw [← hWb]; exact World.putObj_heap_same (by omega)
      have hk2 : Wb.heap[w.heap.size]? = some (.deferred (some [])) := by rw [← hWb]; exact (World.putObj_heap_other (by omega)).trans hkA
      have hi2 : IV T pre x W.heap.size Wb := by rw [← hWb]; exact hVput _ _ _ _ _ _ _ _ hi (by omega) hlt hlA rfl
      have hoth : ∀ k, k ≠ w.heap.size + 1 → Wb.heap[k]? = (wA x W).heap[k]? := fun k hne => by rw [← hWb]; exact World.putObj_heap_other hne
      have ht1 : ¬ T (w.heap.size + 1) := fun h => by have := hT _ _ _ hiW _ _ h (by omega) hl; simp [Obj.isCells] at this
      have ht0 : ¬ T w.heap.size := fun h => by have := hT _ _ _ hiW _ _ h (Nat.le_refl _) hk; simp [Obj.isCells] at this
      rw [hWb]
      refine wpIn_mono (hbody _ T pre x W.heap.size Wb hi2 hlen (by omega)) ?_
      rintro e a3 W3 ⟨rfl, T', hR, hi3⟩
      have hl3 := (hR.same _ (by omega) ht1).trans hl2
      have hk3 := (hR.same _ (by omega) ht0).trans hk2
      have hr := run_endRound (P := P) none hl3
      rw [hrec] at hr hl3
      refine ⟨_, _, hr, rfl, T', ⟨?_, ?_, ?_, ?_⟩, hIput _ _ _ _ _ _ hi3 (by omega) hl3 rfl, ?_, ?_⟩
      · have := hR.size; simp; omega
      · intro k hk' hTk
        by_cases hke : k = w.heap.size + 1
        · subst hke
          rw [World.putObj_heap_same (Array.getElem?_eq_some_iff.1 hl3).1, hl, hrec]
          rfl
        · rw [World.putObj_heap_other hke, hR.same k hk' hTk, hoth k hke, hBA.block k hk']
      · intro k hk'; exact hR.own k hk'
      · intro k hk'; have := hR.lt k hk'; simp; omega
      · rw [hrec]; exact World.putObj_heap_same (Array.getElem?_eq_some_iff.1 hl3).1
      · exact (World.putObj_heap_other (by omega)).trans hk3
    · rintro e W2 ⟨⟨v, rfl⟩, T, xs, W0, hS, ⟨hi, hl, hk⟩, hB⟩
      have hl2 := (hB.block _ (Array.getElem?_eq_some_iff.1 hl).1).trans hl
      have hk2 := (hB.block _ (Array.getElem?_eq_some_iff.1 hk).1).trans hk
      exact ⟨none, _, by have := run_endLoop (P := P) hl2 (by rw [hrec]; simp); rw [hrec] at this; exact this, hdone _ T xs _ (Nat.le_refl _) hS (hIput _ _ _ _ _ _ (hIb _ _ _ _ hi hB) (by omega) hl2 rfl) ((World.putObj_heap_other (by omega)).trans hk2)⟩

/-! ### a region of a round -/
/-- No operation of the region is a defer. -/
def noDefer (o : Oper) : Bool := match o.op with | .defer _ => false | _ => true
theorem noDefer_ne {o : Oper} (h : noDefer o = true) : ∀ c, o.op ≠ .defer c := by
  intro c e; unfold noDefer at h; rw [e] at h; cases h
/-- Q at its normal exit alone. -/
def NormQ (Q : Exit → Act → World → Prop) (e : Exit) (a : Act) (w : World) : Prop := e = .normal ∧ Q .normal a w
theorem wpOpsIn_of {P : Program} {ops : Array Oper} {Q : Exit → Act → World → Prop} {l n : Nat} (hd : ∀ (i : Nat) (o : Oper), ops[i]? = some o → noDefer o = true) :
    ∀ (L : List Nat) (a : Act) (w : World), wpOps P ops (NormQ Q) L a w → wpOpsIn (Fence.wide.inRound l) n P ops (NormQ Q) L a w
  | [], a, w, h => h
  | i :: rest, a, w, h => by
    have ih := wpOpsIn_of (P := P) (l := l) (n := n) (Q := Q) hd rest
    simp only [wpOps] at h
    simp only [wpOpsIn]
    cases ho : ops[i]? with
    | none => simp only [ho] at h ⊢; exact ih _ _ h
    | some o =>
      simp only [ho] at h ⊢
      split
      · rename_i hw
        rw [if_pos hw] at h
        rcases h with h | ⟨_, a0, w0, h⟩
        · refine ⟨fun _ _ => trivial, ?_⟩
          rw [Oper.semAt_plain _ _ _ (noDefer_ne (hd i o ho))]
          unfold Oper.wp at h
          generalize (execOp a.eval o).run P w = r at h
          cases r with
          | ok x w' =>
            cases x with
            | value v => exact ih _ _ h
            | skip => exact ih _ _ h
            | defer d => exact ih _ _ h
            | enter f args =>
              refine ⟨(fun hz => nomatch hz), CallsIn.inRound l (callsIn_wide.2 (h.mono fun e w'' he => ?_))⟩
              cases e with
              | returned v => exact ih _ _ he
              | panicked chain => exact he
              | outgrown => exact he
            | row row args =>
              exact ⟨(fun hz => nomatch hz), fun c cs _ => let ⟨v, w'', r, s⟩ := h c cs; ⟨v, w'', ih _ _ r, stepsIn_wide.2 s⟩⟩
            | _ => exact h.elim
          | halt x w' => cases x <;> exact h
        · cases h.1
      · rename_i hw
        rw [if_neg hw] at h
        exact ⟨fun _ _ => trivial, ih _ _ h⟩
theorem noDefer_all {ops : Array Oper} (h : ops.all noDefer = true) : ∀ (i : Nat) (o : Oper), ops[i]? = some o → noDefer o = true := fun i o e => by
  obtain ⟨hi, e⟩ := Array.getElem?_eq_some_iff.1 e
  rw [← e]; exact Array.all_eq_true.1 h i hi
/-- THE REGION OF A ROUND: as 'wp_region_held', inside a round. -/
theorem wpIn_region_heldR {P : Program} {ops : Array Oper} {Q : Exit → Act → World → Prop} {S : World → Prop} {l n id : Nat} {a : Act} {w : World} (hm : P.follows .mixedOrders = true) (hd : ops.all noDefer = true)
    (h : wpAnyH P .any ops (NormQ Q) S ops.size (Array.replicate ops.size false) a w.drew) : (Code.region id ops true).wpIn (Fence.wide.inRound l) n P Q a w :=
  wpIn_mono (Q := NormQ Q) (wpIn_region_draw fun t => by
    simp only [Region.schedule, hm, Bool.true_or, if_true]
    exact wpOpsIn_of (noDefer_all hd) _ _ _ (wpAny_sound ops.size t _ a _ (wpAny_of_held _ _ _ _ h))) (by rintro e a w ⟨rfl, h⟩; exact h)
theorem NormQ.hq {Q : Exit → Act → World → Prop} {oi : Oper} {v : Value} : ∀ c a w, NormQ Q (.panic c) (a.put oi.dst v) w → NormQ Q (.panic c) a w := fun _ _ _ h => by cases h.1
end Go.Proofs.Ytjiacdihfbbfjaa

/- grids.spots and its iterator. -/
namespace Go.Proofs.Ytjiacdihfbbfjaa
open Go.RowKit Go.Shelf
attribute [local go_sem] Oper.semAt_some

theorem spots_any (cs : Array Value) (_ : cs.size = 5) (W : World) :
    Calls Try.prog 75 #[.agg cs] W fun e w' => e = .returned (.func (.func 98) #[] #[.pointer (some ⟨W.heap.size, 0, none⟩)]) ∧ w' = W.alloc (.cells cs 24) := by
  go_enter Try.func75, Try.ntmps75
  go_wp2
  go_ret
  exact ⟨rfl, rfl⟩

abbrev Sp := Nat × (Int × Int)
def spEnc (x : Sp) : Array Value := #[.int .i64 x.1, .agg #[.int .i64 x.2.1, .int .i64 x.2.2]]
def spotsUpto (g : Grid) (k : Nat) : List Sp := (List.range k).map fun c => (c, plc g c)
theorem spotsUpto_succ (g : Grid) (k : Nat) : spotsUpto g (k + 1) = spotsUpto g k ++ [(k, plc g k)] := by unfold spotsUpto; rw [List.range_succ]; simp
theorem spotsUpto_len (g : Grid) (k : Nat) : (spotsUpto g k).length = k := by unfold spotsUpto; simp

set_option maxRecDepth 20000 in
set_option maxHeartbeats 2000000 in
theorem spots1_told (g : Grid) (b : Nat) (ah ac : Option Addr) (nh ch nc cc : Nat) (W : World)
    (hb : Box W b #[.int .i64 g.shape, .int .i64 g.w, .int .i64 g.h, .slice ah nh ch, .slice ac nc cc] 24) (hI : Ints W ac nc cc g.cells) (hw : 1 ≤ g.w ∧ g.w ≤ 16) (hc : ∀ x ∈ g.cells, 0 ≤ x ∧ x < 256) (hn : nc ≤ 256) :
    SeqTold3 Fence.wide 5 Try.prog 98 #[.pointer (some ⟨b, 0, none⟩)] spEnc (fun pre x _ _ => pre = spotsUpto g pre.length ∧ pre.length < nc ∧ x = (pre.length, plc g pre.length)) (fun xs => xs = spotsUpto g nc) nc (fun k => k = b ∨ ∃ o, ac = some ⟨k, o, none⟩) W := by
  intro l T0 J W1 hB hT hR hY h0
  have hbl : b < W1.heap.size := (hb.below hB).lt
  have hT0 : ∀ q, T0 q → q < W1.heap.size := hT
  obtain ⟨d0, d1, d2, d3, d4⟩ := (hb.below hB).g5
  have hcc := hI.cap
  have hmc := hI.mx
  unfold maxLen at hmc
  refine callsIn_of_wp Try.func98 rfl trivial ?_ rfl
  simp only [Try.ntmps98, List.size_toArray, List.length_cons, List.length_nil, Nat.reduceAdd, Nat.reduceSub, Array.replicate_succ, Array.replicate_zero, List.push_toArray, List.append_toArray, List.nil_append, List.cons_append]
  gi_wp2
  gi_loopw [10] (fun c wr => ∃ (k : Nat) (T : Nat → Prop) (pre : List Sp) (W0 : World), k ≤ nc ∧ c = .int .i64 k ∧ J T pre W0 ∧ Below W0.heap.size W0 wr ∧ Hid (pre = spotsUpto g k) ∧ (∀ q, T q → T0 q ∨ W1.heap.size ≤ q) ∧ Hid (∀ q, q < W1.heap.size → ¬ T0 q → wr.heap[q]? = W1.heap[q]?) ∧ W1.heap.size ≤ wr.heap.size) (fun c _ => nc - (intOf c).toNat)
  case atStart => exact ⟨0, T0, [], W1, by omega, rfl, h0, Below.refl _ _, Lib.hid rfl, fun q h => .inl h, Lib.hid (fun _ _ _ => rfl), Nat.le_refl _⟩
  case round =>
    clear d0 d1 d2 d3 d4
    obtain ⟨k, T, pre, W0, hk, rfl, hJ, hB0, HI, hTq, HK, hs6⟩ := hrel
    by_cases hlt : k < nc
    · have hgb : Box wr b #[.int .i64 g.shape, .int .i64 g.w, .int .i64 g.h, .slice ah nh ch, .slice ac nc cc] 24 := (HK.out b hbl (fun h => hR b h (.inl rfl))).trans (hb.below hB)
      obtain ⟨d0, d1, d2, d3, d4⟩ := hgb.g5
      obtain ⟨cb, co, rfl, hcb⟩ := (hI.below hB).at' (by omega)
      have hx : wr.cell? ⟨cb, co + k, none⟩ = some (.int .i64 (g.cells[k]?.getD 0)) := (World.cell?_of_block (w := W1) (HK.out cb hcb (fun h => hR cb h (.inr ⟨co, rfl⟩)))).trans ((hI.below hB).cell cb co rfl k hlt)
      have hx0 := hc _ (getD_mem g.cells k (by rw [hI.len]; exact hlt))
      have HP : Hid (plc g k = placeOf g (g.cells[k]?.getD 0)) := Lib.hid rfl
      obtain ⟨pos, hpos⟩ : ∃ pos, g.cells[k]?.getD 0 = pos := ⟨_, rfl⟩
      obtain ⟨w, hwe⟩ : ∃ w, g.w = w := ⟨_, rfl⟩
      have HWE := Lib.hid hwe
      rw [hpos] at hx hx0 HP
      rw [hwe] at d1
      have hw' := hw
      rw [hwe] at hw'
      have hz : (w == 0) = false := by rw [beq_eq_false_iff_ne]; omega
      have q1 : 0 ≤ pos / w := Int.ediv_nonneg hx0.1 (by omega)
      have q2 : pos / w ≤ pos := Int.ediv_le_self _ hx0.1
      have q3 : 0 ≤ pos % w := Int.emod_nonneg _ (by omega)
      have q4 : pos % w < w := Int.emod_lt_of_pos _ (by omega)
      have k1 : (k : Int) < (nc : Int) := by omega
      have hlen : pre.length < nc := by rw [HI.out, spotsUpto_len]; exact hlt
      clear hpos hwe hgb
      by_cases hs : g.shape = 2
      · have ts : (g.shape == 2) = true := by rw [hs]; rfl
        have HPE : Hid (plc g k = (pos % w - pos / w / 2, pos / w)) := Lib.hid (by rw [HP.out]; unfold placeOf; rw [if_pos hs, HWE.out])
        clear hs
        gi_wp2
        gi_quiet (fail)
        obtain ⟨fn, tmps, assign, body, hy, hR'⟩ := hY T pre (k, plc g k) W0 (wr.drewN nq) hJ (below_drewN hB0 nq) (by have hl : pre.length = k := (by rw [HI.out, spotsUpto_len]); exact ⟨by rw [hl]; exact HI.out, by omega, by rw [hl]⟩) hlen
        simp only [spEnc, HPE.out] at hy
        gi_wp2
        refine hR'.mono ?_
        rintro e W' ⟨rfl, T', hRK, hJ'⟩
        clear hy hR'
        gi_wp2
        go_roundw
        case rel =>
          refine ⟨k + 1, T', _, W', by omega, by go_num, hJ', Below.refl _ _, Lib.hid (by rw [spotsUpto_succ, HI.out]), fun q hq => ?_, Lib.hid fun q h1 h2 => ?_, Nat.le_trans hs6 (by have := hRK.size; simpa using this)⟩
          · rcases hRK.own q hq with h | h
            · exact hTq q h
            · exact .inr (by simp at h; omega)
          · rw [hRK.same q (by simp; omega) (fun h => (hTq q h).elim h2 (fun h3 => by omega))]
            exact HK.out q h1 h2
        case measure => simp [intOf]; omega
      · have ts : (g.shape == 2) = false := by rw [beq_eq_false_iff_ne]; exact hs
        have HPE : Hid (plc g k = (pos % w, pos / w)) := Lib.hid (by rw [HP.out]; unfold placeOf; rw [if_neg hs, HWE.out])
        clear hs
        gi_wp2
        gi_quiet (fail)
        obtain ⟨fn, tmps, assign, body, hy, hR'⟩ := hY T pre (k, plc g k) W0 (wr.drewN nq) hJ (below_drewN hB0 nq) (by have hl : pre.length = k := (by rw [HI.out, spotsUpto_len]); exact ⟨by rw [hl]; exact HI.out, by omega, by rw [hl]⟩) hlen
        simp only [spEnc, HPE.out] at hy
        gi_wp2
        refine hR'.mono ?_
        rintro e W' ⟨rfl, T', hRK, hJ'⟩
        clear hy hR'
        gi_wp2
        go_roundw
        case rel =>
          refine ⟨k + 1, T', _, W', by omega, by go_num, hJ', Below.refl _ _, Lib.hid (by rw [spotsUpto_succ, HI.out]), fun q hq => ?_, Lib.hid fun q h1 h2 => ?_, Nat.le_trans hs6 (by have := hRK.size; simpa using this)⟩
          · rcases hRK.own q hq with h | h
            · exact hTq q h
            · exact .inr (by simp at h; omega)
          · rw [hRK.same q (by simp; omega) (fun h => (hTq q h).elim h2 (fun h3 => by omega))]
            exact HK.out q h1 h2
        case measure => simp [intOf]; omega
    · obtain rfl : k = nc := by omega
      gi_wp2
      go_end0
      exact ⟨⟨_, rfl⟩, T, pre, W0, HI.out, hJ, hB0⟩
end Go.Proofs.Ytjiacdihfbbfjaa

/- slices.Sort on an own row of ints. -/
namespace Go.Proofs.Ytjiacdihfbbfjaa
open Go.RowKit

def sortI (l : List Int) : List Int := l.mergeSort fun x y => decide (x ≤ y)
theorem sortI_len (l : List Int) : (sortI l).length = l.length := List.length_mergeSort l
theorem mem_sortI {l : List Int} {x : Int} : x ∈ sortI l ↔ x ∈ l := (List.mergeSort_perm l _).mem_iff
theorem sortI_le (l : List Int) : (sortI l).Pairwise (· ≤ ·) := by
  have h := List.pairwise_mergeSort (le := fun x y : Int => decide (x ≤ y)) (by intro a b c h1 h2; simp at *; omega) (by intro a b; simp; omega) l
  exact h.imp fun h => by simpa using h
theorem sortI_lt {l : List Int} (h : l.Nodup) : (sortI l).Pairwise (· < ·) := by
  have h1 := sortI_le l
  have h2 : (sortI l).Nodup := (List.mergeSort_perm l _).nodup_iff.2 h
  exact List.Pairwise.imp (fun ⟨a, b⟩ => by omega) (List.Pairwise.and h1 h2)
theorem World.grownBy_refl (w : World) (r : Option Nat) : w.grownBy w r := ⟨rfl, rfl, rfl, Nat.le_refl _, fun _ _ _ => rfl⟩

open Go.Sort in
theorem sort_own {W : World} {base : Nat} {v : Value} {l : List Int} (h : OwnInts W base 3 v l) (hl : l.length ≤ 1000000) :
    Calls Try.prog 76 #[v] W fun e w' => e = .returned (.tuple #[]) ∧ OwnInts w' base 3 v (sortI l) ∧ W.grownBy w' v.ownBlock := by
  have h' := h
  unfold OwnInts at h'
  rcases h'.2 with ⟨rfl, h0⟩ | ⟨g, cap, cur, rfl, hg, hb, hn, hm, hs, ht⟩
  · have e0 : l = [] := List.eq_nil_of_length_eq_zero h0
    subst e0
    refine (Try.slices_Sort_int_none none 0 W).mono fun e w' ⟨he, hw⟩ => ?_
    subst hw
    exact ⟨he, by simpa [sortI] using h, World.grownBy_refl _ _⟩
  · have hlt : g < W.heap.size := (Array.getElem?_eq_some_iff.1 hb).1
    have hH : Holds (Value.int .i64) W g 0 l.toArray := fun j hj => by
      have hj' : j < l.length := by simpa using hj
      refine ⟨?_, h'.frozenAt (0 + j)⟩
      rw [Nat.zero_add, h'.cellAt j (by omega)]
      simp [hj']
    refine (Try.slices_Sort_int g 0 cap l W hH hlt (by omega)).mono fun e w' ⟨he, n, os, hw⟩ => ?_
    have hblk : w'.heap[g]? = some (.cells (putCells (Value.int .i64) 0 (sortI l).toArray cur) 3 (0, 0)) := by
      rw [hw, heap_grow_old _ _ (by simpa using hlt)]
      simp [putRow, mapBlock, Go.Sort.ahead, Array.getElem?_modify, hb, onCells, sortI]
    refine ⟨he, ?_, ?_⟩
    · refine ⟨by simp, .inr ⟨g, cap, putCells (Value.int .i64) 0 (sortI l).toArray cur, by rw [sortI_len], hg, hblk, by rw [sortI_len]; exact hn, hm, by simp [putCells, hs], ?_⟩⟩
      apply List.ext_getElem?
      intro i
      by_cases hi : i < l.length
      · have hi2 : i < (sortI l).length := by rw [sortI_len]; exact hi
        have hic : i < cur.size := by omega
        rw [List.getElem?_take, if_pos (by omega), Array.getElem?_toList]
        simp [putCells, hic, hi2]
      · rw [List.getElem?_eq_none (by rw [List.length_take, sortI_len]; omega), List.getElem?_eq_none (by rw [List.length_map, sortI_len]; omega)]
    · refine ⟨by rw [hw]; rfl, by rw [hw]; rfl, by rw [hw]; rfl, by rw [hw]; simp [Go.Sort.ahead], fun k hk hne => ?_⟩
      have hkg : g ≠ k := fun e => hne (by rw [e]; rfl)
      rw [hw, heap_grow_old _ _ (by simpa using hk)]
      simp [putRow, mapBlock, Go.Sort.ahead, Array.getElem?_modify, hkg]
end Go.Proofs.Ytjiacdihfbbfjaa

/- A map from spots (arrays of two ints) to ints, of the call's own: its block known as a list of entries. -/
namespace Go.Proofs.Ytjiacdihfbbfjaa
open Go.RowKit

theorem sk_laid : laidOutB Try.prog = true := by kernel_rfl
theorem sk_row : (82 : TypeId) < Try.prog.types.size := of_decide_eq_true (by kernel_rfl)
theorem sk_at : Try.prog.keyTypeAt 2 82 = true := by kernel_rfl
theorem sk_law : Maps.Keyed Try.prog 82 := by
  refine Maps.Keyed.of_law (deep_law_laid sk_laid (m := 2) (by omega) sk_row sk_at ?_)
  have h := Try.underlying82
  revert h
  generalize Try.prog.underlying 82 = x
  rintro rfl
  rfl
theorem sk_type : Try.prog.keyType 82 = true := by kernel_rfl
theorem sk_cells : Try.prog.cellsOf 82 = 2 := by kernel_rfl

theorem sk_int : Try.prog.cellsOf 3 = 1 := by kernel_rfl
theorem sk_lits (d : Nat) (x : Int) (h : (Lit.int .i64 x).wf = true) : Try.prog.keyLits (d + 1) 3 [.int .i64 x] = some [.int .i64 x] := by
  unfold Program.keyLits
  rw [Try.underlying3]
  simp [h]
theorem sk_lits2 (d : Nat) (p : Int × Int) (h : small64 p) : Try.prog.keyLits (d + 1 + 1) 82 [.int .i64 p.1, .int .i64 p.2] = some [.int .i64 p.1, .int .i64 p.2] := by
  unfold Program.keyLits
  rw [Try.underlying82]
  simp [sk_cells, sk_int]
  refine ⟨[[.int .i64 p.1], [.int .i64 p.2]], ?_, rfl⟩
  rw [show List.range 2 = [0, 1] from rfl]
  simp [sk_lits d _ h.1, sk_lits d _ h.2]
theorem sk_size : Try.prog.types.size + 1 = (Try.prog.types.size - 1) + 1 + 1 := by
  have h : (Nat.lt 82 Try.prog.types.size) := sk_row
  generalize Try.prog.types.size = z at h
  simp only [Nat.lt_eq] at h
  omega
theorem sk_key (p : Int × Int) (h : small64 p) : keyOf Try.prog 82 (pv p) = some (.string (keyBytes [.int .i64 p.1, .int .i64 p.2])) := by
  unfold keyOf
  rw [Try.underlying82]
  have hf : (pv p).formed Try.prog 82 = true := by simp [pv, Value.formed, Try.underlying82, sk_cells]
  simp only [sk_type, hf, Bool.and_self, if_true]
  rw [sk_size]
  show (Try.prog.keyLits _ 82 [.int .i64 p.1, .int .i64 p.2]).map _ = _
  rw [sk_lits2 _ p h]
  rfl

open Go.ChangeMaps Go.MapKept in
/-- Block b is a map whose entries are l, in the order in which they came; no two keys are alike. -/
structure SMap (w : World) (b : Nat) (l : List ((Int × Int) × Int)) : Prop where
  has : ∃ es clock, w.heap[b]? = some (.map es clock) ∧ es.toList.map (fun e => (e.key, e.val)) = l.map (fun x => (pv x.1, Value.int .i64 x.2))
  keys : ∀ x ∈ l, small64 x.1
  apart : l.Pairwise (fun x y => x.1 ≠ y.1)

theorem SMap.made (w : World) : SMap (w.alloc (.map #[] 0)) w.heap.size [] := ⟨⟨#[], 0, (MapKept.heap_alloc w _).1, rfl⟩, by simp, .nil⟩
theorem SMap.lt {w : World} {b : Nat} {l : List ((Int × Int) × Int)} (h : SMap w b l) : b < w.heap.size := by
  obtain ⟨⟨es, c, hb, _⟩, _⟩ := h
  exact (Array.getElem?_eq_some_iff.1 hb).1
theorem SMap.below {w w' : World} {b : Nat} {l : List ((Int × Int) × Int)} (h : SMap w b l) (hb : Below w.heap.size w w') : SMap w' b l := by
  have hlt := h.lt
  obtain ⟨⟨es, c, h1, h2⟩, h3, h4⟩ := h
  exact ⟨⟨es, c, (hb.block b hlt).trans h1, h2⟩, h3, h4⟩
theorem SMap.grown {w w' : World} {b : Nat} {row : Option Nat} {l : List ((Int × Int) × Int)} (h : SMap w b l) (hg : w.grownBy w' row) (hne : some b ≠ row) : SMap w' b l := by
  have hlt := h.lt
  obtain ⟨⟨es, c, h1, h2⟩, h3, h4⟩ := h
  exact ⟨⟨es, c, (hg.block b hlt hne).trans h1, h2⟩, h3, h4⟩

theorem SMap.entry {l : List ((Int × Int) × Int)} {es : Array MapEntry} (h : es.toList.map (fun e => (e.key, e.val)) = l.map (fun x => (pv x.1, Value.int .i64 x.2))) {e : MapEntry} (he : e ∈ es.toList) :
    ∃ x ∈ l, e.key = pv x.1 ∧ e.val = .int .i64 x.2 := by
  have : (e.key, e.val) ∈ l.map (fun x => (pv x.1, Value.int .i64 x.2)) := by rw [← h]; exact List.mem_map.2 ⟨e, he, rfl⟩
  obtain ⟨x, hx, e1⟩ := List.mem_map.1 this
  injection e1 with e1 e2
  exact ⟨x, hx, e1.symm, e2.symm⟩
theorem SMap.entry' {l : List ((Int × Int) × Int)} {es : Array MapEntry} (h : es.toList.map (fun e => (e.key, e.val)) = l.map (fun x => (pv x.1, Value.int .i64 x.2))) {x : (Int × Int) × Int} (hx : x ∈ l) :
    ∃ e ∈ es.toList, e.key = pv x.1 ∧ e.val = .int .i64 x.2 := by
  have : (pv x.1, Value.int .i64 x.2) ∈ es.toList.map (fun e => (e.key, e.val)) := by rw [h]; exact List.mem_map.2 ⟨x, hx, rfl⟩
  obtain ⟨e, he, e1⟩ := List.mem_map.1 this
  injection e1 with e1 e2
  exact ⟨e, he, e1, e2⟩

theorem SMap.look {w : World} {b : Nat} {l : List ((Int × Int) × Int)} (h : SMap w b l) (k : Int × Int) (hk : small64 k) :
    (Instr.lookup 84 (.map (some b)) (pv k) true).run Try.prog w = .ok (.tuple #[.int .i64 ((lookP l k).getD 0), .bool (lookP l k).isSome]) w := by
  obtain ⟨⟨es, c, hb, he⟩, hs, ha⟩ := h
  have hz : (zeroValue 3).run Try.prog w = .ok (.int .i64 0) w := by kernel_rfl
  rcases sk_law.find w (sk_key k hk) es.toList (fun e hm => by obtain ⟨x, hx, e1, _⟩ := SMap.entry he hm; exact ⟨_, by rw [e1]; exact sk_key _ (hs x hx)⟩) with ⟨h1, h2⟩ | ⟨j, e0, h1, h2, h3⟩
  · have hn : lookP l k = none := lookP_none fun x hx e => by
      obtain ⟨e1, he1, he2, _⟩ := SMap.entry' he hx
      exact h2 e1 he1 (by rw [he2, e])
    rw [hn]
    simp [Instr.lookup, run_underlying Try.underlying84, MapKept.run_getObj_map hb, sk_law.check w _ (sk_key k hk), h1, hz, Result.andThen]
  · obtain ⟨x, hx, e1, e2⟩ := SMap.entry he (List.mem_of_getElem? h2)
    rw [h3] at e1
    obtain rfl := pv_inj e1
    rw [lookP_some ha hx]
    simp [Instr.lookup, run_underlying Try.underlying84, MapKept.run_getObj_map hb, sk_law.check w _ (sk_key _ hk), h1, e2, Result.andThen]

theorem SMap.put {w : World} {b : Nat} {l : List ((Int × Int) × Int)} (h : SMap w b l) (k : Int × Int) (i : Int) (hk : small64 k) (hn : ∀ x ∈ l, x.1 ≠ k) :
    ∃ w', (Instr.mapUpdate 84 (.map (some b)) (pv k) (.int .i64 i)).run Try.prog w = .ok () w' ∧ SMap w' b (l ++ [(k, i)]) ∧ w.grownBy w' (some b) ∧ w'.heap.size = w.heap.size := by
  obtain ⟨⟨es, c, hb, he⟩, hs, ha⟩ := h
  rcases sk_law.find w (sk_key k hk) es.toList (fun e hm => by obtain ⟨x, hx, e1, _⟩ := SMap.entry he hm; exact ⟨_, by rw [e1]; exact sk_key _ (hs x hx)⟩) with ⟨h1, h2⟩ | ⟨j, e0, h1, h2, h3⟩
  · refine ⟨ChangeMaps.setBlock w b (.map (es.push ⟨pv k, .int .i64 i, c⟩) (c + 1)), ?_, ⟨⟨_, _, ChangeMaps.heap_setBlock_same hb _, ?_⟩, ?_, ?_⟩, ⟨rfl, rfl, rfl, by simp [ChangeMaps.setBlock], fun i _ hi => ChangeMaps.heap_setBlock_other hb _ (fun e => hi (by rw [e]))⟩, by simp [ChangeMaps.setBlock]⟩
    · simp [Instr.mapUpdate, run_underlying Try.underlying84, MapKept.run_getObj_map hb, sk_law.check w false (sk_key k hk), h1, MapKept.run_setObj_map _ hb, Result.andThen, ChangeMaps.setBlock]
    · simp [he]
    · intro x hx
      rcases List.mem_append.1 hx with hx | hx
      · exact hs x hx
      · simp at hx; subst hx; exact hk
    · rw [List.pairwise_append]
      refine ⟨ha, by simp, fun x hx y hy => ?_⟩
      simp at hy; subst hy; exact hn x hx
  · obtain ⟨x, hx, e1, e2⟩ := SMap.entry he (List.mem_of_getElem? h2)
    rw [h3] at e1
    exact absurd (pv_inj e1).symm (hn x hx)
end Go.Proofs.Ytjiacdihfbbfjaa

/- The program's neighbors are the reference's. Plain Lean, no walk here. -/
namespace Go.Proofs.Ytjiacdihfbbfjaa
open Go.RowKit

def mapL (g : Grid) (k : Nat) : List ((Int × Int) × Int) := (spotsUpto g k).map fun x => (x.2, (x.1 : Int))
theorem mapL_succ (g : Grid) (k : Nat) : mapL g (k + 1) = mapL g k ++ [(plc g k, (k : Int))] := by unfold mapL; rw [spotsUpto_succ]; simp
theorem mem_mapL {g : Grid} {k : Nat} {x : (Int × Int) × Int} : x ∈ mapL g k ↔ ∃ q : Nat, q < k ∧ x = (plc g q, (q : Int)) := by
  unfold mapL spotsUpto
  simp only [List.mem_map, List.mem_range]
  constructor
  · rintro ⟨y, ⟨q, hq, rfl⟩, rfl⟩; exact ⟨q, hq, rfl⟩
  · rintro ⟨q, hq, rfl⟩; exact ⟨_, ⟨q, hq, rfl⟩, rfl⟩
theorem mapL_new {g : Grid} (hv : Valid g) {k : Nat} (hk : k < g.cells.length) : ∀ x ∈ mapL g k, x.1 ≠ plc g k := by
  intro x hx e
  obtain ⟨q, hq, rfl⟩ := mem_mapL.1 hx
  have := plc_inj hv (by omega) hk e
  omega
theorem mapL_apart {g : Grid} (hv : Valid g) : ∀ {k : Nat}, k ≤ g.cells.length → (mapL g k).Pairwise fun x y => x.1 ≠ y.1
  | 0, _ => by simp [mapL, spotsUpto]
  | k + 1, h => by
    rw [mapL_succ, List.pairwise_append]
    refine ⟨mapL_apart hv (by omega), by simp, fun x hx y hy => ?_⟩
    rw [List.mem_singleton.1 hy]; exact mapL_new hv (by omega) x hx
theorem find_mem {l : List ((Int × Int) × Int)} {k : Int × Int} {i : Int} (h : lookP l k = some i) : (k, i) ∈ l := by
  unfold lookP at h
  cases hf : l.find? (fun x => x.1 == k) with
  | none => rw [hf] at h; simp at h
  | some x =>
    rw [hf] at h
    simp only [Option.map_some, Option.some.injEq] at h
    have h1 := List.mem_of_find?_eq_some hf
    have h2 := List.find?_some hf
    simp only [beq_iff_eq] at h2
    rw [← h, ← h2]; exact h1
theorem look_spot {g : Grid} (hv : Valid g) {p : Int × Int} {v : Int} : lookP (mapL g g.cells.length) p = some v ↔ ∃ q : Nat, q < g.cells.length ∧ plc g q = p ∧ v = q := by
  constructor
  · intro h
    obtain ⟨q, hq, e⟩ := mem_mapL.1 (find_mem h)
    simp only [Prod.mk.injEq] at e
    exact ⟨q, hq, e.1.symm, e.2⟩
  · rintro ⟨q, hq, rfl, rfl⟩
    have hm : (plc g q, (q : Int)) ∈ mapL g g.cells.length := mem_mapL.2 ⟨q, hq, rfl⟩
    exact lookP_some (mapL_apart hv (Nat.le_refl _)) hm

def stepsL : List (Int × Int) := [(1, 0), (-1, 0), (0, 1), (0, -1), (1, -1), (-1, 1)]
def manyOf (s : Int) : Nat := if s = 1 then 4 else 6
def key (g : Grid) (c : Nat) (d : Int × Int) : Int × Int := ((plc g c).1 + d.1, (plc g c).2 + d.2)
def fnd (g : Grid) (c j : Nat) : List Int := (stepsL.take j).filterMap fun d => lookP (mapL g g.cells.length) (key g c d)
theorem fnd_succ (g : Grid) (c j : Nat) (h : j < 6) : fnd g c (j + 1) = fnd g c j ++ (lookP (mapL g g.cells.length) (key g c (stepsL[j]?.getD (0, 0)))).toList := by
  have hj : j < stepsL.length := by simpa [stepsL] using h
  unfold fnd
  rw [List.take_succ_eq_append_getElem hj, List.filterMap_append, List.getElem?_eq_getElem hj]
  simp only [Option.getD_some]
  cases hl : lookP (mapL g g.cells.length) (key g c stepsL[j]) <;> simp [hl]
theorem fnd_le (g : Grid) (c j : Nat) : (fnd g c j).length ≤ j := by
  unfold fnd
  exact Nat.le_trans (List.length_filterMap_le _ _) (by rw [List.length_take]; omega)
theorem steps_nodup : stepsL.Nodup := by decide
theorem fnd_nodup {g : Grid} (hv : Valid g) (c j : Nat) : (fnd g c j).Nodup := by
  unfold fnd
  have h : (stepsL.take j).Pairwise (· ≠ ·) := List.Pairwise.sublist (List.take_sublist _ _) steps_nodup
  refine List.Pairwise.filterMap _ (fun a a' hne b hb b' hb' e => ?_) h
  obtain ⟨q, _, e1, e2⟩ := (look_spot hv).1 hb
  obtain ⟨q', _, e3, e4⟩ := (look_spot hv).1 hb'
  have hq : q = q' := by omega
  subst hq
  rw [e1] at e3
  unfold key at e3
  simp only [Prod.mk.injEq] at e3
  exact hne (Prod.ext (by omega) (by omega))
theorem plc_one {g : Grid} (hs : g.shape = 1) (k : Nat) : plc g k = (colL g k, rowL g k) := by
  unfold plc placeOf colL rowL; rw [if_neg (by omega)]
theorem plc_two {g : Grid} (hv : Valid g) (hs : g.shape = 2) {k : Nat} (hk : k < g.cells.length) : plc g k = (axisL g k, rowL g k) := by
  have hm := hv.mem (getD_mem g.cells k hk)
  have hd := hv.dims
  unfold plc placeOf axisL colL rowL; rw [if_pos hs]
  generalize g.cells[k]?.getD 0 = c at *
  have q1 : 0 ≤ c / g.w := Int.ediv_nonneg hm.1 (by have := hd.2.1; omega)
  refine Prod.ext ?_ rfl
  simp only
  omega
theorem besS_iff (x y : Int) : besS x y = true ↔ (x, y) ∈ stepsL.take 4 := by
  unfold besS stepsL
  simp only [Bool.or_eq_true, Bool.and_eq_true, beq_iff_eq, List.take_succ_cons, List.take_zero, List.mem_cons, Prod.mk.injEq, List.not_mem_nil, or_false]
  omega
theorem besH_iff (x y : Int) : besH x y = true ↔ (x, y) ∈ stepsL.take 6 := by
  unfold besH stepsL
  simp only [Bool.or_eq_true, Bool.and_eq_true, beq_iff_eq, List.take_succ_cons, List.take_nil, List.mem_cons, Prod.mk.injEq, List.not_mem_nil, or_false]
  omega
theorem beside_iff {g : Grid} (hv : Valid g) {a b : Nat} (ha : a < g.cells.length) (hb : b < g.cells.length) : besideB g a b = true ↔ ((plc g b).1 - (plc g a).1, (plc g b).2 - (plc g a).2) ∈ stepsL.take (manyOf g.shape) := by
  unfold besideB manyOf
  rcases hv.dims.1 with hs | hs
  · rw [if_pos hs, if_pos hs, besS_iff, plc_one hs, plc_one hs]
  · rw [if_neg (by omega), if_neg (by omega), besH_iff, plc_two hv hs ha, plc_two hv hs hb]
theorem mem_fnd {g : Grid} (hv : Valid g) {c : Nat} (hc : c < g.cells.length) (x : Int) : x ∈ fnd g c (manyOf g.shape) ↔ ∃ q : Nat, q < g.cells.length ∧ x = q ∧ besideB g c q = true := by
  unfold fnd
  rw [List.mem_filterMap]
  constructor
  · rintro ⟨d, hd, h⟩
    obtain ⟨q, hq, e, rfl⟩ := (look_spot hv).1 h
    refine ⟨q, hq, rfl, (beside_iff hv hc hq).2 ?_⟩
    rw [e]; unfold key
    have : ((plc g c).1 + d.1 - (plc g c).1, (plc g c).2 + d.2 - (plc g c).2) = d := Prod.ext (by simp only; omega) (by simp only; omega)
    simp only
    rw [this]; exact hd
  · rintro ⟨q, hq, rfl, h⟩
    refine ⟨_, (beside_iff hv hc hq).1 h, (look_spot hv).2 ⟨q, hq, ?_, rfl⟩⟩
    unfold key
    exact Prod.ext (by simp only; omega) (by simp only; omega)
theorem nbRow_incr (g : Grid) (a k : Nat) : (nbRow g a k).Pairwise (· < ·) := by
  unfold nbRow
  refine List.Pairwise.map _ (fun a b h => by simp; omega) (List.Pairwise.filter _ (List.pairwise_lt_range (n := k)))
theorem sort_fnd {g : Grid} (hv : Valid g) {c : Nat} (hc : c < g.cells.length) : sortI (fnd g c (manyOf g.shape)) = nbRow g c g.cells.length := by
  refine incr_ext (sortI_lt (fnd_nodup hv _ _)) (nbRow_incr _ _ _) fun x => ?_
  rw [mem_sortI, mem_fnd hv hc]
  unfold nbRow
  simp only [List.mem_map, List.mem_filter, List.mem_range]
  constructor
  · rintro ⟨q, hq, rfl, h⟩; exact ⟨q, ⟨hq, h⟩, rfl⟩
  · rintro ⟨q, ⟨hq, h⟩, rfl⟩; exact ⟨q, hq, rfl, h⟩
end Go.Proofs.Ytjiacdihfbbfjaa

/- Contract of grids.Neighbors. -/
namespace Go.Proofs.Ytjiacdihfbbfjaa
open Go.RowKit Go.Shelf
attribute [local go_sem] Oper.semAt_some

theorem below_put2 {n0 q : Nat} {w w' : World} (h : Below n0 w w') (hq : n0 ≤ q) (hs : n0 ≤ w'.heap.size) (o' : Obj) : Below n0 w (w'.putObj q o') := h.grown (grownBy_putObj' w' q o') hs (fun k e => by cases e; exact hq)

theorem smap_put2 {w : World} {q b : Nat} {l : List ((Int × Int) × Int)} (h : SMap w b l) (hne : b ≠ q) (o' : Obj) : SMap (w.putObj q o') b l := h.grown (grownBy_putObj' w q o') (by intro e; cases e; exact hne rfl)
/-- Between two rounds of the first loop: M is the map's block. -/
structure N1 (W w5 : World) (M : Nat) (T : Nat → Prop) (pre : List Sp) (W2 : World) : Prop where
  map : SMap W2 M (pre.map fun x => (x.2, (x.1 : Int)))
  below : Below W.heap.size W W2
  keep : ∀ k, k < w5.heap.size → k ≠ M → W2.heap[k]? = w5.heap[k]?
  size : w5.heap.size ≤ W2.heap.size
  T : ∀ k, T k ↔ k = M
theorem N1.put {W w5 W2 : World} {M l : Nat} {T : Nat → Prop} {pre : List Sp} (h : N1 W w5 M T pre W2) (hl : w5.heap.size ≤ l) (hM : M < w5.heap.size) (hW : W.heap.size ≤ w5.heap.size) (o' : Obj) : N1 W w5 M T pre (W2.putObj l o') :=
  ⟨smap_put2 h.map (by omega) o', below_put2 h.below (by omega) (by have := h.size; omega) o', fun k hk hne => (World.putObj_heap_other (by omega)).trans (h.keep k hk hne), by simpa using h.size, h.T⟩
theorem N1.on {W w5 W2 W3 : World} {M : Nat} {T : Nat → Prop} {pre : List Sp} (h : N1 W w5 M T pre W2) (hb : Below W2.heap.size W2 W3) : N1 W w5 M T pre W3 :=
  ⟨h.map.below hb, h.below.on hb, fun k hk hne => (hb.block k (Nat.lt_of_lt_of_le hk h.size)).trans (h.keep k hk hne), Nat.le_trans h.size hb.size, h.T⟩
structure N1V (g : Grid) (nc : Nat) (W w5 : World) (M : Nat) (T : Nat → Prop) (pre : List Sp) (x : Sp) (s : Nat) (V : World) : Prop where
  in1 : N1 W w5 M T pre V
  box : Box V s #[.int .i64 x.2.1, .int .i64 x.2.2] 82
  new : w5.heap.size ≤ s
  hpre : pre = spotsUpto g pre.length
  lt : pre.length < nc
  hx : x = (pre.length, plc g pre.length)
theorem box_put2 {w : World} {B q : Nat} {cs : Array Value} {t : TypeId} (h : Box w B cs t) (hne : B ≠ q) (o' : Obj) : Box (w.putObj q o') B cs t := (World.putObj_heap_other hne).trans h
theorem small_plc {g : Grid} (hv : Valid g) {k : Nat} (hk : k < g.cells.length) : (-1000 ≤ (plc g k).1 ∧ (plc g k).1 ≤ 1000) ∧ (-1000 ≤ (plc g k).2 ∧ (plc g k).2 ≤ 1000) :=
  plc_bd g ⟨hv.dims.2.1, hv.dims.2.2.1⟩ (fun x hx => by have := hv.mem hx; have := hv.area; omega) hk

theorem ownInts_put2 {w : World} {base q : Nat} {e : TypeId} {v : Value} {l : List Int} {o : Obj} (h : OwnInts w base e v l) (hq : w.heap[q]? = some o) (hno : o.isCells = false) (o' : Obj) : OwnInts (w.putObj q o') base e v l := by
  refine h.grown (grownBy_putObj' w q o') ?_
  rcases h.2 with ⟨rfl, _⟩ | ⟨g, cap, cur, rfl, _, hg, _⟩
  · exact .inl rfl
  · refine .inr fun e => ?_
    obtain rfl : g = q := by simpa [Value.ownBlock] using e
    rw [hg] at hq; cases hq; simp [Obj.isCells] at hno
theorem ownInts_cells {w : World} {base k : Nat} {e : TypeId} {v : Value} {l : List Int} {o : Obj} (h : OwnInts w base e v l) (hk : v.ownBlock = some k) (ho : w.heap[k]? = some o) : o.isCells = true := by
  rcases h.2 with ⟨rfl, _⟩ | ⟨g, cap, cur, rfl, _, hg, _⟩
  · simp [Value.ownBlock] at hk
  · obtain rfl : g = k := by simpa [Value.ownBlock] using hk
    rw [hg] at ho; cases ho; rfl
theorem make_rows (m : Nat) (hm : m ≤ 1000) (w : World) : (Instr.makeSlice 28 (.int .i64 m) (.int .i64 m)).run Try.prog w = .ok (.slice (some ⟨w.heap.size, 0, none⟩) m m) (w.alloc (.cells (madeCells #[.slice none 0 0] m) 22)) := by
  obtain ⟨ib, hib, hb0, hb1, hb2⟩ := info_parts info_ints
  have h := run_make (P := Try.prog) w 28 22 ib _ Try.underlying28 hib hb0 .i64 .i64 m m (by omega) (by omega) (by rw [hb2]; omega) (by omega)
  simp only [Int.toNat_natCast, hb1, Nat.mul_one] at h
  exact h
/-- The rows in memory: the first p are filled. -/
structure NbR (g : Grid) (nc LB base p : Nat) (W2 : World) (vs : Nat → Value) : Prop where
  row : ∃ cs, Box W2 LB cs 22 ∧ cs.size = nc ∧ (∀ i, i < p → cs[i]? = some (vs i)) ∧ ∀ i, p ≤ i → i < nc → cs[i]? = some (.slice none 0 0)
  own : ∀ i, i < p → OwnInts W2 base 3 (vs i) (nbRow g i nc)
/-- Between two rounds of the second loop. -/
structure N2I (g : Grid) (nc : Nat) (W w6 : World) (LB : Nat) (T : Nat → Prop) (pre : List Sp) (W2 : World) (vs : Nat → Value) : Prop where
  rows : NbR g nc LB w6.heap.size pre.length W2 vs
  below : Below W.heap.size W W2
  keep : ∀ k, k < w6.heap.size → k ≠ LB → W2.heap[k]? = w6.heap[k]?
  size : w6.heap.size ≤ W2.heap.size
  T : ∀ k, T k ↔ (k = LB ∨ ∃ i, i < pre.length ∧ (vs i).ownBlock = some k)
def N2 (g : Grid) (nc : Nat) (W w6 : World) (LB : Nat) (T : Nat → Prop) (pre : List Sp) (W2 : World) : Prop := ∃ vs, N2I g nc W w6 LB T pre W2 vs
theorem N2I.put {g : Grid} {nc : Nat} {W w6 W2 : World} {LB l : Nat} {T : Nat → Prop} {pre : List Sp} {vs : Nat → Value} {o : Obj} (h : N2I g nc W w6 LB T pre W2 vs) (hl : w6.heap.size ≤ l) (hM : LB < w6.heap.size) (hW : W.heap.size ≤ w6.heap.size) (ho : W2.heap[l]? = some o) (hno : o.isCells = false) (o' : Obj) : N2I g nc W w6 LB T pre (W2.putObj l o') vs :=
  ⟨⟨let ⟨cs, h1, h2⟩ := h.rows.row; ⟨cs, box_put2 h1 (by omega) o', h2⟩, fun i hi => ownInts_put2 (h.rows.own i hi) ho hno o'⟩, below_put2 h.below (by omega) (by have := h.size; omega) o', fun k hk hne => (World.putObj_heap_other (by omega)).trans (h.keep k hk hne), by simpa using h.size, h.T⟩
theorem N2I.on {g : Grid} {nc : Nat} {W w6 W2 W3 : World} {LB : Nat} {T : Nat → Prop} {pre : List Sp} {vs : Nat → Value} (h : N2I g nc W w6 LB T pre W2 vs) (hb : Below W2.heap.size W2 W3) : N2I g nc W w6 LB T pre W3 vs :=
  ⟨⟨let ⟨cs, h1, h2⟩ := h.rows.row; ⟨cs, h1.below hb, h2⟩, fun i hi => (h.rows.own i hi).below hb⟩, h.below.on hb, fun k hk hne => (hb.block k (Nat.lt_of_lt_of_le hk h.size)).trans (h.keep k hk hne), Nat.le_trans h.size hb.size, h.T⟩
structure N2V (g : Grid) (nc : Nat) (W w6 : World) (LB : Nat) (T : Nat → Prop) (pre : List Sp) (x : Sp) (s : Nat) (V : World) (vs : Nat → Value) : Prop where
  in1 : N2I g nc W w6 LB T pre V vs
  box : Box V s #[.int .i64 x.2.1, .int .i64 x.2.2] 82
  new : w6.heap.size ≤ s
  old : ∀ i, i < pre.length → ∀ k, (vs i).ownBlock = some k → k < s
  lt : pre.length < nc
  hx : x = (pre.length, plc g pre.length)
theorem ownInts_same {w w' : World} {base : Nat} {e : TypeId} {v : Value} {l : List Int} (h : OwnInts w base e v l) (hs : ∀ k, v.ownBlock = some k → w'.heap[k]? = w.heap[k]?) : OwnInts w' base e v l := by
  refine ⟨h.1, ?_⟩
  rcases h.2 with hn | ⟨g, cap, cur, rfl, hB, hg, rest⟩
  · exact .inl hn
  · exact .inr ⟨g, cap, cur, rfl, hB, (hs g rfl).trans hg, rest⟩
theorem NbR.put {g : Grid} {nc LB base p l : Nat} {W2 : World} {vs : Nat → Value} {o : Obj} (h : NbR g nc LB base p W2 vs) (hl : LB ≠ l) (ho : W2.heap[l]? = some o) (hno : o.isCells = false) (o' : Obj) : NbR g nc LB base p (W2.putObj l o') vs :=
  ⟨let ⟨cs, h1, h2⟩ := h.row; ⟨cs, box_put2 h1 hl o', h2⟩, fun i hi => ownInts_put2 (h.own i hi) ho hno o'⟩
theorem NbR.set {g : Grid} {nc LB base p B i : Nat} {W2 : World} {vs : Nat → Value} (h : NbR g nc LB base p W2 vs) (hl : LB ≠ B) (hb : B < base) (u : Value) : NbR g nc LB base p (W2.setCell ⟨B, i, none⟩ u) vs :=
  ⟨let ⟨cs, h1, h2⟩ := h.row; ⟨cs, h1.setOther u hl, h2⟩, fun j hj => (h.own j hj).setOther u (fun e => by have := ((h.own j hj).lt _ e).1; simp at this; omega)⟩
theorem elems_of {w : World} {row : Option Nat} {us : Nat → Value} {f : Nat → List Int} : ∀ n, (∀ i, i < n → Elem w row (us i) (f i)) → Elems w row ((List.range n).map us) ((List.range n).map f)
  | 0, _ => .nil
  | n + 1, h => by
    rw [List.range_succ, List.map_append, List.map_append]
    exact Elems.snoc (elems_of n fun i hi => h i (by omega)) (h n (by omega))
theorem NbR.rows {g : Grid} {nc LB base b0 : Nat} {W2 : World} {vs : Nat → Value} (h : NbR g nc LB base nc W2 vs) (hn : g.cells.length = nc) (h0 : b0 ≤ LB) (hb : LB < base) (hm : nc ≤ 1000) : OwnRows W2 b0 22 (.slice (some ⟨LB, 0, none⟩) nc nc) (nbL g) := by
  obtain ⟨cs, h1, h2, h3, _⟩ := h.row
  have hl : (nbL g).length = nc := by unfold nbL; rw [nbUpto_len, hn]
  refine ⟨(List.range nc).map vs, ⟨by simp [hl], .inr ⟨LB, nc, cs, by rw [hl], h0, h1, by omega, by unfold maxLen; omega, by omega, ?_⟩⟩, ?_⟩
  · apply List.ext_getElem?
    intro i
    rw [hl]
    by_cases hi : i < nc
    · rw [List.getElem?_take, if_pos (by omega), Array.getElem?_toList, h3 i hi]
      simp [hi]
    · rw [List.getElem?_eq_none (by rw [List.length_take]; omega), List.getElem?_eq_none (by simp; omega)]
  · unfold nbL nbUpto
    rw [hn]
    refine elems_of nc fun i hi => ?_
    have hO := h.own i hi
    obtain ⟨a, c, e, hI⟩ := hO.ints
    exact ⟨a, _, c, e, hI, fun _ e2 => by
      have := (hO.lt LB e2).1
      omega⟩
theorem steps_cells {w : World} {B j : Nat} (h : Box w B #[.int .i64 1, .int .i64 0, .int .i64 (-1), .int .i64 0, .int .i64 0, .int .i64 1, .int .i64 0, .int .i64 (-1), .int .i64 1, .int .i64 (-1), .int .i64 (-1), .int .i64 1] 83) (hj : j < 6) :
    ∃ dx dy : Int, stepsL[j]?.getD (0, 0) = (dx, dy) ∧ (-1 ≤ dx ∧ dx ≤ 1) ∧ (-1 ≤ dy ∧ dy ≤ 1) ∧ w.cell? ⟨B, j * 2, none⟩ = some (.int .i64 dx) ∧ w.cell? ⟨B, j * 2 + 1, none⟩ = some (.int .i64 dy) := by
  have : j = 0 ∨ j = 1 ∨ j = 2 ∨ j = 3 ∨ j = 4 ∨ j = 5 := by omega
  rcases this with rfl | rfl | rfl | rfl | rfl | rfl
  · exact ⟨1, 0, rfl, by omega, by omega, by rw [h.cell]; rfl, by rw [h.cell]; rfl⟩
  · exact ⟨-1, 0, rfl, by omega, by omega, by rw [h.cell]; rfl, by rw [h.cell]; rfl⟩
  · exact ⟨0, 1, rfl, by omega, by omega, by rw [h.cell]; rfl, by rw [h.cell]; rfl⟩
  · exact ⟨0, -1, rfl, by omega, by omega, by rw [h.cell]; rfl, by rw [h.cell]; rfl⟩
  · exact ⟨1, -1, rfl, by omega, by omega, by rw [h.cell]; rfl, by rw [h.cell]; rfl⟩
  · exact ⟨-1, 1, rfl, by omega, by omega, by rw [h.cell]; rfl, by rw [h.cell]; rfl⟩

set_option maxRecDepth 40000 in
set_option maxHeartbeats 4000000 in
theorem nb_sq (g : Grid) (ah ac : Option Addr) (nh ch nc cc : Nat) (W : World) (h1 : Ints W ah nh ch g.holes) (h2 : Ints W ac nc cc g.cells) (hn : nh ≤ 10000000) (hm : nc ≤ 10000000000) (he : checkErr g = 0) (hv : Valid g) (hs : g.shape = 1) :
    Calls Try.prog 45 #[.agg #[.int .i64 g.shape, .int .i64 g.w, .int .i64 g.h, .slice ah nh ch, .slice ac nc cc]] W (RetRowsE W 22 (nbL g) 0) := by
  have hal : Below W.heap.size W ((W.alloc (.cells #[.int .i64 g.shape, .int .i64 g.w, .int .i64 g.h, .slice ah nh ch, .slice ac nc cc] 24)).alloc (.cells #[.slice none 0 0] 28)) := ((Below.refl _ _).alloc (Nat.le_refl _) _).alloc (by simp) _
  have hc := gridsCheck_any g ah ac nh ch nc cc _ (h1.below hal) (h2.below hal) hn hm
  rw [he] at hc
  have HC := Lib.hid hc
  have HV := Lib.hid hv
  have HE := Lib.hid he
  clear hc he hv
  have hmm := fun w => run_makeMap (P := Try.prog) 84 w
  have ts : (g.shape == 1) = true := by rw [hs]; rfl
  have HS := Lib.hid hs
  clear hs
  refine (callsIn_wide (n := 6)).1 (callsIn_of_wp_marks Try.func45 rfl trivial ?_ rfl)
  simp only [Try.ntmps45, List.size_toArray, List.length_cons, List.length_nil, Nat.reduceAdd, Nat.reduceSub, Array.replicate_succ, Array.replicate_zero, List.push_toArray, List.append_toArray, List.nil_append, List.cons_append]
  gi_wp2_with (first | (refine ⟨trivial, ?_⟩; gi_at_call 43; refine (callsIn_wide.2 HC.out).mono ?_; rintro e w1 ⟨rfl, hB1⟩; have hg := (Box.below ((Box.new W #[.int .i64 g.shape, .int .i64 g.w, .int .i64 g.h, .slice ah nh ch, .slice ac nc cc] 24).alloc (.cells #[.slice none 0 0] 28)) hB1); obtain ⟨g0, g1, g2, g3, g4⟩ := hg.g5; have hgl := hg.lt; have hA4 : Below w1.heap.size w1 (((((w1.alloc (.cells #[.int .i64 1, .int .i64 0, .int .i64 (-1), .int .i64 0, .int .i64 0, .int .i64 1, .int .i64 0, .int .i64 (-1), .int .i64 1, .int .i64 (-1), .int .i64 (-1), .int .i64 1] 83)).alloc (.cells #[.int .i64 4] 3)).alloc (.map #[] 0)).alloc (.cells #[.map (some (w1.heap.size + 1 + 1))] 84))) := ((((Below.refl _ _).alloc (Nat.le_refl _) _).alloc (by simp) _).alloc (by simp; omega) _).alloc (by simp; omega) _; obtain ⟨k0, k1, k2, k3, k4⟩ := (hg.below hA4).g5) | (refine ⟨trivial, ?_⟩; gi_at_call 75; refine (callsIn_wide.2 (spots_any _ rfl _)).mono ?_; rintro e w2 ⟨rfl, rfl⟩))
  clear k0 k1 k2 k3 k4 g0 g1 g2 g3 g4 hmm
  have hsz := hB1.size
  simp only [World.size_alloc] at hsz
  have hlv := Box.below (Box.new (W.alloc (.cells #[.int .i64 g.shape, .int .i64 g.w, .int .i64 g.h, .slice ah nh ch, .slice ac nc cc] 24)) #[.slice none 0 0] 28) hB1
  simp only [World.size_alloc] at hlv
  have hB5 : Below W.heap.size W ((((((w1.alloc (.cells #[.int .i64 1, .int .i64 0, .int .i64 (-1), .int .i64 0, .int .i64 0, .int .i64 1, .int .i64 0, .int .i64 (-1), .int .i64 1, .int .i64 (-1), .int .i64 (-1), .int .i64 1] 83)).alloc (.cells #[.int .i64 4] 3)).alloc (.map #[] 0)).alloc (.cells #[.map (some (w1.heap.size + 1 + 1))] 84))).alloc (.cells #[.int .i64 g.shape, .int .i64 g.w, .int .i64 g.h, .slice ah nh ch, .slice ac nc cc] 24)) := ((hal.on hB1).on hA4).alloc (by simp; omega) _
  have hS5 : Below w1.heap.size w1 ((((((w1.alloc (.cells #[.int .i64 1, .int .i64 0, .int .i64 (-1), .int .i64 0, .int .i64 0, .int .i64 1, .int .i64 0, .int .i64 (-1), .int .i64 1, .int .i64 (-1), .int .i64 (-1), .int .i64 1] 83)).alloc (.cells #[.int .i64 4] 3)).alloc (.map #[] 0)).alloc (.cells #[.map (some (w1.heap.size + 1 + 1))] 84))).alloc (.cells #[.int .i64 g.shape, .int .i64 g.w, .int .i64 g.h, .slice ah nh ch, .slice ac nc cc] 24)) := hA4.alloc (by simp; omega) _
  have hz5 : ((((((w1.alloc (.cells #[.int .i64 1, .int .i64 0, .int .i64 (-1), .int .i64 0, .int .i64 0, .int .i64 1, .int .i64 0, .int .i64 (-1), .int .i64 1, .int .i64 (-1), .int .i64 (-1), .int .i64 1] 83)).alloc (.cells #[.int .i64 4] 3)).alloc (.map #[] 0)).alloc (.cells #[.map (some (w1.heap.size + 1 + 1))] 84))).alloc (.cells #[.int .i64 g.shape, .int .i64 g.w, .int .i64 g.h, .slice ah nh ch, .slice ac nc cc] 24)).heap.size = w1.heap.size + 5 := by simp
  have x0 : Box ((((((w1.alloc (.cells #[.int .i64 1, .int .i64 0, .int .i64 (-1), .int .i64 0, .int .i64 0, .int .i64 1, .int .i64 0, .int .i64 (-1), .int .i64 1, .int .i64 (-1), .int .i64 (-1), .int .i64 1] 83)).alloc (.cells #[.int .i64 4] 3)).alloc (.map #[] 0)).alloc (.cells #[.map (some (w1.heap.size + 1 + 1))] 84))).alloc (.cells #[.int .i64 g.shape, .int .i64 g.w, .int .i64 g.h, .slice ah nh ch, .slice ac nc cc] 24)) w1.heap.size #[.int .i64 1, .int .i64 0, .int .i64 (-1), .int .i64 0, .int .i64 0, .int .i64 1, .int .i64 0, .int .i64 (-1), .int .i64 1, .int .i64 (-1), .int .i64 (-1), .int .i64 1] 83 := ((((Box.new w1 _ _).alloc _).alloc _).alloc _).alloc _
  have x1 : Box ((((((w1.alloc (.cells #[.int .i64 1, .int .i64 0, .int .i64 (-1), .int .i64 0, .int .i64 0, .int .i64 1, .int .i64 0, .int .i64 (-1), .int .i64 1, .int .i64 (-1), .int .i64 (-1), .int .i64 1] 83)).alloc (.cells #[.int .i64 4] 3)).alloc (.map #[] 0)).alloc (.cells #[.map (some (w1.heap.size + 1 + 1))] 84))).alloc (.cells #[.int .i64 g.shape, .int .i64 g.w, .int .i64 g.h, .slice ah nh ch, .slice ac nc cc] 24)) (w1.heap.size + 1) #[.int .i64 4] 3 := by
    have := (((Box.new (w1.alloc (.cells #[.int .i64 1, .int .i64 0, .int .i64 (-1), .int .i64 0, .int .i64 0, .int .i64 1, .int .i64 0, .int .i64 (-1), .int .i64 1, .int .i64 (-1), .int .i64 (-1), .int .i64 1] 83)) #[.int .i64 4] 3).alloc (.map #[] 0)).alloc (.cells #[.map (some (w1.heap.size + 1 + 1))] 84)).alloc (.cells #[.int .i64 g.shape, .int .i64 g.w, .int .i64 g.h, .slice ah nh ch, .slice ac nc cc] 24)
    simpa only [World.size_alloc] using this
  have x2 : SMap ((((((w1.alloc (.cells #[.int .i64 1, .int .i64 0, .int .i64 (-1), .int .i64 0, .int .i64 0, .int .i64 1, .int .i64 0, .int .i64 (-1), .int .i64 1, .int .i64 (-1), .int .i64 (-1), .int .i64 1] 83)).alloc (.cells #[.int .i64 4] 3)).alloc (.map #[] 0)).alloc (.cells #[.map (some (w1.heap.size + 1 + 1))] 84))).alloc (.cells #[.int .i64 g.shape, .int .i64 g.w, .int .i64 g.h, .slice ah nh ch, .slice ac nc cc] 24)) (w1.heap.size + 1 + 1) [] := by
    have := ((SMap.made ((w1.alloc (.cells #[.int .i64 1, .int .i64 0, .int .i64 (-1), .int .i64 0, .int .i64 0, .int .i64 1, .int .i64 0, .int .i64 (-1), .int .i64 1, .int .i64 (-1), .int .i64 (-1), .int .i64 1] 83)).alloc (.cells #[.int .i64 4] 3))).below ((Below.refl _ _).alloc (Nat.le_refl _) (.cells #[.map (some (w1.heap.size + 1 + 1))] 84))).below ((Below.refl _ _).alloc (Nat.le_refl _) (.cells #[.int .i64 g.shape, .int .i64 g.w, .int .i64 g.h, .slice ah nh ch, .slice ac nc cc] 24))
    simpa only [World.size_alloc] using this
  have x3 : Box ((((((w1.alloc (.cells #[.int .i64 1, .int .i64 0, .int .i64 (-1), .int .i64 0, .int .i64 0, .int .i64 1, .int .i64 0, .int .i64 (-1), .int .i64 1, .int .i64 (-1), .int .i64 (-1), .int .i64 1] 83)).alloc (.cells #[.int .i64 4] 3)).alloc (.map #[] 0)).alloc (.cells #[.map (some (w1.heap.size + 1 + 1))] 84))).alloc (.cells #[.int .i64 g.shape, .int .i64 g.w, .int .i64 g.h, .slice ah nh ch, .slice ac nc cc] 24)) (w1.heap.size + 1 + 1 + 1) #[.map (some (w1.heap.size + 1 + 1))] 84 := by
    have := (Box.new (((w1.alloc (.cells #[.int .i64 1, .int .i64 0, .int .i64 (-1), .int .i64 0, .int .i64 0, .int .i64 1, .int .i64 0, .int .i64 (-1), .int .i64 1, .int .i64 (-1), .int .i64 (-1), .int .i64 1] 83)).alloc (.cells #[.int .i64 4] 3)).alloc (.map #[] 0)) #[.map (some (w1.heap.size + 1 + 1))] 84).alloc (.cells #[.int .i64 g.shape, .int .i64 g.w, .int .i64 g.h, .slice ah nh ch, .slice ac nc cc] 24)
    simpa only [World.size_alloc] using this
  have x4 : Box ((((((w1.alloc (.cells #[.int .i64 1, .int .i64 0, .int .i64 (-1), .int .i64 0, .int .i64 0, .int .i64 1, .int .i64 0, .int .i64 (-1), .int .i64 1, .int .i64 (-1), .int .i64 (-1), .int .i64 1] 83)).alloc (.cells #[.int .i64 4] 3)).alloc (.map #[] 0)).alloc (.cells #[.map (some (w1.heap.size + 1 + 1))] 84))).alloc (.cells #[.int .i64 g.shape, .int .i64 g.w, .int .i64 g.h, .slice ah nh ch, .slice ac nc cc] 24)) (w1.heap.size + 1 + 1 + 1 + 1) #[.int .i64 g.shape, .int .i64 g.w, .int .i64 g.h, .slice ah nh ch, .slice ac nc cc] 24 := by
    have := Box.new (((((w1.alloc (.cells #[.int .i64 1, .int .i64 0, .int .i64 (-1), .int .i64 0, .int .i64 0, .int .i64 1, .int .i64 0, .int .i64 (-1), .int .i64 1, .int .i64 (-1), .int .i64 (-1), .int .i64 1] 83)).alloc (.cells #[.int .i64 4] 3)).alloc (.map #[] 0)).alloc (.cells #[.map (some (w1.heap.size + 1 + 1))] 84))) #[.int .i64 g.shape, .int .i64 g.w, .int .i64 g.h, .slice ah nh ch, .slice ac nc cc] 24
    simpa only [World.size_alloc] using this
  have hg5 := hg.below hS5
  have hl5 := hlv.below hS5
  obtain ⟨w5, hw5⟩ : ∃ w5, (((((w1.alloc (.cells #[.int .i64 1, .int .i64 0, .int .i64 (-1), .int .i64 0, .int .i64 0, .int .i64 1, .int .i64 0, .int .i64 (-1), .int .i64 1, .int .i64 (-1), .int .i64 (-1), .int .i64 1] 83)).alloc (.cells #[.int .i64 4] 3)).alloc (.map #[] 0)).alloc (.cells #[.map (some (w1.heap.size + 1 + 1))] 84))).alloc (.cells #[.int .i64 g.shape, .int .i64 g.w, .int .i64 g.h, .slice ah nh ch, .slice ac nc cc] 24) = w5 := ⟨_, rfl⟩
  rw [hw5] at hB5 hS5 hz5 x0 x1 x2 x3 x4 hg5 hl5 ⊢
  clear hw5 hA4 hg hlv
  obtain ⟨B, hB⟩ : ∃ B, w1.heap.size = B := ⟨_, rfl⟩
  rw [hB] at hz5 x0 x1 x2 x3 x4 hsz hgl ⊢
  clear hB
  have hnl := HV.out.len
  rw [h2.len] at hnl
  refine wpIn_rangeFunc_told3 rfl (by omega) (gf := 98) (lb := #[.pointer (some ⟨B + 1 + 1 + 1 + 1, 0, none⟩)]) rfl trivial (enters_of Try.func98 (by kernel_rfl) rfl)
    (spots1_told g (B + 1 + 1 + 1 + 1) ah ac nh ch nc cc w5 x4 (h2.below hB5) ⟨HV.out.dims.2.1, HV.out.dims.2.2.1⟩ (fun x hx => by have := HV.out.mem hx; have := HV.out.area; omega) hnl) (Below.refl _ _) (fun _ => rfl)
    (fun k => k = B + 1 + 1) ?hT0 (by rintro k rfl; omega) (N1 W w5 (B + 1 + 1)) (N1V g nc W w5 (B + 1 + 1)) ?hIput ?hVput ?hIb (fun x s => { tmps := #[.agg #[.int .i64 g.shape, .int .i64 g.w, .int .i64 g.h, .slice ah nh ch, .slice ac nc cc], .pointer (some ⟨W.heap.size, 0, none⟩), .pointer (some ⟨W.heap.size + 1, 0, none⟩), .int .i64 0, .pointer (some ⟨B, 0, none⟩), .pointer (some ⟨B + 1, 0, none⟩), .pointer (some ⟨B + 1 + 1 + 1, 0, none⟩), (.int .i64 x.1), (.pointer (some ⟨s, 0, none⟩)), undef, undef, undef, undef, undef, undef, .agg #[.int .i64 g.shape, .int .i64 g.w, .int .i64 g.h, .slice ah nh ch, .slice ac nc cc], .int .i64 0, .bool false, .agg #[.int .i64 1, .int .i64 0], .agg #[.int .i64 (-1), .int .i64 0], .agg #[.int .i64 0, .int .i64 1], .agg #[.int .i64 0, .int .i64 (-1)], .agg #[.int .i64 1, .int .i64 (-1)], .agg #[.int .i64 (-1), .int .i64 1], .agg #[.int .i64 1, .int .i64 0, .int .i64 (-1), .int .i64 0, .int .i64 0, .int .i64 1, .int .i64 0, .int .i64 (-1), .int .i64 1, .int .i64 (-1), .int .i64 (-1), .int .i64 1], .pointer (some ⟨W.heap.size, 0, none⟩), .int .i64 g.shape, .bool true, .map (some (B + 1 + 1)), .agg #[.int .i64 g.shape, .int .i64 g.w, .int .i64 g.h, .slice ah nh ch, .slice ac nc cc], .func (.func 98) #[] #[.pointer (some ⟨B + 1 + 1 + 1 + 1, 0, none⟩)], (.int .i64 x.1), (.agg #[.int .i64 x.2.1, .int .i64 x.2.2]), undef, undef, undef, undef, undef, undef, undef, undef, undef, undef, undef, undef, undef, undef, undef, undef, undef, undef, undef, undef, undef, undef, undef, undef, undef, undef, undef, undef, undef, undef, undef, undef, undef, undef, undef, undef, undef, undef, undef, undef, undef, undef, undef, undef, undef, undef, undef, undef, undef, undef, undef, undef], defers := [] }) (fun x W2 => W2.alloc (.cells #[.int .i64 x.2.1, .int .i64 x.2.2] 82)) (fun x W2 => (Below.refl _ _).alloc (Nat.le_refl _) _) ?hV ?hT ?h0 ?assign ?body ?done
  case hT0 =>
    rintro k rfl (h | ⟨o, h⟩)
    · omega
    · by_cases h0 : nc = 0
      · have := HV.out.pos; rw [h2.len] at this; omega
      · obtain ⟨b', o', e, hlt⟩ := h2.at' (by omega)
        rw [e] at h
        have h := Option.some.inj h
        have : b' = B + 1 + 1 := by simpa using congrArg Addr.block h
        omega
  case hIput => rintro T pre W2 l o o' hI hl ho hno; exact hI.put hl (by omega) (by omega) o'
  case hVput => rintro T pre x s W2 l o o' ⟨h1, h2, h3, h4, h5, h6⟩ hl hls ho hno; exact ⟨h1.put hl (by omega) (by omega) o', box_put2 h2 (by omega) o', h3, h4, h5, h6⟩
  case hIb => rintro T pre W2 W3 hI hb; exact hI.on hb
  case hV => rintro T pre x W0 W1 hI hb ⟨hp, hl, hx⟩ hlen hs; exact ⟨(hI.on hb).on ((Below.refl _ _).alloc (Nat.le_refl _) _), Box.new _ _ _, hs, hp, hl, hx⟩
  case hT => rintro T pre W2 hI k o hT hk ho; have := (hI.T k).1 hT; omega
  case h0 => exact ⟨by simpa using x2, hB5, fun k _ _ => rfl, Nat.le_refl _, fun k => Iff.rfl⟩
  case assign =>
    rintro l ⟨c, px, py⟩ W2 K hK
    simp only [spEnc] at hK ⊢
    gi_wp2
    exact hK
  case body =>
    rintro l T pre x s W2 ⟨hI, hbx, hnew, hpre, hlt, hx⟩ hlen hs
    obtain ⟨p, hp⟩ : ∃ p, pre.length = p := ⟨_, rfl⟩
    rw [hp] at hpre hlt hx
    obtain ⟨px, py, hpl⟩ : ∃ px py, plc g p = (px, py) := ⟨_, _, rfl⟩
    have hsm := small_plc HV.out (k := p) (by rw [h2.len]; exact hlt)
    have hnw := mapL_new HV.out (k := p) (by rw [h2.len]; exact hlt)
    rw [hpl] at hx hsm hnw
    subst hx
    simp only at hsm hbx
    have hMp := hI.map
    rw [hpre] at hMp
    have hv3 : Box W2 (B + 1 + 1 + 1) #[.map (some (B + 1 + 1))] 84 := (hI.keep _ (by omega) (by omega)).trans x3
    have c0 : W2.cell? ⟨B + 1 + 1 + 1, 0, none⟩ = some (.map (some (B + 1 + 1))) := by simpa using hv3.cell 0
    have c1 : W2.cell? ⟨s, 0, none⟩ = some (.int .i64 px) := by simpa using hbx.cell 0
    have c2 : W2.cell? ⟨s, 1, none⟩ = some (.int .i64 py) := by simpa using hbx.cell 1
    obtain ⟨w3, hrun, hM3, hg3, hs3⟩ := hMp.put (px, py) p ⟨WalkArith.wf_i64 (by simp only; omega), WalkArith.wf_i64 (by simp only; omega)⟩ hnw
    simp only [pv] at hrun
    clear hnw hsm hMp
    gi_wp2
    clear hrun
    have hls := hbx.lt
    have hT1 := hI.T
    refine ⟨T, ⟨by omega, fun k hk hTk => hg3.block k (by omega) (fun e => hTk ((hT1 k).2 (Option.some.inj e))), fun k h => .inl h, fun k h => by have := (hT1 k).1 h; have := hI.size; omega⟩, ⟨?_, ?_, fun k hk hne => (hg3.block k (by have := hI.size; omega) (fun e => hne (Option.some.inj e))).trans (hI.keep k hk hne), by have := hI.size; omega, hT1⟩⟩
    · rw [List.map_append]; first | exact hM3 | (rw [hpre]; exact hM3)
    · exact hI.below.grown hg3 (by have := hI.size; omega) (fun k e => by have := Option.some.inj e; omega)
  case done =>
    rintro D T xs W2 hD rfl hI hK
    have hszI := hI.size
    have kp := hI.keep
    have y0 : Box W2 B _ 83 := (kp _ (by omega) (by omega)).trans x0
    have y1 : Box W2 (B + 1) #[.int .i64 4] 3 := (kp _ (by omega) (by omega)).trans x1
    have y3 : Box W2 (B + 1 + 1 + 1) #[.map (some (B + 1 + 1))] 84 := (kp _ (by omega) (by omega)).trans x3
    have yg : Box W2 W.heap.size #[.int .i64 g.shape, .int .i64 g.w, .int .i64 g.h, .slice ah nh ch, .slice ac nc cc] 24 := (kp _ (by omega) (by omega)).trans hg5
    have yl : Box W2 (W.heap.size + 1) #[.slice none 0 0] 28 := (kp _ (by omega) (by omega)).trans hl5
    have yM : SMap W2 (B + 1 + 1) (mapL g nc) := hI.map
    have yB := hI.below
    clear x0 x1 x2 x3 x4 hg5 hl5 hI hB5 hS5 kp
    obtain ⟨g0, g1, g2, g3, g4⟩ := yg.g5
    have l0 : W2.cell? ⟨W.heap.size + 1, 0, none⟩ = some (.slice none 0 0) := by simpa using yl.cell 0
    have lf := yl.frozen 0
    have hll := yl.lt
    have hgl2 := yg.lt
    have hmk := make_rows nc (by omega) W2
    have z0 : Box (((W2.setCell ⟨W.heap.size + 1, 0, none⟩ (.slice (some ⟨W2.heap.size, 0, none⟩) nc nc)).alloc (.cells (madeCells #[.slice none 0 0] nc) 22)).alloc (.cells #[.int .i64 g.shape, .int .i64 g.w, .int .i64 g.h, .slice ah nh ch, .slice ac nc cc] 24)) W2.heap.size (madeCells #[.slice none 0 0] nc) 22 := by
      have := (Box.new (W2.setCell ⟨W.heap.size + 1, 0, none⟩ (.slice (some ⟨W2.heap.size, 0, none⟩) nc nc)) (madeCells #[.slice none 0 0] nc) 22).alloc (.cells #[.int .i64 g.shape, .int .i64 g.w, .int .i64 g.h, .slice ah nh ch, .slice ac nc cc] 24)
      simpa only [World.size_setCell] using this
    have z1 : Box (((W2.setCell ⟨W.heap.size + 1, 0, none⟩ (.slice (some ⟨W2.heap.size, 0, none⟩) nc nc)).alloc (.cells (madeCells #[.slice none 0 0] nc) 22)).alloc (.cells #[.int .i64 g.shape, .int .i64 g.w, .int .i64 g.h, .slice ah nh ch, .slice ac nc cc] 24)) (W2.heap.size + 1) #[.int .i64 g.shape, .int .i64 g.w, .int .i64 g.h, .slice ah nh ch, .slice ac nc cc] 24 := by
      have := Box.new ((W2.setCell ⟨W.heap.size + 1, 0, none⟩ (.slice (some ⟨W2.heap.size, 0, none⟩) nc nc)).alloc (.cells (madeCells #[.slice none 0 0] nc) 22)) #[.int .i64 g.shape, .int .i64 g.w, .int .i64 g.h, .slice ah nh ch, .slice ac nc cc] 24
      simpa only [World.size_alloc, World.size_setCell] using this
    have z2 : Box (((W2.setCell ⟨W.heap.size + 1, 0, none⟩ (.slice (some ⟨W2.heap.size, 0, none⟩) nc nc)).alloc (.cells (madeCells #[.slice none 0 0] nc) 22)).alloc (.cells #[.int .i64 g.shape, .int .i64 g.w, .int .i64 g.h, .slice ah nh ch, .slice ac nc cc] 24)) (W.heap.size + 1) #[.slice (some ⟨W2.heap.size, 0, none⟩) nc nc] 28 := by
      have := ((yl.set 0 (.slice (some ⟨W2.heap.size, 0, none⟩) nc nc)).alloc (.cells (madeCells #[.slice none 0 0] nc) 22)).alloc (.cells #[.int .i64 g.shape, .int .i64 g.w, .int .i64 g.h, .slice ah nh ch, .slice ac nc cc] 24)
      simpa using this
    have zo : ∀ k, k < W2.heap.size → k ≠ W.heap.size + 1 → (((W2.setCell ⟨W.heap.size + 1, 0, none⟩ (.slice (some ⟨W2.heap.size, 0, none⟩) nc nc)).alloc (.cells (madeCells #[.slice none 0 0] nc) 22)).alloc (.cells #[.int .i64 g.shape, .int .i64 g.w, .int .i64 g.h, .slice ah nh ch, .slice ac nc cc] 24)).heap[k]? = W2.heap[k]? := fun k hk hne =>
      (Below.heap_alloc _ _ k (by simp; omega)).trans ((Below.heap_alloc _ _ k (by simpa using hk)).trans (Below.heap_setCell _ _ _ k hne))
    have zB : Below W.heap.size W (((W2.setCell ⟨W.heap.size + 1, 0, none⟩ (.slice (some ⟨W2.heap.size, 0, none⟩) nc nc)).alloc (.cells (madeCells #[.slice none 0 0] nc) 22)).alloc (.cells #[.int .i64 g.shape, .int .i64 g.w, .int .i64 g.h, .slice ah nh ch, .slice ac nc cc] 24)) := ((yB.setCell (p := ⟨W.heap.size + 1, 0, none⟩) (by simp) _).alloc (by simp; omega) _).alloc (by simp; omega) _
    have zs : (((W2.setCell ⟨W.heap.size + 1, 0, none⟩ (.slice (some ⟨W2.heap.size, 0, none⟩) nc nc)).alloc (.cells (madeCells #[.slice none 0 0] nc) 22)).alloc (.cells #[.int .i64 g.shape, .int .i64 g.w, .int .i64 g.h, .slice ah nh ch, .slice ac nc cc] 24)).heap.size = W2.heap.size + 2 := by simp
    gi_wp2_with (refine ⟨trivial, ?_⟩; gi_at_call 75; refine (callsIn_wide.2 (spots_any _ rfl _)).mono ?_; rintro e w9 ⟨rfl, rfl⟩)
    obtain ⟨w6, hw6⟩ : ∃ w6, (((W2.setCell ⟨W.heap.size + 1, 0, none⟩ (.slice (some ⟨W2.heap.size, 0, none⟩) nc nc)).alloc (.cells (madeCells #[.slice none 0 0] nc) 22)).alloc (.cells #[.int .i64 g.shape, .int .i64 g.w, .int .i64 g.h, .slice ah nh ch, .slice ac nc cc] 24)) = w6 := ⟨_, rfl⟩
    rw [hw6] at z0 z1 z2 zo zB zs ⊢
    clear hw6 hmk g0 g1 g2 g3 g4 l0 lf
    obtain ⟨LB, hLB⟩ : ∃ LB, W2.heap.size = LB := ⟨_, rfl⟩
    rw [hLB] at z0 z1 z2 zo zs hszI hll hgl2 ⊢
    have r0 : Box w6 B _ 83 := (zo _ (by omega) (by omega)).trans y0
    have r1 : Box w6 (B + 1) #[.int .i64 4] 3 := (zo _ (by omega) (by omega)).trans y1
    have r3 : Box w6 (B + 1 + 1 + 1) #[.map (some (B + 1 + 1))] 84 := (zo _ (by omega) (by omega)).trans y3
    have rM : SMap w6 (B + 1 + 1) (mapL g nc) := ⟨let ⟨es, c, h1, h2⟩ := yM.has; ⟨es, c, (zo _ (by omega) (by omega)).trans h1, h2⟩, yM.keys, yM.apart⟩
    have hDl := (Array.getElem?_eq_some_iff.1 hK).1
    have hK6 : w6.heap[D]? = some (.deferred (some [])) := (zo D (by rw [← hLB]; exact hDl) (by omega)).trans hK
    rw [hLB] at hDl
    clear y0 y1 y3 yl yM zo hLB hK yB
    refine wpIn_rangeFunc_told3 rfl (by omega) (gf := 98) (lb := #[.pointer (some ⟨LB + 1, 0, none⟩)]) rfl trivial (enters_of Try.func98 (by kernel_rfl) rfl)
      (spots1_told g (LB + 1) ah ac nh ch nc cc w6 z1 (h2.below zB) ⟨HV.out.dims.2.1, HV.out.dims.2.2.1⟩ (fun x hx => by have := HV.out.mem hx; have := HV.out.area; omega) hnl) (Below.refl _ _) (fun _ => rfl)
      (fun k => k = LB) ?hT0b (by rintro k rfl; omega) (N2 g nc W w6 LB) (fun T pre x s V => ∃ vs, N2V g nc W w6 LB T pre x s V vs) ?hIputb ?hVputb ?hIbb (fun x s => { tmps := #[.agg #[.int .i64 g.shape, .int .i64 g.w, .int .i64 g.h, .slice ah nh ch, .slice ac nc cc], .pointer (some ⟨W.heap.size, 0, none⟩), .pointer (some ⟨W.heap.size + 1, 0, none⟩), .int .i64 0, .pointer (some ⟨B, 0, none⟩), .pointer (some ⟨B + 1, 0, none⟩), .pointer (some ⟨B + 1 + 1 + 1, 0, none⟩), undef, undef, (.int .i64 x.1), (.pointer (some ⟨s, 0, none⟩)), undef, undef, undef, undef, .agg #[.int .i64 g.shape, .int .i64 g.w, .int .i64 g.h, .slice ah nh ch, .slice ac nc cc], .int .i64 0, .bool false, .agg #[.int .i64 1, .int .i64 0], .agg #[.int .i64 (-1), .int .i64 0], .agg #[.int .i64 0, .int .i64 1], .agg #[.int .i64 0, .int .i64 (-1)], .agg #[.int .i64 1, .int .i64 (-1)], .agg #[.int .i64 (-1), .int .i64 1], .agg #[.int .i64 1, .int .i64 0, .int .i64 (-1), .int .i64 0, .int .i64 0, .int .i64 1, .int .i64 0, .int .i64 (-1), .int .i64 1, .int .i64 (-1), .int .i64 (-1), .int .i64 1], .pointer (some ⟨W.heap.size, 0, none⟩), .int .i64 g.shape, .bool true, .map (some (B + 1 + 1)), .agg #[.int .i64 g.shape, .int .i64 g.w, .int .i64 g.h, .slice ah nh ch, .slice ac nc cc], .func (.func 98) #[] #[.pointer (some ⟨B + 1 + 1 + 1 + 1, 0, none⟩)], undef, undef, undef, undef, undef, .pointer (some ⟨W.heap.size, 4, none⟩), .slice ac nc cc, .int .i64 nc, .slice (some ⟨LB, 0, none⟩) nc nc, .agg #[.int .i64 g.shape, .int .i64 g.w, .int .i64 g.h, .slice ah nh ch, .slice ac nc cc], .func (.func 98) #[] #[.pointer (some ⟨LB + 1, 0, none⟩)], (.int .i64 x.1), (.agg #[.int .i64 x.2.1, .int .i64 x.2.2]), undef, undef, undef, undef, undef, undef, undef, undef, undef, undef, undef, undef, undef, undef, undef, undef, undef, undef, undef, undef, undef, undef, undef, undef, undef, undef, undef, undef, undef, undef, undef, undef, undef, undef, undef, undef, undef, undef, undef, undef, undef], defers := [] }) (fun x W2 => W2.alloc (.cells #[.int .i64 x.2.1, .int .i64 x.2.2] 82)) (fun x W2 => (Below.refl _ _).alloc (Nat.le_refl _) _) ?hVb ?hTb ?h0b ?assignb ?bodyb ?doneb
    case hT0b =>
      rintro k rfl (h | ⟨o, h⟩)
      · omega
      · by_cases h0 : nc = 0
        · have := HV.out.pos; rw [h2.len] at this; omega
        · obtain ⟨b', o', e, hlt⟩ := h2.at' (by omega)
          rw [e] at h
          have h := Option.some.inj h
          have : b' = k := by simpa using congrArg Addr.block h
          omega
    case hIputb => rintro T pre W2 l o o' ⟨vs, hI⟩ hl ho hno; exact ⟨vs, hI.put hl (by omega) (by omega) ho hno o'⟩
    case hVputb => rintro T pre x s W2 l o o' ⟨vs, h1, h2, h3, h4, h5, h6⟩ hl hls ho hno; exact ⟨vs, h1.put hl (by omega) (by omega) ho hno o', box_put2 h2 (by omega) o', h3, h4, h5, h6⟩
    case hIbb => rintro T pre W2 W3 ⟨vs, hI⟩ hb; exact ⟨vs, hI.on hb⟩
    case hVb => rintro T pre x W0 W1 ⟨vs, hI⟩ hb ⟨hp, hl, hx⟩ hlen hs; exact ⟨vs, (hI.on hb).on ((Below.refl _ _).alloc (Nat.le_refl _) _), Box.new _ _ _, hs, fun i hi k hk => ((hI.on hb).rows.own i hi |>.lt k hk).2, hl, hx⟩
    case hTb =>
      rintro T pre W2 ⟨vs, hI⟩ k o hT hk ho
      rcases (hI.T k).1 hT with h | ⟨i, hi, h⟩
      · omega
      · exact ownInts_cells (hI.rows.own i hi) h ho
    case h0b => exact ⟨fun _ => .slice none 0 0, ⟨⟨_, z0, size_madeCells _ _, fun i hi => absurd hi (by simp), fun i _ hi => by simp [madeCells, hi, Nat.mod_one]⟩, fun i hi => absurd hi (by simp)⟩, zB, fun k _ _ => rfl, Nat.le_refl _, fun k => by simp⟩
    case assignb =>
      rintro l ⟨c, px, py⟩ W2 K hK
      simp only [spEnc] at hK ⊢
      gi_wp2
      exact hK
    case doneb =>
      rintro D2 T xs W3 hD2 rfl ⟨vs, hI⟩ hK
      have hN := hI.rows
      rw [spotsUpto_len] at hN
      have hzI := hI.size
      have q2 : Box W3 (W.heap.size + 1) #[.slice (some ⟨LB, 0, none⟩) nc nc] 28 := (hI.keep _ (by omega) (by omega)).trans z2
      have hKD : W3.heap[D]? = some (.deferred (some [])) := (hI.keep D (by omega) (by omega)).trans hK6
      have hBl := hI.below
      have hDne : D ≠ D2 := by omega
      have f1 : W3.cell? ⟨W.heap.size + 1, 0, none⟩ = some (.slice (some ⟨LB, 0, none⟩) nc nc) := by simpa using q2.cell 0
      have ff := q2.frozen 0
      clear hI
      gi_wp2
      have hK' : (W3.setCell ⟨W.heap.size + 1, 0, none⟩ (.slice (some ⟨LB, 0, none⟩) nc nc)).heap[D2]? = some (.deferred (some [])) := (Below.heap_setCell _ _ _ _ (by simp; omega)).trans hK
      have hKD' : ((W3.setCell ⟨W.heap.size + 1, 0, none⟩ (.slice (some ⟨LB, 0, none⟩) nc nc)).putObj D2 (.deferred none)).heap[D]? = some (.deferred (some [])) := (World.putObj_heap_other hDne).trans ((Below.heap_setCell _ _ _ _ (by simp; omega)).trans hKD)
      have hb7 := box_put2 (box_put2 (q2.set 0 (.slice (some ⟨LB, 0, none⟩) nc nc)) (show W.heap.size + 1 ≠ D2 by omega) (.deferred none)) (show W.heap.size + 1 ≠ D by omega) (.deferred none)
      have h7 := hb7.cell 0
      simp at h7
      have hN7 := ((hN.set (B := W.heap.size + 1) (i := 0) (by omega) (by omega) (.slice (some ⟨LB, 0, none⟩) nc nc)).put (by omega) hK' rfl (.deferred none)).put (by omega) hKD' rfl (.deferred none)
      refine ⟨by simp, .inl ⟨_, _, rfl, run_takeDeferred hK', ⟨by simp, .inl ⟨_, _, rfl, run_takeDeferred hKD', ?_⟩⟩⟩⟩
      refine ⟨.tuple #[.slice (some ⟨LB, 0, none⟩) nc nc, .int .i64 0], ?_, ?_⟩
      · simp [results, Try.results45, go_sem, h7]
      · exact ⟨_, rfl, hN7.rows h2.len (by omega) (by omega) (by omega), below_put2 (below_put2 (hBl.setCell (p := ⟨W.heap.size + 1, 0, none⟩) (by simp) _) (by omega) (by simp; omega) _) (by omega) (by simp; omega) _⟩
    case bodyb =>
      rintro l T pre x s V ⟨vs, hI, hbx, hnew, hold, hlt, hx⟩ hlen hs
      obtain ⟨p, hp⟩ : ∃ p, pre.length = p := ⟨_, rfl⟩
      rw [hp] at hlt hx hold
      obtain ⟨px, py, hpl⟩ : ∃ px py, plc g p = (px, py) := ⟨_, _, rfl⟩
      have hsm := small_plc HV.out (k := p) (by rw [h2.len]; exact hlt)
      rw [hpl] at hx hsm
      subst hx
      simp only at hsm hbx
      have HPL := Lib.hid hpl
      have HPP := Lib.hid hp
      clear hpl hp
      have hsx := hbx.lt
      have y1 : Box V (B + 1) #[.int .i64 4] 3 := (hI.keep _ (by omega) (by omega)).trans r1
      have m0 : V.cell? ⟨B + 1, 0, none⟩ = some (.int .i64 4) := by simpa using y1.cell 0
      obtain ⟨cs0, hb0, hcs0, hcv0, hcn0⟩ := hI.rows.row
      rw [HPP.out] at hcv0 hcn0
      have hlb : LB < s := by omega
      gi_wp2
      gi_loopw [47] (fun c wr => ∃ (j : Nat) (v : Value) (cs : Array Value), j ≤ 4 ∧ c = .int .i64 j ∧ Box wr LB cs 22 ∧ Hid (cs.size = nc ∧ (∀ i, i < p → cs[i]? = some (vs i)) ∧ cs[p]? = some v ∧ ∀ i, p < i → i < nc → cs[i]? = some (.slice none 0 0)) ∧ OwnInts wr (s + 1) 3 v (fnd g p j) ∧ Hid (∀ k, k < s → k ≠ LB → wr.heap[k]? = V.heap[k]?) ∧ Box wr s #[.int .i64 px, .int .i64 py] 82 ∧ Below W.heap.size W wr) (fun c _ => 4 - (intOf c).toNat)
      case atStart => exact ⟨0, .slice none 0 0, cs0, by omega, rfl, hb0, Lib.hid ⟨hcs0, hcv0, hcn0 p (Nat.le_refl _) hlt, fun i h1 h2 => hcn0 i (by omega) h2⟩, OwnInts.nil _ _ _, Lib.hid fun _ _ _ => rfl, hbx, hI.below⟩
      case round =>
        clear hb0 hcs0 hcv0 hcn0 m0 hbx hsx
        obtain ⟨j, v, cs, hj, rfl, hbL, HCS, hO, HK, hbs, hBw⟩ := hrel
        have hsl := hbs.lt
        have hLl := hbL.lt
        by_cases hlj : j < 4
        · have q0 : Box wr B _ 83 := (HK.out B (by omega) (by omega)).trans ((hI.keep B (by omega) (by omega)).trans r0)
          obtain ⟨dx, dy, hst, hdx, hdy, c0, c1⟩ := steps_cells q0 (show j < 6 by omega)
          have q3 : Box wr (B + 1 + 1 + 1) #[.map (some (B + 1 + 1))] 84 := (HK.out _ (by omega) (by omega)).trans ((hI.keep _ (by omega) (by omega)).trans r3)
          have q2 : Box wr (W.heap.size + 1) #[.slice (some ⟨LB, 0, none⟩) nc nc] 28 := (HK.out _ (by omega) (by omega)).trans ((hI.keep _ (by omega) (by omega)).trans z2)
          have qM : SMap wr (B + 1 + 1) (mapL g nc) := ⟨let ⟨es, c, h1, h2⟩ := rM.has; ⟨es, c, ((HK.out _ (by omega) (by omega)).trans (hI.keep _ (by omega) (by omega))).trans h1, h2⟩, rM.keys, rM.apart⟩
          have HS : Hid (fnd g p (j + 1) = fnd g p j ++ (lookP (mapL g nc) (px + dx, py + dy)).toList) := Lib.hid (by
            rw [fnd_succ g p j (by omega)]
            unfold key
            rw [HPL.out, hst, h2.len])
          have hfl := fnd_le g p j
          have hal2 : Below wr.heap.size wr (wr.alloc (.cells #[.int .i64 dx, .int .i64 dy] 82)) := (Below.refl _ _).alloc (Nat.le_refl _) _
          have hrun := (qM.below hal2).look (px + dx, py + dy) ⟨WalkArith.wf_i64 (by simp only; omega), WalkArith.wf_i64 (by simp only; omega)⟩
          simp only [pv] at hrun
          have e0 : wr.cell? ⟨s, 0, none⟩ = some (.int .i64 px) := by simpa using hbs.cell 0
          have e1 : wr.cell? ⟨s, 1, none⟩ = some (.int .i64 py) := by simpa using hbs.cell 1
          have e3 : wr.cell? ⟨B + 1 + 1 + 1, 0, none⟩ = some (.map (some (B + 1 + 1))) := by simpa using q3.cell 0
          have e3l := q3.lt
          have k4 : (j : Int) < 4 := by omega
          clear q0 q3 qM hst
          cases hlk : lookP (mapL g nc) (px + dx, py + dy) with
          | none =>
            rw [hlk] at hrun HS
            simp only [Option.getD_none, Option.isSome_none] at hrun
            clear hlk
            gi_wp2
            clear hrun
            go_roundw
            case rel => exact ⟨j + 1, v, cs, by omega, by go_num, hbL.below hal2, HCS, by rw [HS.out]; simpa using hO.below hal2, Lib.hid fun k hk hne => (hal2.block k (by omega)).trans (HK.out k hk hne), hbs.below hal2, hBw.alloc (by have := hBw.size; omega) _⟩
            case measure => simp [intOf]; omega
          | some q =>
            rw [hlk] at hrun HS
            simp only [Option.getD_some, Option.isSome_some] at hrun
            clear hlk
            gi_wp2
            clear hrun
            obtain ⟨X, hX⟩ : ∃ X, wr.alloc (.cells #[.int .i64 dx, .int .i64 dy] 82) = X := ⟨_, rfl⟩
            have x2 : Box X (W.heap.size + 1) #[.slice (some ⟨LB, 0, none⟩) nc nc] 28 := by rw [← hX]; exact q2.alloc _
            have xL : Box X LB cs 22 := by rw [← hX]; exact hbL.alloc _
            have xs : Box X s #[.int .i64 px, .int .i64 py] 82 := by rw [← hX]; exact hbs.alloc _
            have xo : ∀ k, k < wr.heap.size → X.heap[k]? = wr.heap[k]? := fun k hk => by rw [← hX]; exact Below.heap_alloc _ _ k hk
            have xB : Below W.heap.size W X := by rw [← hX]; exact hBw.alloc (by have := hBw.size; omega) _
            have xz : wr.heap.size + 1 ≤ X.heap.size := by rw [← hX]; simp
            have hOX : OwnInts X (s + 1) 3 v (fnd g p j) := by rw [← hX]; exact hO.below hal2
            obtain ⟨L, hL⟩ : ∃ L, (fnd g p j).length = L := ⟨_, rfl⟩
            have hOr : X.ownsRow (s + 1) 3 1 v (fnd g p j).length ((fnd g p j).map (Value.int .i64)) := hOX
            rw [hL] at hOr hfl
            have hvl := hOX.lt
            obtain ⟨i3, hi3, hz30, hz31, hz32⟩ := info_parts info_int
            have f1 : X.cell? ⟨W.heap.size + 1, 0, none⟩ = some (.slice (some ⟨LB, 0, none⟩) nc nc) := by simpa using x2.cell 0
            have f2 : X.cell? ⟨LB, p, none⟩ = some v := by rw [xL.cell]; exact HCS.out.2.2.1
            have k1 : (p : Int) < (nc : Int) := by omega
            have k0 : (0 : Int) ≤ (p : Int) := by omega
            have hLBX := xL.lt
            have HL := Lib.hid hL
            have HXO := Lib.hid xo
            rw [hX]
            clear hX e0 e1 e3 c0 c1 hal2 hbL hbs hO hL xo q2
            refine wpIn_region_heldR (S := fun w' => w'.cell? ⟨W.heap.size + 1, 0, none⟩ = some (.slice (some ⟨LB, 0, none⟩) nc nc)) (by kernel_rfl) (by kernel_rfl) ?_
            have hS0 : (fun w' : World => w'.cell? ⟨W.heap.size + 1, 0, none⟩ = some (.slice (some ⟨LB, 0, none⟩) nc nc)) X.drew := f1
            refine wpAnyH_take (i := 0) (v := ?va) rfl (by kernel_rfl) (by kernel_rfl) (by kernel_rfl) NormQ.hq (Or.inl ⟨by rfl, ?ya⟩) (by assumption) ?ra
            case ya =>
              intro w hSw
              (try dsimp only at hSw)
              go_simp
              try with_reducible rfl
            try simp only [Act.put, List.setIfInBounds_toArray]
            refine wpAnyH_take (i := 1) (v := ?vb) rfl (by kernel_rfl) (by kernel_rfl) (by kernel_rfl) NormQ.hq (Or.inl ⟨by rfl, ?yb⟩) (by assumption) ?rb
            case yb =>
              intro w hSw
              (try dsimp only at hSw)
              go_simp
              try with_reducible rfl
            try simp only [Act.put]
            refine wpAnyH_take (i := 2) (v := ?vc) rfl (by kernel_rfl) (by kernel_rfl) (by kernel_rfl) NormQ.hq (Or.inl ⟨by rfl, ?yc⟩) (by assumption) ?rc
            case yc =>
              intro w hSw
              (try dsimp only at hSw)
              go_simp
              try with_reducible rfl
            try simp only [Act.put]
            refine wpAnyH_take (i := 3) (v := ?vd) rfl (by kernel_rfl) (by kernel_rfl) (by kernel_rfl) NormQ.hq (Or.inl ⟨by rfl, ?yd⟩) (by assumption) ?rd
            case yd =>
              intro w hSw
              (try dsimp only at hSw)
              go_simp
              try with_reducible rfl
            try simp only [Act.put]
            refine wpAnyH_take (i := 4) (v := ?ve) rfl (by kernel_rfl) (by kernel_rfl) (by kernel_rfl) NormQ.hq (Or.inl ⟨by rfl, ?ye⟩) (by assumption) ?re
            case ye =>
              intro w hSw
              (try dsimp only at hSw)
              go_simp
              try with_reducible rfl
            try simp only [Act.put]
            refine wpAnyH_take (i := 6) (v := ?vf) rfl (by kernel_rfl) (by kernel_rfl) (by kernel_rfl) NormQ.hq (Or.inl ⟨by rfl, ?yf⟩) (by assumption) ?rf
            case yf =>
              intro w hSw
              (try dsimp only at hSw)
              go_simp
              try with_reducible rfl
            try simp only [Act.put]
            refine wpAnyH_ready (rs := [5, 7]) (by kernel_rfl) (by simp) (AllReadyH.cons rfl (fun K hK => ?_) (AllReadyH.cons rfl (fun K hK => ?_) AllReadyH.nil))
            · go_simp
              refine hK.out _ _ f1 (fun hS1 => ?_)
              clear hK K
              refine wpAnyH_ready (rs := [7]) (by kernel_rfl) (by simp) (AllReadyH.cons rfl (fun K hK => ?_) AllReadyH.nil)
              go_simp
              refine hK.out _ _ (by simpa using (x2.alloc (.cells #[.int .i64 q] 3)).cell 0) (fun hS2 => ?_)
              clear hK K
              refine wpAnyH_ready (rs := [8]) (by kernel_rfl) (by simp) (AllReadyH.cons rfl (fun K hK => ?_) AllReadyH.nil)
              refine step_append_own2 rfl _ _ 22 rfl (s + 1) 3 i3 (.int .i64 0) 1 8 Try.underlying22 hi3 hz30 hz31 hz32 rfl (by decide) v L _ (ownsRow_below' hOr (by repeat (first | (with_reducible exact Below.refl _ _) | (with_reducible assumption) | (with_reducible refine below_drewN ?_ _) | ((with_reducible refine Below.setCell ?_ ?_ _); rotate_left; focus (first | (simp; done) | (simp; omega) | omega)) | ((with_reducible refine Below.alloc ?_ ?_ _); rotate_left; focus (first | (simp; done) | (simp; omega) | omega)) | (with_reducible refine Below.drew ?_)))) rfl ⟨_, 0, none⟩ 1 1 [.int .i64 q] rfl rfl (fun j u h => cell_one_new X _ _ j u h) (by simp [Value.oneCell']) (by unfold maxLen; omega) (by omega) (by simp; omega) ?_
              intro v9 w9 hown' hgrow hfr
              obtain ⟨a9, c9, rfl, _, _⟩ := own_slice hown'
              have nev : ∀ k, k ≤ s → some k ≠ v.ownBlock := fun k hk e => by have := (hvl k e.symm).1; omega
              have b2 : Box w9 (W.heap.size + 1) #[.slice (some ⟨LB, 0, none⟩) nc nc] 28 := (hgrow.block _ (by simp; omega) (nev _ (by omega))).trans (x2.alloc _)
              have bL : Box w9 LB cs 22 := (hgrow.block _ (by simp; omega) (nev _ (by omega))).trans (xL.alloc _)
              have bs : Box w9 s #[.int .i64 px, .int .i64 py] 82 := (hgrow.block _ (by simp; omega) (nev _ (by omega))).trans (xs.alloc _)
              have bo : Hid (∀ k, k < s → k ≠ LB → w9.heap[k]? = V.heap[k]?) := Lib.hid fun k hk hne => (hgrow.block k (by simp; omega) (nev k (by omega))).trans ((Below.heap_alloc X _ k (by omega)).trans ((HXO.out k (by omega)).trans (HK.out k hk hne)))
              have bB : Below W.heap.size W w9 := ((xB.alloc (by have := xB.size; omega) (.cells #[.int .i64 q] 3)).drew).grown hgrow (by simp; have := xB.size; omega) (fun k e => by have := (hvl k e).1; omega)
              have hO9 : OwnInts w9 (s + 1) 3 (.slice a9 (L + 1) c9) (fnd g p j ++ [(q : Int)]) := OwnInts.snoc (by rw [HL.out]; exact hown')
              have g2 : w9.cell? ⟨LB, p, none⟩ = some v := by rw [bL.cell]; exact HCS.out.2.2.1
              have gf := bL.frozen p
              refine hK.out _ _ (by simpa using b2.cell 0) (fun hS3 => ?_)
              clear hK K
              refine wpAnyH_take (i := 9) (v := ?vg1) rfl (by kernel_rfl) (by kernel_rfl) (by kernel_rfl) NormQ.hq (Or.inl ⟨by rfl, ?yg1⟩) (by assumption) ?rg1
              case yg1 =>
                intro w hSw
                (try dsimp only at hSw)
                go_simp
                try with_reducible rfl
              try simp only [Act.put, List.setIfInBounds_toArray]
              refine wpAnyH_ready (rs := [10]) (by kernel_rfl) (by simp) (AllReadyH.cons rfl (fun K hK => ?_) AllReadyH.nil)
              go_simp
              refine hK.out _ _ (by simpa using (b2.setOther (a := ⟨LB, p, none⟩) (.slice a9 (L + 1) c9) (by simp; omega)).cell 0) (fun hS4 => ?_)
              clear hK K
              refine wpAnyH_done (by kernel_rfl) ?_ _
              refine ⟨rfl, ?_⟩
              clear hS0 hS1 hS2 hS3 hS4 f1 f2 g2 gf
              gi_wp2
              go_roundw
              case rel =>
                refine ⟨j + 1, .slice a9 (L + 1) c9, cs.setIfInBounds p (.slice a9 (L + 1) c9), by omega, by go_num, bL.set p _, Lib.hid ⟨by simp [HCS.out.1], fun i hi => ?_, ?_, fun i h1 h2 => ?_⟩, ?_, Lib.hid fun k hk hne => (Below.heap_setCell _ _ _ k hne).trans (bo.out k hk hne), bs.setOther _ (by simp; omega), bB.setCell (p := ⟨LB, p, none⟩) (by simp; omega) _⟩
                · rw [Array.getElem?_setIfInBounds_ne (by omega)]; exact HCS.out.2.1 i hi
                · exact Array.getElem?_setIfInBounds_self_of_lt (by rw [HCS.out.1]; exact hlt)
                · rw [Array.getElem?_setIfInBounds_ne (by omega)]; exact HCS.out.2.2.2 i h1 h2
                · rw [HS.out]
                  exact hO9.setOther _ (fun e => by have := (hO9.lt _ e).1; simp at this; omega)
              case measure => simp [intOf]; omega
            · go_simp
              refine hK.out _ _ (by simpa using (x2.alloc (.cells #[.int .i64 q] 3)).cell 0) (fun hS1 => ?_)
              clear hK K
              refine wpAnyH_ready (rs := [5]) (by kernel_rfl) (by simp) (AllReadyH.cons rfl (fun K hK => ?_) AllReadyH.nil)
              go_simp
              refine hK.out _ _ (by simpa using (x2.alloc (.cells #[.int .i64 q] 3)).cell 0) (fun hS2 => ?_)
              clear hK K
              refine wpAnyH_ready (rs := [8]) (by kernel_rfl) (by simp) (AllReadyH.cons rfl (fun K hK => ?_) AllReadyH.nil)
              refine step_append_own2 rfl _ _ 22 rfl (s + 1) 3 i3 (.int .i64 0) 1 8 Try.underlying22 hi3 hz30 hz31 hz32 rfl (by decide) v L _ (ownsRow_below' hOr (by repeat (first | (with_reducible exact Below.refl _ _) | (with_reducible assumption) | (with_reducible refine below_drewN ?_ _) | ((with_reducible refine Below.setCell ?_ ?_ _); rotate_left; focus (first | (simp; done) | (simp; omega) | omega)) | ((with_reducible refine Below.alloc ?_ ?_ _); rotate_left; focus (first | (simp; done) | (simp; omega) | omega)) | (with_reducible refine Below.drew ?_)))) rfl ⟨_, 0, none⟩ 1 1 [.int .i64 q] rfl rfl (fun j u h => cell_one_new X _ _ j u h) (by simp [Value.oneCell']) (by unfold maxLen; omega) (by omega) (by simp; omega) ?_
              intro v9 w9 hown' hgrow hfr
              obtain ⟨a9, c9, rfl, _, _⟩ := own_slice hown'
              have nev : ∀ k, k ≤ s → some k ≠ v.ownBlock := fun k hk e => by have := (hvl k e.symm).1; omega
              have b2 : Box w9 (W.heap.size + 1) #[.slice (some ⟨LB, 0, none⟩) nc nc] 28 := (hgrow.block _ (by simp; omega) (nev _ (by omega))).trans (x2.alloc _)
              have bL : Box w9 LB cs 22 := (hgrow.block _ (by simp; omega) (nev _ (by omega))).trans (xL.alloc _)
              have bs : Box w9 s #[.int .i64 px, .int .i64 py] 82 := (hgrow.block _ (by simp; omega) (nev _ (by omega))).trans (xs.alloc _)
              have bo : Hid (∀ k, k < s → k ≠ LB → w9.heap[k]? = V.heap[k]?) := Lib.hid fun k hk hne => (hgrow.block k (by simp; omega) (nev k (by omega))).trans ((Below.heap_alloc X _ k (by omega)).trans ((HXO.out k (by omega)).trans (HK.out k hk hne)))
              have bB : Below W.heap.size W w9 := ((xB.alloc (by have := xB.size; omega) (.cells #[.int .i64 q] 3)).drew).grown hgrow (by simp; have := xB.size; omega) (fun k e => by have := (hvl k e).1; omega)
              have hO9 : OwnInts w9 (s + 1) 3 (.slice a9 (L + 1) c9) (fnd g p j ++ [(q : Int)]) := OwnInts.snoc (by rw [HL.out]; exact hown')
              have g2 : w9.cell? ⟨LB, p, none⟩ = some v := by rw [bL.cell]; exact HCS.out.2.2.1
              have gf := bL.frozen p
              refine hK.out _ _ (by simpa using b2.cell 0) (fun hS3 => ?_)
              clear hK K
              refine wpAnyH_take (i := 9) (v := ?vg2) rfl (by kernel_rfl) (by kernel_rfl) (by kernel_rfl) NormQ.hq (Or.inl ⟨by rfl, ?yg2⟩) (by assumption) ?rg2
              case yg2 =>
                intro w hSw
                (try dsimp only at hSw)
                go_simp
                try with_reducible rfl
              try simp only [Act.put, List.setIfInBounds_toArray]
              refine wpAnyH_ready (rs := [10]) (by kernel_rfl) (by simp) (AllReadyH.cons rfl (fun K hK => ?_) AllReadyH.nil)
              go_simp
              refine hK.out _ _ (by simpa using (b2.setOther (a := ⟨LB, p, none⟩) (.slice a9 (L + 1) c9) (by simp; omega)).cell 0) (fun hS4 => ?_)
              clear hK K
              refine wpAnyH_done (by kernel_rfl) ?_ _
              refine ⟨rfl, ?_⟩
              clear hS0 hS1 hS2 hS3 hS4 f1 f2 g2 gf
              gi_wp2
              go_roundw
              case rel =>
                refine ⟨j + 1, .slice a9 (L + 1) c9, cs.setIfInBounds p (.slice a9 (L + 1) c9), by omega, by go_num, bL.set p _, Lib.hid ⟨by simp [HCS.out.1], fun i hi => ?_, ?_, fun i h1 h2 => ?_⟩, ?_, Lib.hid fun k hk hne => (Below.heap_setCell _ _ _ k hne).trans (bo.out k hk hne), bs.setOther _ (by simp; omega), bB.setCell (p := ⟨LB, p, none⟩) (by simp; omega) _⟩
                · rw [Array.getElem?_setIfInBounds_ne (by omega)]; exact HCS.out.2.1 i hi
                · exact Array.getElem?_setIfInBounds_self_of_lt (by rw [HCS.out.1]; exact hlt)
                · rw [Array.getElem?_setIfInBounds_ne (by omega)]; exact HCS.out.2.2.2 i h1 h2
                · rw [HS.out]
                  exact hO9.setOther _ (fun e => by have := (hO9.lt _ e).1; simp at this; omega)
              case measure => simp [intOf]; omega
        · obtain rfl : j = 4 := by omega
          have q2 : Box wr (W.heap.size + 1) #[.slice (some ⟨LB, 0, none⟩) nc nc] 28 := (HK.out _ (by omega) (by omega)).trans ((hI.keep _ (by omega) (by omega)).trans z2)
          have f1 : wr.cell? ⟨W.heap.size + 1, 0, none⟩ = some (.slice (some ⟨LB, 0, none⟩) nc nc) := by simpa using q2.cell 0
          have f2 : wr.cell? ⟨LB, p, none⟩ = some v := by rw [hbL.cell]; exact HCS.out.2.2.1
          have k1 : (p : Int) < (nc : Int) := by omega
          have k0 : (0 : Int) ≤ (p : Int) := by omega
          have hfl := fnd_le g p 4
          gi_wp2
          refine ⟨trivial, ?_⟩
          gi_at_call 76
          refine (CallsIn.inRound l (callsIn_wide.2 (sort_own hO (by omega)))).mono ?_
          rintro e w8 ⟨rfl, hO8, hg8⟩
          gi_wp2
          have hvl := hO.lt
          have nev : ∀ k, k ≤ s → some k ≠ v.ownBlock := fun k hk e => by have := (hvl k e.symm).1; omega
          have hTT := hI.T
          have hzI := hI.size
          have h8 : ∀ k, k < s → k ≠ LB → w8.heap[k]? = V.heap[k]? := fun k hk hne => (hg8.block k (by omega) (nev k (by omega))).trans (HK.out k hk hne)
          refine ⟨fun k => T k ∨ v.ownBlock = some k, ⟨by have := hg8.size; omega, fun k hk hTk => h8 k hk (fun e => hTk ((hTT k).2 (.inl e))), fun k hk => ?_, fun k hk => ?_⟩, fun i => if i = p then v else vs i, ⟨⟨cs, (hg8.block LB (by omega) (nev LB (by omega))).trans hbL, HCS.out.1, fun i hi => ?_, fun i h1 h2 => ?_⟩, fun i hi => ?_⟩, hBw.grown hg8 (by have := hBw.size; omega) (fun k e => by have := (hvl k e).1; omega), fun k hk hne => (h8 k (by omega) hne).trans (hI.keep k hk hne), by have := hg8.size; omega, fun k => ?_⟩
          · rcases hk with hk | hk
            · exact .inl hk
            · exact .inr (by have := (hvl k hk).1; omega)
          · rcases hk with hk | hk
            · rcases (hTT k).1 hk with rfl | ⟨i, hi, e⟩
              · have := hg8.size; omega
              · have := hold i (by rw [← HPP.out]; exact hi) k e; have := hg8.size; omega
            · exact (hO8.lt k hk).2
          · simp only [List.length_append, List.length_cons, List.length_nil, HPP.out] at hi
            by_cases e : i = p
            · subst e; rw [if_pos rfl]; exact HCS.out.2.2.1
            · rw [if_neg e]; exact HCS.out.2.1 i (by omega)
          · simp only [List.length_append, List.length_cons, List.length_nil, HPP.out] at h1
            exact HCS.out.2.2.2 i (by omega) h2
          · simp only [List.length_append, List.length_cons, List.length_nil, HPP.out] at hi
            by_cases e : i = p
            · subst e
              rw [if_pos rfl]
              have := sort_fnd HV.out (c := i) (by rw [h2.len]; exact hlt)
              rw [h2.len] at this
              rw [← this, show manyOf g.shape = 4 by unfold manyOf; simp [HS.out]]
              exact hO8.mono (by omega)
            · rw [if_neg e]
              refine ownInts_same (hI.rows.own i (by rw [HPP.out]; omega)) fun k hk => ?_
              have h3 := (hI.rows.own i (by rw [HPP.out]; omega)).lt k hk
              exact h8 k (hold i (by omega) k hk) (by omega)
          · simp only [List.length_append, List.length_cons, List.length_nil, HPP.out]
            constructor
            · rintro (hk | hk)
              · rcases (hTT k).1 hk with h | ⟨i, hi, e⟩
                · exact .inl h
                · rw [HPP.out] at hi
                  exact .inr ⟨i, by omega, by rw [if_neg (by omega)]; exact e⟩
              · exact .inr ⟨p, by omega, by rw [if_pos rfl]; exact hk⟩
            · rintro (hk | ⟨i, hi, e⟩)
              · exact .inl ((hTT k).2 (.inl hk))
              · by_cases e2 : i = p
                · subst e2; rw [if_pos rfl] at e; exact .inr e
                · rw [if_neg e2] at e; exact .inl ((hTT k).2 (.inr ⟨i, by rw [HPP.out]; omega, e⟩))
set_option maxRecDepth 40000 in
set_option maxHeartbeats 4000000 in
theorem nb_hex (g : Grid) (ah ac : Option Addr) (nh ch nc cc : Nat) (W : World) (h1 : Ints W ah nh ch g.holes) (h2 : Ints W ac nc cc g.cells) (hn : nh ≤ 10000000) (hm : nc ≤ 10000000000) (he : checkErr g = 0) (hv : Valid g) (hs : g.shape = 2) :
    Calls Try.prog 45 #[.agg #[.int .i64 g.shape, .int .i64 g.w, .int .i64 g.h, .slice ah nh ch, .slice ac nc cc]] W (RetRowsE W 22 (nbL g) 0) := by
  have hal : Below W.heap.size W ((W.alloc (.cells #[.int .i64 g.shape, .int .i64 g.w, .int .i64 g.h, .slice ah nh ch, .slice ac nc cc] 24)).alloc (.cells #[.slice none 0 0] 28)) := ((Below.refl _ _).alloc (Nat.le_refl _) _).alloc (by simp) _
  have hc := gridsCheck_any g ah ac nh ch nc cc _ (h1.below hal) (h2.below hal) hn hm
  rw [he] at hc
  have HC := Lib.hid hc
  have HV := Lib.hid hv
  have HE := Lib.hid he
  clear hc he hv
  have hmm := fun w => run_makeMap (P := Try.prog) 84 w
  have ts : (g.shape == 1) = false := by rw [hs]; rfl
  have HS := Lib.hid hs
  clear hs
  refine (callsIn_wide (n := 6)).1 (callsIn_of_wp_marks Try.func45 rfl trivial ?_ rfl)
  simp only [Try.ntmps45, List.size_toArray, List.length_cons, List.length_nil, Nat.reduceAdd, Nat.reduceSub, Array.replicate_succ, Array.replicate_zero, List.push_toArray, List.append_toArray, List.nil_append, List.cons_append]
  gi_wp2_with (first | (refine ⟨trivial, ?_⟩; gi_at_call 43; refine (callsIn_wide.2 HC.out).mono ?_; rintro e w1 ⟨rfl, hB1⟩; have hg := (Box.below ((Box.new W #[.int .i64 g.shape, .int .i64 g.w, .int .i64 g.h, .slice ah nh ch, .slice ac nc cc] 24).alloc (.cells #[.slice none 0 0] 28)) hB1); obtain ⟨g0, g1, g2, g3, g4⟩ := hg.g5; have hgl := hg.lt; have hA4 : Below w1.heap.size w1 (((((w1.alloc (.cells #[.int .i64 1, .int .i64 0, .int .i64 (-1), .int .i64 0, .int .i64 0, .int .i64 1, .int .i64 0, .int .i64 (-1), .int .i64 1, .int .i64 (-1), .int .i64 (-1), .int .i64 1] 83)).alloc (.cells #[.int .i64 6] 3)).alloc (.map #[] 0)).alloc (.cells #[.map (some (w1.heap.size + 1 + 1))] 84))) := ((((Below.refl _ _).alloc (Nat.le_refl _) _).alloc (by simp) _).alloc (by simp; omega) _).alloc (by simp; omega) _; obtain ⟨k0, k1, k2, k3, k4⟩ := (hg.below hA4).g5) | (refine ⟨trivial, ?_⟩; gi_at_call 75; refine (callsIn_wide.2 (spots_any _ rfl _)).mono ?_; rintro e w2 ⟨rfl, rfl⟩))
  clear k0 k1 k2 k3 k4 g0 g1 g2 g3 g4 hmm
  have hsz := hB1.size
  simp only [World.size_alloc] at hsz
  have hlv := Box.below (Box.new (W.alloc (.cells #[.int .i64 g.shape, .int .i64 g.w, .int .i64 g.h, .slice ah nh ch, .slice ac nc cc] 24)) #[.slice none 0 0] 28) hB1
  simp only [World.size_alloc] at hlv
  have hB5 : Below W.heap.size W ((((((w1.alloc (.cells #[.int .i64 1, .int .i64 0, .int .i64 (-1), .int .i64 0, .int .i64 0, .int .i64 1, .int .i64 0, .int .i64 (-1), .int .i64 1, .int .i64 (-1), .int .i64 (-1), .int .i64 1] 83)).alloc (.cells #[.int .i64 6] 3)).alloc (.map #[] 0)).alloc (.cells #[.map (some (w1.heap.size + 1 + 1))] 84))).alloc (.cells #[.int .i64 g.shape, .int .i64 g.w, .int .i64 g.h, .slice ah nh ch, .slice ac nc cc] 24)) := ((hal.on hB1).on hA4).alloc (by simp; omega) _
  have hS5 : Below w1.heap.size w1 ((((((w1.alloc (.cells #[.int .i64 1, .int .i64 0, .int .i64 (-1), .int .i64 0, .int .i64 0, .int .i64 1, .int .i64 0, .int .i64 (-1), .int .i64 1, .int .i64 (-1), .int .i64 (-1), .int .i64 1] 83)).alloc (.cells #[.int .i64 6] 3)).alloc (.map #[] 0)).alloc (.cells #[.map (some (w1.heap.size + 1 + 1))] 84))).alloc (.cells #[.int .i64 g.shape, .int .i64 g.w, .int .i64 g.h, .slice ah nh ch, .slice ac nc cc] 24)) := hA4.alloc (by simp; omega) _
  have hz5 : ((((((w1.alloc (.cells #[.int .i64 1, .int .i64 0, .int .i64 (-1), .int .i64 0, .int .i64 0, .int .i64 1, .int .i64 0, .int .i64 (-1), .int .i64 1, .int .i64 (-1), .int .i64 (-1), .int .i64 1] 83)).alloc (.cells #[.int .i64 6] 3)).alloc (.map #[] 0)).alloc (.cells #[.map (some (w1.heap.size + 1 + 1))] 84))).alloc (.cells #[.int .i64 g.shape, .int .i64 g.w, .int .i64 g.h, .slice ah nh ch, .slice ac nc cc] 24)).heap.size = w1.heap.size + 5 := by simp
  have x0 : Box ((((((w1.alloc (.cells #[.int .i64 1, .int .i64 0, .int .i64 (-1), .int .i64 0, .int .i64 0, .int .i64 1, .int .i64 0, .int .i64 (-1), .int .i64 1, .int .i64 (-1), .int .i64 (-1), .int .i64 1] 83)).alloc (.cells #[.int .i64 6] 3)).alloc (.map #[] 0)).alloc (.cells #[.map (some (w1.heap.size + 1 + 1))] 84))).alloc (.cells #[.int .i64 g.shape, .int .i64 g.w, .int .i64 g.h, .slice ah nh ch, .slice ac nc cc] 24)) w1.heap.size #[.int .i64 1, .int .i64 0, .int .i64 (-1), .int .i64 0, .int .i64 0, .int .i64 1, .int .i64 0, .int .i64 (-1), .int .i64 1, .int .i64 (-1), .int .i64 (-1), .int .i64 1] 83 := ((((Box.new w1 _ _).alloc _).alloc _).alloc _).alloc _
  have x1 : Box ((((((w1.alloc (.cells #[.int .i64 1, .int .i64 0, .int .i64 (-1), .int .i64 0, .int .i64 0, .int .i64 1, .int .i64 0, .int .i64 (-1), .int .i64 1, .int .i64 (-1), .int .i64 (-1), .int .i64 1] 83)).alloc (.cells #[.int .i64 6] 3)).alloc (.map #[] 0)).alloc (.cells #[.map (some (w1.heap.size + 1 + 1))] 84))).alloc (.cells #[.int .i64 g.shape, .int .i64 g.w, .int .i64 g.h, .slice ah nh ch, .slice ac nc cc] 24)) (w1.heap.size + 1) #[.int .i64 6] 3 := by
    have := (((Box.new (w1.alloc (.cells #[.int .i64 1, .int .i64 0, .int .i64 (-1), .int .i64 0, .int .i64 0, .int .i64 1, .int .i64 0, .int .i64 (-1), .int .i64 1, .int .i64 (-1), .int .i64 (-1), .int .i64 1] 83)) #[.int .i64 6] 3).alloc (.map #[] 0)).alloc (.cells #[.map (some (w1.heap.size + 1 + 1))] 84)).alloc (.cells #[.int .i64 g.shape, .int .i64 g.w, .int .i64 g.h, .slice ah nh ch, .slice ac nc cc] 24)
    simpa only [World.size_alloc] using this
  have x2 : SMap ((((((w1.alloc (.cells #[.int .i64 1, .int .i64 0, .int .i64 (-1), .int .i64 0, .int .i64 0, .int .i64 1, .int .i64 0, .int .i64 (-1), .int .i64 1, .int .i64 (-1), .int .i64 (-1), .int .i64 1] 83)).alloc (.cells #[.int .i64 6] 3)).alloc (.map #[] 0)).alloc (.cells #[.map (some (w1.heap.size + 1 + 1))] 84))).alloc (.cells #[.int .i64 g.shape, .int .i64 g.w, .int .i64 g.h, .slice ah nh ch, .slice ac nc cc] 24)) (w1.heap.size + 1 + 1) [] := by
    have := ((SMap.made ((w1.alloc (.cells #[.int .i64 1, .int .i64 0, .int .i64 (-1), .int .i64 0, .int .i64 0, .int .i64 1, .int .i64 0, .int .i64 (-1), .int .i64 1, .int .i64 (-1), .int .i64 (-1), .int .i64 1] 83)).alloc (.cells #[.int .i64 6] 3))).below ((Below.refl _ _).alloc (Nat.le_refl _) (.cells #[.map (some (w1.heap.size + 1 + 1))] 84))).below ((Below.refl _ _).alloc (Nat.le_refl _) (.cells #[.int .i64 g.shape, .int .i64 g.w, .int .i64 g.h, .slice ah nh ch, .slice ac nc cc] 24))
    simpa only [World.size_alloc] using this
  have x3 : Box ((((((w1.alloc (.cells #[.int .i64 1, .int .i64 0, .int .i64 (-1), .int .i64 0, .int .i64 0, .int .i64 1, .int .i64 0, .int .i64 (-1), .int .i64 1, .int .i64 (-1), .int .i64 (-1), .int .i64 1] 83)).alloc (.cells #[.int .i64 6] 3)).alloc (.map #[] 0)).alloc (.cells #[.map (some (w1.heap.size + 1 + 1))] 84))).alloc (.cells #[.int .i64 g.shape, .int .i64 g.w, .int .i64 g.h, .slice ah nh ch, .slice ac nc cc] 24)) (w1.heap.size + 1 + 1 + 1) #[.map (some (w1.heap.size + 1 + 1))] 84 := by
    have := (Box.new (((w1.alloc (.cells #[.int .i64 1, .int .i64 0, .int .i64 (-1), .int .i64 0, .int .i64 0, .int .i64 1, .int .i64 0, .int .i64 (-1), .int .i64 1, .int .i64 (-1), .int .i64 (-1), .int .i64 1] 83)).alloc (.cells #[.int .i64 6] 3)).alloc (.map #[] 0)) #[.map (some (w1.heap.size + 1 + 1))] 84).alloc (.cells #[.int .i64 g.shape, .int .i64 g.w, .int .i64 g.h, .slice ah nh ch, .slice ac nc cc] 24)
    simpa only [World.size_alloc] using this
  have x4 : Box ((((((w1.alloc (.cells #[.int .i64 1, .int .i64 0, .int .i64 (-1), .int .i64 0, .int .i64 0, .int .i64 1, .int .i64 0, .int .i64 (-1), .int .i64 1, .int .i64 (-1), .int .i64 (-1), .int .i64 1] 83)).alloc (.cells #[.int .i64 6] 3)).alloc (.map #[] 0)).alloc (.cells #[.map (some (w1.heap.size + 1 + 1))] 84))).alloc (.cells #[.int .i64 g.shape, .int .i64 g.w, .int .i64 g.h, .slice ah nh ch, .slice ac nc cc] 24)) (w1.heap.size + 1 + 1 + 1 + 1) #[.int .i64 g.shape, .int .i64 g.w, .int .i64 g.h, .slice ah nh ch, .slice ac nc cc] 24 := by
    have := Box.new (((((w1.alloc (.cells #[.int .i64 1, .int .i64 0, .int .i64 (-1), .int .i64 0, .int .i64 0, .int .i64 1, .int .i64 0, .int .i64 (-1), .int .i64 1, .int .i64 (-1), .int .i64 (-1), .int .i64 1] 83)).alloc (.cells #[.int .i64 6] 3)).alloc (.map #[] 0)).alloc (.cells #[.map (some (w1.heap.size + 1 + 1))] 84))) #[.int .i64 g.shape, .int .i64 g.w, .int .i64 g.h, .slice ah nh ch, .slice ac nc cc] 24
    simpa only [World.size_alloc] using this
  have hg5 := hg.below hS5
  have hl5 := hlv.below hS5
  obtain ⟨w5, hw5⟩ : ∃ w5, (((((w1.alloc (.cells #[.int .i64 1, .int .i64 0, .int .i64 (-1), .int .i64 0, .int .i64 0, .int .i64 1, .int .i64 0, .int .i64 (-1), .int .i64 1, .int .i64 (-1), .int .i64 (-1), .int .i64 1] 83)).alloc (.cells #[.int .i64 6] 3)).alloc (.map #[] 0)).alloc (.cells #[.map (some (w1.heap.size + 1 + 1))] 84))).alloc (.cells #[.int .i64 g.shape, .int .i64 g.w, .int .i64 g.h, .slice ah nh ch, .slice ac nc cc] 24) = w5 := ⟨_, rfl⟩
  rw [hw5] at hB5 hS5 hz5 x0 x1 x2 x3 x4 hg5 hl5 ⊢
  clear hw5 hA4 hg hlv
  obtain ⟨B, hB⟩ : ∃ B, w1.heap.size = B := ⟨_, rfl⟩
  rw [hB] at hz5 x0 x1 x2 x3 x4 hsz hgl ⊢
  clear hB
  have hnl := HV.out.len
  rw [h2.len] at hnl
  refine wpIn_rangeFunc_told3 rfl (by omega) (gf := 98) (lb := #[.pointer (some ⟨B + 1 + 1 + 1 + 1, 0, none⟩)]) rfl trivial (enters_of Try.func98 (by kernel_rfl) rfl)
    (spots1_told g (B + 1 + 1 + 1 + 1) ah ac nh ch nc cc w5 x4 (h2.below hB5) ⟨HV.out.dims.2.1, HV.out.dims.2.2.1⟩ (fun x hx => by have := HV.out.mem hx; have := HV.out.area; omega) hnl) (Below.refl _ _) (fun _ => rfl)
    (fun k => k = B + 1 + 1) ?hT0 (by rintro k rfl; omega) (N1 W w5 (B + 1 + 1)) (N1V g nc W w5 (B + 1 + 1)) ?hIput ?hVput ?hIb (fun x s => { tmps := #[.agg #[.int .i64 g.shape, .int .i64 g.w, .int .i64 g.h, .slice ah nh ch, .slice ac nc cc], .pointer (some ⟨W.heap.size, 0, none⟩), .pointer (some ⟨W.heap.size + 1, 0, none⟩), .int .i64 0, .pointer (some ⟨B, 0, none⟩), .pointer (some ⟨B + 1, 0, none⟩), .pointer (some ⟨B + 1 + 1 + 1, 0, none⟩), (.int .i64 x.1), (.pointer (some ⟨s, 0, none⟩)), undef, undef, undef, undef, undef, undef, .agg #[.int .i64 g.shape, .int .i64 g.w, .int .i64 g.h, .slice ah nh ch, .slice ac nc cc], .int .i64 0, .bool false, .agg #[.int .i64 1, .int .i64 0], .agg #[.int .i64 (-1), .int .i64 0], .agg #[.int .i64 0, .int .i64 1], .agg #[.int .i64 0, .int .i64 (-1)], .agg #[.int .i64 1, .int .i64 (-1)], .agg #[.int .i64 (-1), .int .i64 1], .agg #[.int .i64 1, .int .i64 0, .int .i64 (-1), .int .i64 0, .int .i64 0, .int .i64 1, .int .i64 0, .int .i64 (-1), .int .i64 1, .int .i64 (-1), .int .i64 (-1), .int .i64 1], .pointer (some ⟨W.heap.size, 0, none⟩), .int .i64 g.shape, .bool false, .map (some (B + 1 + 1)), .agg #[.int .i64 g.shape, .int .i64 g.w, .int .i64 g.h, .slice ah nh ch, .slice ac nc cc], .func (.func 98) #[] #[.pointer (some ⟨B + 1 + 1 + 1 + 1, 0, none⟩)], (.int .i64 x.1), (.agg #[.int .i64 x.2.1, .int .i64 x.2.2]), undef, undef, undef, undef, undef, undef, undef, undef, undef, undef, undef, undef, undef, undef, undef, undef, undef, undef, undef, undef, undef, undef, undef, undef, undef, undef, undef, undef, undef, undef, undef, undef, undef, undef, undef, undef, undef, undef, undef, undef, undef, undef, undef, undef, undef, undef, undef, undef, undef, undef, undef, undef], defers := [] }) (fun x W2 => W2.alloc (.cells #[.int .i64 x.2.1, .int .i64 x.2.2] 82)) (fun x W2 => (Below.refl _ _).alloc (Nat.le_refl _) _) ?hV ?hT ?h0 ?assign ?body ?done
  case hT0 =>
    rintro k rfl (h | ⟨o, h⟩)
    · omega
    · by_cases h0 : nc = 0
      · have := HV.out.pos; rw [h2.len] at this; omega
      · obtain ⟨b', o', e, hlt⟩ := h2.at' (by omega)
        rw [e] at h
        have h := Option.some.inj h
        have : b' = B + 1 + 1 := by simpa using congrArg Addr.block h
        omega
  case hIput => rintro T pre W2 l o o' hI hl ho hno; exact hI.put hl (by omega) (by omega) o'
  case hVput => rintro T pre x s W2 l o o' ⟨h1, h2, h3, h4, h5, h6⟩ hl hls ho hno; exact ⟨h1.put hl (by omega) (by omega) o', box_put2 h2 (by omega) o', h3, h4, h5, h6⟩
  case hIb => rintro T pre W2 W3 hI hb; exact hI.on hb
  case hV => rintro T pre x W0 W1 hI hb ⟨hp, hl, hx⟩ hlen hs; exact ⟨(hI.on hb).on ((Below.refl _ _).alloc (Nat.le_refl _) _), Box.new _ _ _, hs, hp, hl, hx⟩
  case hT => rintro T pre W2 hI k o hT hk ho; have := (hI.T k).1 hT; omega
  case h0 => exact ⟨by simpa using x2, hB5, fun k _ _ => rfl, Nat.le_refl _, fun k => Iff.rfl⟩
  case assign =>
    rintro l ⟨c, px, py⟩ W2 K hK
    simp only [spEnc] at hK ⊢
    gi_wp2
    exact hK
  case body =>
    rintro l T pre x s W2 ⟨hI, hbx, hnew, hpre, hlt, hx⟩ hlen hs
    obtain ⟨p, hp⟩ : ∃ p, pre.length = p := ⟨_, rfl⟩
    rw [hp] at hpre hlt hx
    obtain ⟨px, py, hpl⟩ : ∃ px py, plc g p = (px, py) := ⟨_, _, rfl⟩
    have hsm := small_plc HV.out (k := p) (by rw [h2.len]; exact hlt)
    have hnw := mapL_new HV.out (k := p) (by rw [h2.len]; exact hlt)
    rw [hpl] at hx hsm hnw
    subst hx
    simp only at hsm hbx
    have hMp := hI.map
    rw [hpre] at hMp
    have hv3 : Box W2 (B + 1 + 1 + 1) #[.map (some (B + 1 + 1))] 84 := (hI.keep _ (by omega) (by omega)).trans x3
    have c0 : W2.cell? ⟨B + 1 + 1 + 1, 0, none⟩ = some (.map (some (B + 1 + 1))) := by simpa using hv3.cell 0
    have c1 : W2.cell? ⟨s, 0, none⟩ = some (.int .i64 px) := by simpa using hbx.cell 0
    have c2 : W2.cell? ⟨s, 1, none⟩ = some (.int .i64 py) := by simpa using hbx.cell 1
    obtain ⟨w3, hrun, hM3, hg3, hs3⟩ := hMp.put (px, py) p ⟨WalkArith.wf_i64 (by simp only; omega), WalkArith.wf_i64 (by simp only; omega)⟩ hnw
    simp only [pv] at hrun
    clear hnw hsm hMp
    gi_wp2
    clear hrun
    have hls := hbx.lt
    have hT1 := hI.T
    refine ⟨T, ⟨by omega, fun k hk hTk => hg3.block k (by omega) (fun e => hTk ((hT1 k).2 (Option.some.inj e))), fun k h => .inl h, fun k h => by have := (hT1 k).1 h; have := hI.size; omega⟩, ⟨?_, ?_, fun k hk hne => (hg3.block k (by have := hI.size; omega) (fun e => hne (Option.some.inj e))).trans (hI.keep k hk hne), by have := hI.size; omega, hT1⟩⟩
    · rw [List.map_append]; first | exact hM3 | (rw [hpre]; exact hM3)
    · exact hI.below.grown hg3 (by have := hI.size; omega) (fun k e => by have := Option.some.inj e; omega)
  case done =>
    rintro D T xs W2 hD rfl hI hK
    have hszI := hI.size
    have kp := hI.keep
    have y0 : Box W2 B _ 83 := (kp _ (by omega) (by omega)).trans x0
    have y1 : Box W2 (B + 1) #[.int .i64 6] 3 := (kp _ (by omega) (by omega)).trans x1
    have y3 : Box W2 (B + 1 + 1 + 1) #[.map (some (B + 1 + 1))] 84 := (kp _ (by omega) (by omega)).trans x3
    have yg : Box W2 W.heap.size #[.int .i64 g.shape, .int .i64 g.w, .int .i64 g.h, .slice ah nh ch, .slice ac nc cc] 24 := (kp _ (by omega) (by omega)).trans hg5
    have yl : Box W2 (W.heap.size + 1) #[.slice none 0 0] 28 := (kp _ (by omega) (by omega)).trans hl5
    have yM : SMap W2 (B + 1 + 1) (mapL g nc) := hI.map
    have yB := hI.below
    clear x0 x1 x2 x3 x4 hg5 hl5 hI hB5 hS5 kp
    obtain ⟨g0, g1, g2, g3, g4⟩ := yg.g5
    have l0 : W2.cell? ⟨W.heap.size + 1, 0, none⟩ = some (.slice none 0 0) := by simpa using yl.cell 0
    have lf := yl.frozen 0
    have hll := yl.lt
    have hgl2 := yg.lt
    have hmk := make_rows nc (by omega) W2
    have z0 : Box (((W2.setCell ⟨W.heap.size + 1, 0, none⟩ (.slice (some ⟨W2.heap.size, 0, none⟩) nc nc)).alloc (.cells (madeCells #[.slice none 0 0] nc) 22)).alloc (.cells #[.int .i64 g.shape, .int .i64 g.w, .int .i64 g.h, .slice ah nh ch, .slice ac nc cc] 24)) W2.heap.size (madeCells #[.slice none 0 0] nc) 22 := by
      have := (Box.new (W2.setCell ⟨W.heap.size + 1, 0, none⟩ (.slice (some ⟨W2.heap.size, 0, none⟩) nc nc)) (madeCells #[.slice none 0 0] nc) 22).alloc (.cells #[.int .i64 g.shape, .int .i64 g.w, .int .i64 g.h, .slice ah nh ch, .slice ac nc cc] 24)
      simpa only [World.size_setCell] using this
    have z1 : Box (((W2.setCell ⟨W.heap.size + 1, 0, none⟩ (.slice (some ⟨W2.heap.size, 0, none⟩) nc nc)).alloc (.cells (madeCells #[.slice none 0 0] nc) 22)).alloc (.cells #[.int .i64 g.shape, .int .i64 g.w, .int .i64 g.h, .slice ah nh ch, .slice ac nc cc] 24)) (W2.heap.size + 1) #[.int .i64 g.shape, .int .i64 g.w, .int .i64 g.h, .slice ah nh ch, .slice ac nc cc] 24 := by
      have := Box.new ((W2.setCell ⟨W.heap.size + 1, 0, none⟩ (.slice (some ⟨W2.heap.size, 0, none⟩) nc nc)).alloc (.cells (madeCells #[.slice none 0 0] nc) 22)) #[.int .i64 g.shape, .int .i64 g.w, .int .i64 g.h, .slice ah nh ch, .slice ac nc cc] 24
      simpa only [World.size_alloc, World.size_setCell] using this
    have z2 : Box (((W2.setCell ⟨W.heap.size + 1, 0, none⟩ (.slice (some ⟨W2.heap.size, 0, none⟩) nc nc)).alloc (.cells (madeCells #[.slice none 0 0] nc) 22)).alloc (.cells #[.int .i64 g.shape, .int .i64 g.w, .int .i64 g.h, .slice ah nh ch, .slice ac nc cc] 24)) (W.heap.size + 1) #[.slice (some ⟨W2.heap.size, 0, none⟩) nc nc] 28 := by
      have := ((yl.set 0 (.slice (some ⟨W2.heap.size, 0, none⟩) nc nc)).alloc (.cells (madeCells #[.slice none 0 0] nc) 22)).alloc (.cells #[.int .i64 g.shape, .int .i64 g.w, .int .i64 g.h, .slice ah nh ch, .slice ac nc cc] 24)
      simpa using this
    have zo : ∀ k, k < W2.heap.size → k ≠ W.heap.size + 1 → (((W2.setCell ⟨W.heap.size + 1, 0, none⟩ (.slice (some ⟨W2.heap.size, 0, none⟩) nc nc)).alloc (.cells (madeCells #[.slice none 0 0] nc) 22)).alloc (.cells #[.int .i64 g.shape, .int .i64 g.w, .int .i64 g.h, .slice ah nh ch, .slice ac nc cc] 24)).heap[k]? = W2.heap[k]? := fun k hk hne =>
      (Below.heap_alloc _ _ k (by simp; omega)).trans ((Below.heap_alloc _ _ k (by simpa using hk)).trans (Below.heap_setCell _ _ _ k hne))
    have zB : Below W.heap.size W (((W2.setCell ⟨W.heap.size + 1, 0, none⟩ (.slice (some ⟨W2.heap.size, 0, none⟩) nc nc)).alloc (.cells (madeCells #[.slice none 0 0] nc) 22)).alloc (.cells #[.int .i64 g.shape, .int .i64 g.w, .int .i64 g.h, .slice ah nh ch, .slice ac nc cc] 24)) := ((yB.setCell (p := ⟨W.heap.size + 1, 0, none⟩) (by simp) _).alloc (by simp; omega) _).alloc (by simp; omega) _
    have zs : (((W2.setCell ⟨W.heap.size + 1, 0, none⟩ (.slice (some ⟨W2.heap.size, 0, none⟩) nc nc)).alloc (.cells (madeCells #[.slice none 0 0] nc) 22)).alloc (.cells #[.int .i64 g.shape, .int .i64 g.w, .int .i64 g.h, .slice ah nh ch, .slice ac nc cc] 24)).heap.size = W2.heap.size + 2 := by simp
    gi_wp2_with (refine ⟨trivial, ?_⟩; gi_at_call 75; refine (callsIn_wide.2 (spots_any _ rfl _)).mono ?_; rintro e w9 ⟨rfl, rfl⟩)
    obtain ⟨w6, hw6⟩ : ∃ w6, (((W2.setCell ⟨W.heap.size + 1, 0, none⟩ (.slice (some ⟨W2.heap.size, 0, none⟩) nc nc)).alloc (.cells (madeCells #[.slice none 0 0] nc) 22)).alloc (.cells #[.int .i64 g.shape, .int .i64 g.w, .int .i64 g.h, .slice ah nh ch, .slice ac nc cc] 24)) = w6 := ⟨_, rfl⟩
    rw [hw6] at z0 z1 z2 zo zB zs ⊢
    clear hw6 hmk g0 g1 g2 g3 g4 l0 lf
    obtain ⟨LB, hLB⟩ : ∃ LB, W2.heap.size = LB := ⟨_, rfl⟩
    rw [hLB] at z0 z1 z2 zo zs hszI hll hgl2 ⊢
    have r0 : Box w6 B _ 83 := (zo _ (by omega) (by omega)).trans y0
    have r1 : Box w6 (B + 1) #[.int .i64 6] 3 := (zo _ (by omega) (by omega)).trans y1
    have r3 : Box w6 (B + 1 + 1 + 1) #[.map (some (B + 1 + 1))] 84 := (zo _ (by omega) (by omega)).trans y3
    have rM : SMap w6 (B + 1 + 1) (mapL g nc) := ⟨let ⟨es, c, h1, h2⟩ := yM.has; ⟨es, c, (zo _ (by omega) (by omega)).trans h1, h2⟩, yM.keys, yM.apart⟩
    have hDl := (Array.getElem?_eq_some_iff.1 hK).1
    have hK6 : w6.heap[D]? = some (.deferred (some [])) := (zo D (by rw [← hLB]; exact hDl) (by omega)).trans hK
    rw [hLB] at hDl
    clear y0 y1 y3 yl yM zo hLB hK yB
    refine wpIn_rangeFunc_told3 rfl (by omega) (gf := 98) (lb := #[.pointer (some ⟨LB + 1, 0, none⟩)]) rfl trivial (enters_of Try.func98 (by kernel_rfl) rfl)
      (spots1_told g (LB + 1) ah ac nh ch nc cc w6 z1 (h2.below zB) ⟨HV.out.dims.2.1, HV.out.dims.2.2.1⟩ (fun x hx => by have := HV.out.mem hx; have := HV.out.area; omega) hnl) (Below.refl _ _) (fun _ => rfl)
      (fun k => k = LB) ?hT0b (by rintro k rfl; omega) (N2 g nc W w6 LB) (fun T pre x s V => ∃ vs, N2V g nc W w6 LB T pre x s V vs) ?hIputb ?hVputb ?hIbb (fun x s => { tmps := #[.agg #[.int .i64 g.shape, .int .i64 g.w, .int .i64 g.h, .slice ah nh ch, .slice ac nc cc], .pointer (some ⟨W.heap.size, 0, none⟩), .pointer (some ⟨W.heap.size + 1, 0, none⟩), .int .i64 0, .pointer (some ⟨B, 0, none⟩), .pointer (some ⟨B + 1, 0, none⟩), .pointer (some ⟨B + 1 + 1 + 1, 0, none⟩), undef, undef, (.int .i64 x.1), (.pointer (some ⟨s, 0, none⟩)), undef, undef, undef, undef, .agg #[.int .i64 g.shape, .int .i64 g.w, .int .i64 g.h, .slice ah nh ch, .slice ac nc cc], .int .i64 0, .bool false, .agg #[.int .i64 1, .int .i64 0], .agg #[.int .i64 (-1), .int .i64 0], .agg #[.int .i64 0, .int .i64 1], .agg #[.int .i64 0, .int .i64 (-1)], .agg #[.int .i64 1, .int .i64 (-1)], .agg #[.int .i64 (-1), .int .i64 1], .agg #[.int .i64 1, .int .i64 0, .int .i64 (-1), .int .i64 0, .int .i64 0, .int .i64 1, .int .i64 0, .int .i64 (-1), .int .i64 1, .int .i64 (-1), .int .i64 (-1), .int .i64 1], .pointer (some ⟨W.heap.size, 0, none⟩), .int .i64 g.shape, .bool false, .map (some (B + 1 + 1)), .agg #[.int .i64 g.shape, .int .i64 g.w, .int .i64 g.h, .slice ah nh ch, .slice ac nc cc], .func (.func 98) #[] #[.pointer (some ⟨B + 1 + 1 + 1 + 1, 0, none⟩)], undef, undef, undef, undef, undef, .pointer (some ⟨W.heap.size, 4, none⟩), .slice ac nc cc, .int .i64 nc, .slice (some ⟨LB, 0, none⟩) nc nc, .agg #[.int .i64 g.shape, .int .i64 g.w, .int .i64 g.h, .slice ah nh ch, .slice ac nc cc], .func (.func 98) #[] #[.pointer (some ⟨LB + 1, 0, none⟩)], (.int .i64 x.1), (.agg #[.int .i64 x.2.1, .int .i64 x.2.2]), undef, undef, undef, undef, undef, undef, undef, undef, undef, undef, undef, undef, undef, undef, undef, undef, undef, undef, undef, undef, undef, undef, undef, undef, undef, undef, undef, undef, undef, undef, undef, undef, undef, undef, undef, undef, undef, undef, undef, undef, undef], defers := [] }) (fun x W2 => W2.alloc (.cells #[.int .i64 x.2.1, .int .i64 x.2.2] 82)) (fun x W2 => (Below.refl _ _).alloc (Nat.le_refl _) _) ?hVb ?hTb ?h0b ?assignb ?bodyb ?doneb
    case hT0b =>
      rintro k rfl (h | ⟨o, h⟩)
      · omega
      · by_cases h0 : nc = 0
        · have := HV.out.pos; rw [h2.len] at this; omega
        · obtain ⟨b', o', e, hlt⟩ := h2.at' (by omega)
          rw [e] at h
          have h := Option.some.inj h
          have : b' = k := by simpa using congrArg Addr.block h
          omega
    case hIputb => rintro T pre W2 l o o' ⟨vs, hI⟩ hl ho hno; exact ⟨vs, hI.put hl (by omega) (by omega) ho hno o'⟩
    case hVputb => rintro T pre x s W2 l o o' ⟨vs, h1, h2, h3, h4, h5, h6⟩ hl hls ho hno; exact ⟨vs, h1.put hl (by omega) (by omega) ho hno o', box_put2 h2 (by omega) o', h3, h4, h5, h6⟩
    case hIbb => rintro T pre W2 W3 ⟨vs, hI⟩ hb; exact ⟨vs, hI.on hb⟩
    case hVb => rintro T pre x W0 W1 ⟨vs, hI⟩ hb ⟨hp, hl, hx⟩ hlen hs; exact ⟨vs, (hI.on hb).on ((Below.refl _ _).alloc (Nat.le_refl _) _), Box.new _ _ _, hs, fun i hi k hk => ((hI.on hb).rows.own i hi |>.lt k hk).2, hl, hx⟩
    case hTb =>
      rintro T pre W2 ⟨vs, hI⟩ k o hT hk ho
      rcases (hI.T k).1 hT with h | ⟨i, hi, h⟩
      · omega
      · exact ownInts_cells (hI.rows.own i hi) h ho
    case h0b => exact ⟨fun _ => .slice none 0 0, ⟨⟨_, z0, size_madeCells _ _, fun i hi => absurd hi (by simp), fun i _ hi => by simp [madeCells, hi, Nat.mod_one]⟩, fun i hi => absurd hi (by simp)⟩, zB, fun k _ _ => rfl, Nat.le_refl _, fun k => by simp⟩
    case assignb =>
      rintro l ⟨c, px, py⟩ W2 K hK
      simp only [spEnc] at hK ⊢
      gi_wp2
      exact hK
    case doneb =>
      rintro D2 T xs W3 hD2 rfl ⟨vs, hI⟩ hK
      have hN := hI.rows
      rw [spotsUpto_len] at hN
      have hzI := hI.size
      have q2 : Box W3 (W.heap.size + 1) #[.slice (some ⟨LB, 0, none⟩) nc nc] 28 := (hI.keep _ (by omega) (by omega)).trans z2
      have hKD : W3.heap[D]? = some (.deferred (some [])) := (hI.keep D (by omega) (by omega)).trans hK6
      have hBl := hI.below
      have hDne : D ≠ D2 := by omega
      have f1 : W3.cell? ⟨W.heap.size + 1, 0, none⟩ = some (.slice (some ⟨LB, 0, none⟩) nc nc) := by simpa using q2.cell 0
      have ff := q2.frozen 0
      clear hI
      gi_wp2
      have hK' : (W3.setCell ⟨W.heap.size + 1, 0, none⟩ (.slice (some ⟨LB, 0, none⟩) nc nc)).heap[D2]? = some (.deferred (some [])) := (Below.heap_setCell _ _ _ _ (by simp; omega)).trans hK
      have hKD' : ((W3.setCell ⟨W.heap.size + 1, 0, none⟩ (.slice (some ⟨LB, 0, none⟩) nc nc)).putObj D2 (.deferred none)).heap[D]? = some (.deferred (some [])) := (World.putObj_heap_other hDne).trans ((Below.heap_setCell _ _ _ _ (by simp; omega)).trans hKD)
      have hb7 := box_put2 (box_put2 (q2.set 0 (.slice (some ⟨LB, 0, none⟩) nc nc)) (show W.heap.size + 1 ≠ D2 by omega) (.deferred none)) (show W.heap.size + 1 ≠ D by omega) (.deferred none)
      have h7 := hb7.cell 0
      simp at h7
      have hN7 := ((hN.set (B := W.heap.size + 1) (i := 0) (by omega) (by omega) (.slice (some ⟨LB, 0, none⟩) nc nc)).put (by omega) hK' rfl (.deferred none)).put (by omega) hKD' rfl (.deferred none)
      refine ⟨by simp, .inl ⟨_, _, rfl, run_takeDeferred hK', ⟨by simp, .inl ⟨_, _, rfl, run_takeDeferred hKD', ?_⟩⟩⟩⟩
      refine ⟨.tuple #[.slice (some ⟨LB, 0, none⟩) nc nc, .int .i64 0], ?_, ?_⟩
      · simp [results, Try.results45, go_sem, h7]
      · exact ⟨_, rfl, hN7.rows h2.len (by omega) (by omega) (by omega), below_put2 (below_put2 (hBl.setCell (p := ⟨W.heap.size + 1, 0, none⟩) (by simp) _) (by omega) (by simp; omega) _) (by omega) (by simp; omega) _⟩
    case bodyb =>
      rintro l T pre x s V ⟨vs, hI, hbx, hnew, hold, hlt, hx⟩ hlen hs
      obtain ⟨p, hp⟩ : ∃ p, pre.length = p := ⟨_, rfl⟩
      rw [hp] at hlt hx hold
      obtain ⟨px, py, hpl⟩ : ∃ px py, plc g p = (px, py) := ⟨_, _, rfl⟩
      have hsm := small_plc HV.out (k := p) (by rw [h2.len]; exact hlt)
      rw [hpl] at hx hsm
      subst hx
      simp only at hsm hbx
      have HPL := Lib.hid hpl
      have HPP := Lib.hid hp
      clear hpl hp
      have hsx := hbx.lt
      have y1 : Box V (B + 1) #[.int .i64 6] 3 := (hI.keep _ (by omega) (by omega)).trans r1
      have m0 : V.cell? ⟨B + 1, 0, none⟩ = some (.int .i64 6) := by simpa using y1.cell 0
      obtain ⟨cs0, hb0, hcs0, hcv0, hcn0⟩ := hI.rows.row
      rw [HPP.out] at hcv0 hcn0
      have hlb : LB < s := by omega
      gi_wp2
      gi_loopw [47] (fun c wr => ∃ (j : Nat) (v : Value) (cs : Array Value), j ≤ 6 ∧ c = .int .i64 j ∧ Box wr LB cs 22 ∧ Hid (cs.size = nc ∧ (∀ i, i < p → cs[i]? = some (vs i)) ∧ cs[p]? = some v ∧ ∀ i, p < i → i < nc → cs[i]? = some (.slice none 0 0)) ∧ OwnInts wr (s + 1) 3 v (fnd g p j) ∧ Hid (∀ k, k < s → k ≠ LB → wr.heap[k]? = V.heap[k]?) ∧ Box wr s #[.int .i64 px, .int .i64 py] 82 ∧ Below W.heap.size W wr) (fun c _ => 6 - (intOf c).toNat)
      case atStart => exact ⟨0, .slice none 0 0, cs0, by omega, rfl, hb0, Lib.hid ⟨hcs0, hcv0, hcn0 p (Nat.le_refl _) hlt, fun i h1 h2 => hcn0 i (by omega) h2⟩, OwnInts.nil _ _ _, Lib.hid fun _ _ _ => rfl, hbx, hI.below⟩
      case round =>
        clear hb0 hcs0 hcv0 hcn0 m0 hbx hsx
        obtain ⟨j, v, cs, hj, rfl, hbL, HCS, hO, HK, hbs, hBw⟩ := hrel
        have hsl := hbs.lt
        have hLl := hbL.lt
        by_cases hlj : j < 6
        · have q0 : Box wr B _ 83 := (HK.out B (by omega) (by omega)).trans ((hI.keep B (by omega) (by omega)).trans r0)
          obtain ⟨dx, dy, hst, hdx, hdy, c0, c1⟩ := steps_cells q0 (show j < 6 by omega)
          have q3 : Box wr (B + 1 + 1 + 1) #[.map (some (B + 1 + 1))] 84 := (HK.out _ (by omega) (by omega)).trans ((hI.keep _ (by omega) (by omega)).trans r3)
          have q2 : Box wr (W.heap.size + 1) #[.slice (some ⟨LB, 0, none⟩) nc nc] 28 := (HK.out _ (by omega) (by omega)).trans ((hI.keep _ (by omega) (by omega)).trans z2)
          have qM : SMap wr (B + 1 + 1) (mapL g nc) := ⟨let ⟨es, c, h1, h2⟩ := rM.has; ⟨es, c, ((HK.out _ (by omega) (by omega)).trans (hI.keep _ (by omega) (by omega))).trans h1, h2⟩, rM.keys, rM.apart⟩
          have HS : Hid (fnd g p (j + 1) = fnd g p j ++ (lookP (mapL g nc) (px + dx, py + dy)).toList) := Lib.hid (by
            rw [fnd_succ g p j (by omega)]
            unfold key
            rw [HPL.out, hst, h2.len])
          have hfl := fnd_le g p j
          have hal2 : Below wr.heap.size wr (wr.alloc (.cells #[.int .i64 dx, .int .i64 dy] 82)) := (Below.refl _ _).alloc (Nat.le_refl _) _
          have hrun := (qM.below hal2).look (px + dx, py + dy) ⟨WalkArith.wf_i64 (by simp only; omega), WalkArith.wf_i64 (by simp only; omega)⟩
          simp only [pv] at hrun
          have e0 : wr.cell? ⟨s, 0, none⟩ = some (.int .i64 px) := by simpa using hbs.cell 0
          have e1 : wr.cell? ⟨s, 1, none⟩ = some (.int .i64 py) := by simpa using hbs.cell 1
          have e3 : wr.cell? ⟨B + 1 + 1 + 1, 0, none⟩ = some (.map (some (B + 1 + 1))) := by simpa using q3.cell 0
          have e3l := q3.lt
          have k4 : (j : Int) < 6 := by omega
          clear q0 q3 qM hst
          cases hlk : lookP (mapL g nc) (px + dx, py + dy) with
          | none =>
            rw [hlk] at hrun HS
            simp only [Option.getD_none, Option.isSome_none] at hrun
            clear hlk
            gi_wp2
            clear hrun
            go_roundw
            case rel => exact ⟨j + 1, v, cs, by omega, by go_num, hbL.below hal2, HCS, by rw [HS.out]; simpa using hO.below hal2, Lib.hid fun k hk hne => (hal2.block k (by omega)).trans (HK.out k hk hne), hbs.below hal2, hBw.alloc (by have := hBw.size; omega) _⟩
            case measure => simp [intOf]; omega
          | some q =>
            rw [hlk] at hrun HS
            simp only [Option.getD_some, Option.isSome_some] at hrun
            clear hlk
            gi_wp2
            clear hrun
            obtain ⟨X, hX⟩ : ∃ X, wr.alloc (.cells #[.int .i64 dx, .int .i64 dy] 82) = X := ⟨_, rfl⟩
            have x2 : Box X (W.heap.size + 1) #[.slice (some ⟨LB, 0, none⟩) nc nc] 28 := by rw [← hX]; exact q2.alloc _
            have xL : Box X LB cs 22 := by rw [← hX]; exact hbL.alloc _
            have xs : Box X s #[.int .i64 px, .int .i64 py] 82 := by rw [← hX]; exact hbs.alloc _
            have xo : ∀ k, k < wr.heap.size → X.heap[k]? = wr.heap[k]? := fun k hk => by rw [← hX]; exact Below.heap_alloc _ _ k hk
            have xB : Below W.heap.size W X := by rw [← hX]; exact hBw.alloc (by have := hBw.size; omega) _
            have xz : wr.heap.size + 1 ≤ X.heap.size := by rw [← hX]; simp
            have hOX : OwnInts X (s + 1) 3 v (fnd g p j) := by rw [← hX]; exact hO.below hal2
            obtain ⟨L, hL⟩ : ∃ L, (fnd g p j).length = L := ⟨_, rfl⟩
            have hOr : X.ownsRow (s + 1) 3 1 v (fnd g p j).length ((fnd g p j).map (Value.int .i64)) := hOX
            rw [hL] at hOr hfl
            have hvl := hOX.lt
            obtain ⟨i3, hi3, hz30, hz31, hz32⟩ := info_parts info_int
            have f1 : X.cell? ⟨W.heap.size + 1, 0, none⟩ = some (.slice (some ⟨LB, 0, none⟩) nc nc) := by simpa using x2.cell 0
            have f2 : X.cell? ⟨LB, p, none⟩ = some v := by rw [xL.cell]; exact HCS.out.2.2.1
            have k1 : (p : Int) < (nc : Int) := by omega
            have k0 : (0 : Int) ≤ (p : Int) := by omega
            have hLBX := xL.lt
            have HL := Lib.hid hL
            have HXO := Lib.hid xo
            rw [hX]
            clear hX e0 e1 e3 c0 c1 hal2 hbL hbs hO hL xo q2
            refine wpIn_region_heldR (S := fun w' => w'.cell? ⟨W.heap.size + 1, 0, none⟩ = some (.slice (some ⟨LB, 0, none⟩) nc nc)) (by kernel_rfl) (by kernel_rfl) ?_
            have hS0 : (fun w' : World => w'.cell? ⟨W.heap.size + 1, 0, none⟩ = some (.slice (some ⟨LB, 0, none⟩) nc nc)) X.drew := f1
            refine wpAnyH_take (i := 0) (v := ?va) rfl (by kernel_rfl) (by kernel_rfl) (by kernel_rfl) NormQ.hq (Or.inl ⟨by rfl, ?ya⟩) (by assumption) ?ra
            case ya =>
              intro w hSw
              (try dsimp only at hSw)
              go_simp
              try with_reducible rfl
            try simp only [Act.put, List.setIfInBounds_toArray]
            refine wpAnyH_take (i := 1) (v := ?vb) rfl (by kernel_rfl) (by kernel_rfl) (by kernel_rfl) NormQ.hq (Or.inl ⟨by rfl, ?yb⟩) (by assumption) ?rb
            case yb =>
              intro w hSw
              (try dsimp only at hSw)
              go_simp
              try with_reducible rfl
            try simp only [Act.put]
            refine wpAnyH_take (i := 2) (v := ?vc) rfl (by kernel_rfl) (by kernel_rfl) (by kernel_rfl) NormQ.hq (Or.inl ⟨by rfl, ?yc⟩) (by assumption) ?rc
            case yc =>
              intro w hSw
              (try dsimp only at hSw)
              go_simp
              try with_reducible rfl
            try simp only [Act.put]
            refine wpAnyH_take (i := 3) (v := ?vd) rfl (by kernel_rfl) (by kernel_rfl) (by kernel_rfl) NormQ.hq (Or.inl ⟨by rfl, ?yd⟩) (by assumption) ?rd
            case yd =>
              intro w hSw
              (try dsimp only at hSw)
              go_simp
              try with_reducible rfl
            try simp only [Act.put]
            refine wpAnyH_take (i := 4) (v := ?ve) rfl (by kernel_rfl) (by kernel_rfl) (by kernel_rfl) NormQ.hq (Or.inl ⟨by rfl, ?ye⟩) (by assumption) ?re
            case ye =>
              intro w hSw
              (try dsimp only at hSw)
              go_simp
              try with_reducible rfl
            try simp only [Act.put]
            refine wpAnyH_take (i := 6) (v := ?vf) rfl (by kernel_rfl) (by kernel_rfl) (by kernel_rfl) NormQ.hq (Or.inl ⟨by rfl, ?yf⟩) (by assumption) ?rf
            case yf =>
              intro w hSw
              (try dsimp only at hSw)
              go_simp
              try with_reducible rfl
            try simp only [Act.put]
            refine wpAnyH_ready (rs := [5, 7]) (by kernel_rfl) (by simp) (AllReadyH.cons rfl (fun K hK => ?_) (AllReadyH.cons rfl (fun K hK => ?_) AllReadyH.nil))
            · go_simp
              refine hK.out _ _ f1 (fun hS1 => ?_)
              clear hK K
              refine wpAnyH_ready (rs := [7]) (by kernel_rfl) (by simp) (AllReadyH.cons rfl (fun K hK => ?_) AllReadyH.nil)
              go_simp
              refine hK.out _ _ (by simpa using (x2.alloc (.cells #[.int .i64 q] 3)).cell 0) (fun hS2 => ?_)
              clear hK K
              refine wpAnyH_ready (rs := [8]) (by kernel_rfl) (by simp) (AllReadyH.cons rfl (fun K hK => ?_) AllReadyH.nil)
              refine step_append_own2 rfl _ _ 22 rfl (s + 1) 3 i3 (.int .i64 0) 1 8 Try.underlying22 hi3 hz30 hz31 hz32 rfl (by decide) v L _ (ownsRow_below' hOr (by repeat (first | (with_reducible exact Below.refl _ _) | (with_reducible assumption) | (with_reducible refine below_drewN ?_ _) | ((with_reducible refine Below.setCell ?_ ?_ _); rotate_left; focus (first | (simp; done) | (simp; omega) | omega)) | ((with_reducible refine Below.alloc ?_ ?_ _); rotate_left; focus (first | (simp; done) | (simp; omega) | omega)) | (with_reducible refine Below.drew ?_)))) rfl ⟨_, 0, none⟩ 1 1 [.int .i64 q] rfl rfl (fun j u h => cell_one_new X _ _ j u h) (by simp [Value.oneCell']) (by unfold maxLen; omega) (by omega) (by simp; omega) ?_
              intro v9 w9 hown' hgrow hfr
              obtain ⟨a9, c9, rfl, _, _⟩ := own_slice hown'
              have nev : ∀ k, k ≤ s → some k ≠ v.ownBlock := fun k hk e => by have := (hvl k e.symm).1; omega
              have b2 : Box w9 (W.heap.size + 1) #[.slice (some ⟨LB, 0, none⟩) nc nc] 28 := (hgrow.block _ (by simp; omega) (nev _ (by omega))).trans (x2.alloc _)
              have bL : Box w9 LB cs 22 := (hgrow.block _ (by simp; omega) (nev _ (by omega))).trans (xL.alloc _)
              have bs : Box w9 s #[.int .i64 px, .int .i64 py] 82 := (hgrow.block _ (by simp; omega) (nev _ (by omega))).trans (xs.alloc _)
              have bo : Hid (∀ k, k < s → k ≠ LB → w9.heap[k]? = V.heap[k]?) := Lib.hid fun k hk hne => (hgrow.block k (by simp; omega) (nev k (by omega))).trans ((Below.heap_alloc X _ k (by omega)).trans ((HXO.out k (by omega)).trans (HK.out k hk hne)))
              have bB : Below W.heap.size W w9 := ((xB.alloc (by have := xB.size; omega) (.cells #[.int .i64 q] 3)).drew).grown hgrow (by simp; have := xB.size; omega) (fun k e => by have := (hvl k e).1; omega)
              have hO9 : OwnInts w9 (s + 1) 3 (.slice a9 (L + 1) c9) (fnd g p j ++ [(q : Int)]) := OwnInts.snoc (by rw [HL.out]; exact hown')
              have g2 : w9.cell? ⟨LB, p, none⟩ = some v := by rw [bL.cell]; exact HCS.out.2.2.1
              have gf := bL.frozen p
              refine hK.out _ _ (by simpa using b2.cell 0) (fun hS3 => ?_)
              clear hK K
              refine wpAnyH_take (i := 9) (v := ?vg1) rfl (by kernel_rfl) (by kernel_rfl) (by kernel_rfl) NormQ.hq (Or.inl ⟨by rfl, ?yg1⟩) (by assumption) ?rg1
              case yg1 =>
                intro w hSw
                (try dsimp only at hSw)
                go_simp
                try with_reducible rfl
              try simp only [Act.put, List.setIfInBounds_toArray]
              refine wpAnyH_ready (rs := [10]) (by kernel_rfl) (by simp) (AllReadyH.cons rfl (fun K hK => ?_) AllReadyH.nil)
              go_simp
              refine hK.out _ _ (by simpa using (b2.setOther (a := ⟨LB, p, none⟩) (.slice a9 (L + 1) c9) (by simp; omega)).cell 0) (fun hS4 => ?_)
              clear hK K
              refine wpAnyH_done (by kernel_rfl) ?_ _
              refine ⟨rfl, ?_⟩
              clear hS0 hS1 hS2 hS3 hS4 f1 f2 g2 gf
              gi_wp2
              go_roundw
              case rel =>
                refine ⟨j + 1, .slice a9 (L + 1) c9, cs.setIfInBounds p (.slice a9 (L + 1) c9), by omega, by go_num, bL.set p _, Lib.hid ⟨by simp [HCS.out.1], fun i hi => ?_, ?_, fun i h1 h2 => ?_⟩, ?_, Lib.hid fun k hk hne => (Below.heap_setCell _ _ _ k hne).trans (bo.out k hk hne), bs.setOther _ (by simp; omega), bB.setCell (p := ⟨LB, p, none⟩) (by simp; omega) _⟩
                · rw [Array.getElem?_setIfInBounds_ne (by omega)]; exact HCS.out.2.1 i hi
                · exact Array.getElem?_setIfInBounds_self_of_lt (by rw [HCS.out.1]; exact hlt)
                · rw [Array.getElem?_setIfInBounds_ne (by omega)]; exact HCS.out.2.2.2 i h1 h2
                · rw [HS.out]
                  exact hO9.setOther _ (fun e => by have := (hO9.lt _ e).1; simp at this; omega)
              case measure => simp [intOf]; omega
            · go_simp
              refine hK.out _ _ (by simpa using (x2.alloc (.cells #[.int .i64 q] 3)).cell 0) (fun hS1 => ?_)
              clear hK K
              refine wpAnyH_ready (rs := [5]) (by kernel_rfl) (by simp) (AllReadyH.cons rfl (fun K hK => ?_) AllReadyH.nil)
              go_simp
              refine hK.out _ _ (by simpa using (x2.alloc (.cells #[.int .i64 q] 3)).cell 0) (fun hS2 => ?_)
              clear hK K
              refine wpAnyH_ready (rs := [8]) (by kernel_rfl) (by simp) (AllReadyH.cons rfl (fun K hK => ?_) AllReadyH.nil)
              refine step_append_own2 rfl _ _ 22 rfl (s + 1) 3 i3 (.int .i64 0) 1 8 Try.underlying22 hi3 hz30 hz31 hz32 rfl (by decide) v L _ (ownsRow_below' hOr (by repeat (first | (with_reducible exact Below.refl _ _) | (with_reducible assumption) | (with_reducible refine below_drewN ?_ _) | ((with_reducible refine Below.setCell ?_ ?_ _); rotate_left; focus (first | (simp; done) | (simp; omega) | omega)) | ((with_reducible refine Below.alloc ?_ ?_ _); rotate_left; focus (first | (simp; done) | (simp; omega) | omega)) | (with_reducible refine Below.drew ?_)))) rfl ⟨_, 0, none⟩ 1 1 [.int .i64 q] rfl rfl (fun j u h => cell_one_new X _ _ j u h) (by simp [Value.oneCell']) (by unfold maxLen; omega) (by omega) (by simp; omega) ?_
              intro v9 w9 hown' hgrow hfr
              obtain ⟨a9, c9, rfl, _, _⟩ := own_slice hown'
              have nev : ∀ k, k ≤ s → some k ≠ v.ownBlock := fun k hk e => by have := (hvl k e.symm).1; omega
              have b2 : Box w9 (W.heap.size + 1) #[.slice (some ⟨LB, 0, none⟩) nc nc] 28 := (hgrow.block _ (by simp; omega) (nev _ (by omega))).trans (x2.alloc _)
              have bL : Box w9 LB cs 22 := (hgrow.block _ (by simp; omega) (nev _ (by omega))).trans (xL.alloc _)
              have bs : Box w9 s #[.int .i64 px, .int .i64 py] 82 := (hgrow.block _ (by simp; omega) (nev _ (by omega))).trans (xs.alloc _)
              have bo : Hid (∀ k, k < s → k ≠ LB → w9.heap[k]? = V.heap[k]?) := Lib.hid fun k hk hne => (hgrow.block k (by simp; omega) (nev k (by omega))).trans ((Below.heap_alloc X _ k (by omega)).trans ((HXO.out k (by omega)).trans (HK.out k hk hne)))
              have bB : Below W.heap.size W w9 := ((xB.alloc (by have := xB.size; omega) (.cells #[.int .i64 q] 3)).drew).grown hgrow (by simp; have := xB.size; omega) (fun k e => by have := (hvl k e).1; omega)
              have hO9 : OwnInts w9 (s + 1) 3 (.slice a9 (L + 1) c9) (fnd g p j ++ [(q : Int)]) := OwnInts.snoc (by rw [HL.out]; exact hown')
              have g2 : w9.cell? ⟨LB, p, none⟩ = some v := by rw [bL.cell]; exact HCS.out.2.2.1
              have gf := bL.frozen p
              refine hK.out _ _ (by simpa using b2.cell 0) (fun hS3 => ?_)
              clear hK K
              refine wpAnyH_take (i := 9) (v := ?vg2) rfl (by kernel_rfl) (by kernel_rfl) (by kernel_rfl) NormQ.hq (Or.inl ⟨by rfl, ?yg2⟩) (by assumption) ?rg2
              case yg2 =>
                intro w hSw
                (try dsimp only at hSw)
                go_simp
                try with_reducible rfl
              try simp only [Act.put, List.setIfInBounds_toArray]
              refine wpAnyH_ready (rs := [10]) (by kernel_rfl) (by simp) (AllReadyH.cons rfl (fun K hK => ?_) AllReadyH.nil)
              go_simp
              refine hK.out _ _ (by simpa using (b2.setOther (a := ⟨LB, p, none⟩) (.slice a9 (L + 1) c9) (by simp; omega)).cell 0) (fun hS4 => ?_)
              clear hK K
              refine wpAnyH_done (by kernel_rfl) ?_ _
              refine ⟨rfl, ?_⟩
              clear hS0 hS1 hS2 hS3 hS4 f1 f2 g2 gf
              gi_wp2
              go_roundw
              case rel =>
                refine ⟨j + 1, .slice a9 (L + 1) c9, cs.setIfInBounds p (.slice a9 (L + 1) c9), by omega, by go_num, bL.set p _, Lib.hid ⟨by simp [HCS.out.1], fun i hi => ?_, ?_, fun i h1 h2 => ?_⟩, ?_, Lib.hid fun k hk hne => (Below.heap_setCell _ _ _ k hne).trans (bo.out k hk hne), bs.setOther _ (by simp; omega), bB.setCell (p := ⟨LB, p, none⟩) (by simp; omega) _⟩
                · rw [Array.getElem?_setIfInBounds_ne (by omega)]; exact HCS.out.2.1 i hi
                · exact Array.getElem?_setIfInBounds_self_of_lt (by rw [HCS.out.1]; exact hlt)
                · rw [Array.getElem?_setIfInBounds_ne (by omega)]; exact HCS.out.2.2.2 i h1 h2
                · rw [HS.out]
                  exact hO9.setOther _ (fun e => by have := (hO9.lt _ e).1; simp at this; omega)
              case measure => simp [intOf]; omega
        · obtain rfl : j = 6 := by omega
          have q2 : Box wr (W.heap.size + 1) #[.slice (some ⟨LB, 0, none⟩) nc nc] 28 := (HK.out _ (by omega) (by omega)).trans ((hI.keep _ (by omega) (by omega)).trans z2)
          have f1 : wr.cell? ⟨W.heap.size + 1, 0, none⟩ = some (.slice (some ⟨LB, 0, none⟩) nc nc) := by simpa using q2.cell 0
          have f2 : wr.cell? ⟨LB, p, none⟩ = some v := by rw [hbL.cell]; exact HCS.out.2.2.1
          have k1 : (p : Int) < (nc : Int) := by omega
          have k0 : (0 : Int) ≤ (p : Int) := by omega
          have hfl := fnd_le g p 6
          gi_wp2
          refine ⟨trivial, ?_⟩
          gi_at_call 76
          refine (CallsIn.inRound l (callsIn_wide.2 (sort_own hO (by omega)))).mono ?_
          rintro e w8 ⟨rfl, hO8, hg8⟩
          gi_wp2
          have hvl := hO.lt
          have nev : ∀ k, k ≤ s → some k ≠ v.ownBlock := fun k hk e => by have := (hvl k e.symm).1; omega
          have hTT := hI.T
          have hzI := hI.size
          have h8 : ∀ k, k < s → k ≠ LB → w8.heap[k]? = V.heap[k]? := fun k hk hne => (hg8.block k (by omega) (nev k (by omega))).trans (HK.out k hk hne)
          refine ⟨fun k => T k ∨ v.ownBlock = some k, ⟨by have := hg8.size; omega, fun k hk hTk => h8 k hk (fun e => hTk ((hTT k).2 (.inl e))), fun k hk => ?_, fun k hk => ?_⟩, fun i => if i = p then v else vs i, ⟨⟨cs, (hg8.block LB (by omega) (nev LB (by omega))).trans hbL, HCS.out.1, fun i hi => ?_, fun i h1 h2 => ?_⟩, fun i hi => ?_⟩, hBw.grown hg8 (by have := hBw.size; omega) (fun k e => by have := (hvl k e).1; omega), fun k hk hne => (h8 k (by omega) hne).trans (hI.keep k hk hne), by have := hg8.size; omega, fun k => ?_⟩
          · rcases hk with hk | hk
            · exact .inl hk
            · exact .inr (by have := (hvl k hk).1; omega)
          · rcases hk with hk | hk
            · rcases (hTT k).1 hk with rfl | ⟨i, hi, e⟩
              · have := hg8.size; omega
              · have := hold i (by rw [← HPP.out]; exact hi) k e; have := hg8.size; omega
            · exact (hO8.lt k hk).2
          · simp only [List.length_append, List.length_cons, List.length_nil, HPP.out] at hi
            by_cases e : i = p
            · subst e; rw [if_pos rfl]; exact HCS.out.2.2.1
            · rw [if_neg e]; exact HCS.out.2.1 i (by omega)
          · simp only [List.length_append, List.length_cons, List.length_nil, HPP.out] at h1
            exact HCS.out.2.2.2 i (by omega) h2
          · simp only [List.length_append, List.length_cons, List.length_nil, HPP.out] at hi
            by_cases e : i = p
            · subst e
              rw [if_pos rfl]
              have := sort_fnd HV.out (c := i) (by rw [h2.len]; exact hlt)
              rw [h2.len] at this
              rw [← this, show manyOf g.shape = 6 by unfold manyOf; simp [HS.out]]
              exact hO8.mono (by omega)
            · rw [if_neg e]
              refine ownInts_same (hI.rows.own i (by rw [HPP.out]; omega)) fun k hk => ?_
              have h3 := (hI.rows.own i (by rw [HPP.out]; omega)).lt k hk
              exact h8 k (hold i (by omega) k hk) (by omega)
          · simp only [List.length_append, List.length_cons, List.length_nil, HPP.out]
            constructor
            · rintro (hk | hk)
              · rcases (hTT k).1 hk with h | ⟨i, hi, e⟩
                · exact .inl h
                · rw [HPP.out] at hi
                  exact .inr ⟨i, by omega, by rw [if_neg (by omega)]; exact e⟩
              · exact .inr ⟨p, by omega, by rw [if_pos rfl]; exact hk⟩
            · rintro (hk | ⟨i, hi, e⟩)
              · exact .inl ((hTT k).2 (.inl hk))
              · by_cases e2 : i = p
                · subst e2; rw [if_pos rfl] at e; exact .inr e
                · rw [if_neg e2] at e; exact .inl ((hTT k).2 (.inr ⟨i, by rw [HPP.out]; omega, e⟩))
theorem neighbors_any (g : Grid) (ah ac : Option Addr) (nh ch nc cc : Nat) (W : World) (h1 : Ints W ah nh ch g.holes) (h2 : Ints W ac nc cc g.cells) (hn : nh ≤ 10000000) (hm : nc ≤ 10000000000) :
    Calls Try.prog 45 #[.agg #[.int .i64 g.shape, .int .i64 g.w, .int .i64 g.h, .slice ah nh ch, .slice ac nc cc]] W (RetRowsE W 22 (nbOut g) (checkErr g)) := by
  unfold nbOut
  rcases checkErr_cases g with ⟨he, hv⟩ | ⟨he, _⟩
  · rw [if_pos he, he]
    rcases hv.dims.1 with hs | hs
    · exact nb_sq g ah ac nh ch nc cc W h1 h2 hn hm he hv hs
    · exact nb_hex g ah ac nh ch nc cc W h1 h2 hn hm he hv hs
  · rw [if_neg (by omega), he]
    have hal : Below W.heap.size W ((W.alloc (.cells #[.int .i64 g.shape, .int .i64 g.w, .int .i64 g.h, .slice ah nh ch, .slice ac nc cc] 24)).alloc (.cells #[.slice none 0 0] 28)) := ((Below.refl _ _).alloc (Nat.le_refl _) _).alloc (by simp) _
    have hc := gridsCheck_any g ah ac nh ch nc cc _ (h1.below hal) (h2.below hal) hn hm
    rw [he] at hc
    have HC := Lib.hid hc
    clear hc he
    go_enter Try.func45, Try.ntmps45
    go_wp2_with (go_at_call 43; refine HC.out.mono ?_; rintro e w1 ⟨rfl, hB1⟩; have hx := (Box.new (W.alloc (.cells #[.int .i64 g.shape, .int .i64 g.w, .int .i64 g.h, .slice ah nh ch, .slice ac nc cc] 24)) #[.slice none 0 0] 28).below hB1; have hc := hx.cell 0; have hf := hx.frozen 0; simp only [World.size_alloc] at hx hc hf; simp at hc)
    refine bodyPost_ret (v := .tuple #[.slice none 0 0, .int .i64 130]) (by simp [results, Try.results45, go_sem, hc]) rfl ?_
    exact ⟨_, rfl, OwnRows.nil _ _ _, (hal.on hB1).setCell (p := ⟨W.heap.size + 1, 0, none⟩) (by simp) _⟩
end Go.Proofs.Ytjiacdihfbbfjaa

