/- Regions that draw their order in a round of a range over a function; rows that abide what the loop's own book-keeping does. No program in sight. -/
import Derived.Test.YtehoidohallfcaaGreatDoorNxX
namespace Go.Proofs.YtehoidohallfcaaGreatDoor
open Go.RowKit
def noDefer (o : Oper) : Bool := match o.op with | .defer _ => false | _ => true
theorem noDefer_ne {o : Oper} (h : noDefer o = true) : ∀ c, o.op ≠ .defer c := by
 intro c e; unfold noDefer at h; rw [e] at h; cases h
def NormQ (Q : Exit → Act → World → Prop) (e : Exit) (a : Act) (w : World) : Prop := e = .normal ∧ Q .normal a w
theorem wpOpsIn_of {P : Program} {ops : Array Oper} {Q : Exit → Act → World → Prop} {l n : Nat} (hd : ∀ (i : Nat) (o : Oper), ops[i]? = some o → noDefer o = true) :
 ∀ (L : List Nat) (a : Act) (w : World), wpOps P ops (NormQ Q) L a w → wpOpsIn (Fence.wide.inRound l) n P ops (NormQ Q) L a w
 | [], a, w, h => h
 | i :: rest, a, w, h => by
  have ih := wpOpsIn_of (P := P) (l := l) (n := n) (Q := Q) hd rest
  simp only [wpOps] at h
  simp only [wpOpsIn]
  cases ho : ops[i]? with
  | none => simp only [ho] at h ⊢; exact ih _ _ h
  | some o =>
   simp only [ho] at h ⊢
   split
   · rename_i hw
     rw [if_pos hw] at h
     rcases h with h | ⟨_, a0, w0, h⟩
     · refine ⟨fun _ _ => trivial, ?_⟩
       rw [Oper.semAt_plain _ _ _ (noDefer_ne (hd i o ho))]
       unfold Oper.wp at h
       generalize (execOp a.eval o).run P w = r at h
       cases r with
       | ok x w' =>
        cases x with
        | value v => exact ih _ _ h
        | skip => exact ih _ _ h
        | defer d => exact ih _ _ h
        | enter f args =>
         refine ⟨(fun hz => nomatch hz), CallsIn.inRound l (callsIn_wide.2 (h.mono fun e w'' he => ?_))⟩
         cases e with
         | returned v => exact ih _ _ he
         | panicked chain => exact he
         | outgrown => exact he
        | row row args =>
         exact ⟨(fun hz => nomatch hz), fun c cs _ => let ⟨v, w'', r, s⟩ := h c cs; ⟨v, w'', ih _ _ r, stepsIn_wide.2 s⟩⟩
        | _ => exact h.elim
       | halt x w' => cases x <;> exact h
     · cases h.1
   · rename_i hw
     rw [if_neg hw] at h
     exact ⟨fun _ _ => trivial, ih _ _ h⟩
theorem noDefer_all {ops : Array Oper} (h : ops.all noDefer = true) : ∀ (i : Nat) (o : Oper), ops[i]? = some o → noDefer o = true := fun i o e => by
 obtain ⟨hi, e⟩ := Array.getElem?_eq_some_iff.1 e
 rw [← e]; exact Array.all_eq_true.1 h i hi
theorem NormQ.hq {Q : Exit → Act → World → Prop} {oi : Oper} {v : Value} : ∀ c a w, NormQ Q (.panic c) (a.put oi.dst v) w → NormQ Q (.panic c) a w := fun _ _ _ h => by cases h.1
theorem wpIn_region_anyQR {P : Program} {ops : Array Oper} {Q : Exit → Act → World → Prop} {l n id : Nat} {a : Act} {w : World} (S : World → Prop) (q : Nat) (hm : P.follows .mixedOrders = true) (hd : ops.all noDefer = true) (hS : S w.drew)
 (h : S w.drew → AnyQ P .any ops (NormQ Q) S q ops.size (Array.replicate ops.size false) a w.drew) : (Code.region id ops true).wpIn (Fence.wide.inRound l) n P Q a w :=
 wpIn_mono (Q := NormQ Q) (wpIn_region_draw fun t => by
  simp only [Region.schedule, hm, Bool.true_or, if_true]
  exact wpOpsIn_of (noDefer_all hd) _ _ _ (wpAny_sound ops.size t _ a _ (h hS).any)) (by rintro e a w ⟨rfl, h⟩; exact h)
theorem cells_of_cell {w : World} {b o : Nat} {v : Value} (h : w.cell? ⟨b, o, none⟩ = some v) {x : Obj} (hx : w.heap[b]? = some x) : x.isCells = true := by
 cases x <;> first | rfl | (simp [World.cell?, hx] at h)
theorem Box.nonCell {w w' : World} {B : Nat} {cs : Array Value} {t : TypeId} {row : Option Nat} (h : Box w B cs t) (hg : w.grownBy w' row) (hr : ∀ r, row = some r → ∃ o : Obj, w.heap[r]? = some o ∧ o.isCells = false) : Box w' B cs t :=
 h.grown hg fun e => by
  obtain ⟨o, ho, hc⟩ := hr B e
  have : w.heap[B]? = some (.cells cs t (0, 0)) := h
  rw [this] at ho; injection ho with ho; subst ho; cases hc
theorem RowsB.nonCell {w w' : World} {base : Nat} {e : TypeId} {v : Value} {ll : List (List Int)} {row : Option Nat} (h : RowsB w base e v ll) (hg : w.grownBy w' row) (hr : ∀ r, row = some r → ∃ o : Obj, w.heap[r]? = some o ∧ o.isCells = false) : RowsB w' base e v ll := by
 obtain ⟨us, h1, h2⟩ := h
 have hv : v.ownBlock = none ∨ v.ownBlock ≠ row := by
  rcases h1.2 with ⟨rfl, _⟩ | ⟨g, cap, cur, rfl, hb, hgb, _⟩
  · exact .inl rfl
  · refine .inr fun e2 => ?_
    obtain ⟨o, ho, hc⟩ := hr g e2.symm
    rw [hgb] at ho; injection ho with ho; subst ho; cases hc
 refine ⟨us, World.ownsRow.kept h1 hg hv, h2.mono fun x l ⟨a, n, c, e, hI, ho⟩ => ⟨a, n, c, e, hI.grown hg (fun hn e2 => ?_), ho⟩⟩
 obtain ⟨b, o, rfl, hl⟩ := hI.at' hn
 obtain ⟨x, hx, hc⟩ := hr b e2.symm
 have h3 := cells_of_cell (hI.cell b o rfl 0 hn) hx
 rw [hc] at h3; cases h3
open Go.RowKit
theorem wp_range_keys {Q : Exit → Act → World → Prop} {a : Act} {w : World} {assign body : Code} {g : Operand} (ks : List (List Int)) (Bk M : Nat)
 (hg : a.eval g = .func (.func 118) #[] #[.pointer (some ⟨Bk, 0, none⟩)])
 (hm : Box w Bk #[.map (some M)] 163) (hK : TMap w M ks) (hl : ks.length ≤ 1000000)
 (I : List TT → World → Prop) (hI : OwnFrom w.heap.size I) (h0 : I [] w)
 (hassign : ∀ (l : Nat) (x : TT) (W : World) (K : Act → World → Prop), K { tmps := (a.tmps.setIfInBounds 65 (tV x.val)).setIfInBounds 14 (.pointer (some ⟨W.heap.size, 0, none⟩)), defers := [] } (W.alloc (.cells (tA x.val) 87)) →
  assign.wpIn (Fence.wide.inRound l) 4 Tryz.prog (Exit.then K (fun _ _ _ => False)) { tmps := a.tmps.setIfInBounds 65 (tV x.val), defers := [] } W)
 (hbody : ∀ (l : Nat) (pre : List TT) (x : TT) (b : Nat) (W : World), I pre W → Box W b (tA x.val) 87 → pre.length < ks.length →
  body.wpIn (Fence.wide.inRound l) 4 Tryz.prog (fun e _ W' => e = .normal ∧ KeepsFrom w.heap.size W W' ∧ KeepsWalks W W' ∧ I (pre ++ [x]) W') { tmps := (a.tmps.setIfInBounds 65 (tV x.val)).setIfInBounds 14 (.pointer (some ⟨b, 0, none⟩)), defers := [] } W)
 (hdone : ∀ (D : Nat) (xs : List TT) (W : World), w.heap.size ≤ D → (xs.map TT.val).Nodup → (∀ k, k ∈ xs.map TT.val ↔ k ∈ ks) → I xs W → W.heap[D]? = some (.deferred (some [])) → Q .normal { a with defers := { target := .collected D, args := #[] } :: a.defers } W) :
 (Code.rangeFunc g #[65] assign body).wp Tryz.prog Q a w := by
 refine (wpIn_wide (n := 6)).1 ?_
 refine wpIn_rangeFunc_ownH rfl (by omega) (gf := 118) (lb := #[.pointer (some ⟨Bk, 0, none⟩)]) hg trivial (enters_of Tryz.func118 (by kernel_rfl) rfl)
  (keys1_stops ks Bk M w hm hK hl) walksK_t (fun W l o o' h1 h2 h3 h4 => walksK_b W l o o' h1 h2 h3 h4) (Below.refl _ _) (fun _ => rfl) I (fun _ _ _ => False) hI (fun _ _ _ _ _ h => h.elim) h0
  (fun x a' W => ∃ b, a' = { tmps := (a.tmps.setIfInBounds 65 (tV x.val)).setIfInBounds 14 (.pointer (some ⟨b, 0, none⟩)), defers := [] } ∧ Box W b (tA x.val) 87) ?_ ?_ ?_ ?_ ?_
 · rintro x a' _ W W' row ⟨b, e, hb⟩ hg hr
   exact ⟨b, e, hb.nonCell hg (fun r e => (hr r e).2)⟩
 · intro l pre x W K hi hk
   have hz : ∀ t : Array Value, (Array.zip #[65] (kEnc x)).foldl (fun (t : Array Value) (y : Tmp × Value) => match y with | (p, v) => t.setIfInBounds p v) t = t.setIfInBounds 65 (tV x.val) := fun t => by simp [kEnc]
   rw [hz]
   refine hassign l x W K (hk _ _ (KeepsFrom.of_grownBy (World.grownBy_alloc _ _ none) (fun j e => by cases e)) (KeepsWalks.alloc _ _) (hI.alloc _ hi) ⟨_, rfl, Box.new _ _ _⟩)
 · rintro l pre x a' W _ _ hi ⟨b, rfl, hb⟩ hlen
   refine wpIn_mono (hbody l pre x b W hi hb hlen) ?_
   rintro e a2 W2 ⟨rfl, h1, h2, h3⟩
   exact ⟨h1, h2, h3⟩
 · rintro D xs W hD ⟨h1, h2⟩ hi hd
   exact hdone D xs W hD h1 h2 hi hd
 · rintro D c pre W _ _ h
   exact h.elim
end Go.Proofs.YtehoidohallfcaaGreatDoor
