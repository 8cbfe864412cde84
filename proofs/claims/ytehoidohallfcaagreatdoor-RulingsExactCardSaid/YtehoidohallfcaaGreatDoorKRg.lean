/- A range over maps.Keys of a map keyed by totals. -/
import Derived.Test.YtehoidohallfcaaGreatDoorKIt
import Derived.Test.YtehoidohallfcaaGreatDoorRdQ
namespace Go.Proofs.YtehoidohallfcaaGreatDoor
open Go.RowKit

theorem wp_range_keys {Q : Exit → Act → World → Prop} {a : Act} {w : World} {assign body : Code} {g : Operand} (ks : List (List Int)) (Bk M : Nat)
    (hg : a.eval g = .func (.func 118) #[] #[.pointer (some ⟨Bk, 0, none⟩)])
    (hm : Box w Bk #[.map (some M)] 163) (hK : TMap w M ks) (hl : ks.length ≤ 1000000)
    (I : List TT → World → Prop) (hI : OwnFrom w.heap.size I) (h0 : I [] w)
    (hassign : ∀ (l : Nat) (x : TT) (W : World) (K : Act → World → Prop), K { tmps := (a.tmps.setIfInBounds 65 (tV x.val)).setIfInBounds 14 (.pointer (some ⟨W.heap.size, 0, none⟩)), defers := [] } (W.alloc (.cells (tA x.val) 87)) →
      assign.wpIn (Fence.wide.inRound l) 4 Tryz.prog (Exit.then K (fun _ _ _ => False)) { tmps := a.tmps.setIfInBounds 65 (tV x.val), defers := [] } W)
    (hbody : ∀ (l : Nat) (pre : List TT) (x : TT) (b : Nat) (W : World), I pre W → Box W b (tA x.val) 87 → pre.length < ks.length →
      body.wpIn (Fence.wide.inRound l) 4 Tryz.prog (fun e _ W' => e = .normal ∧ KeepsFrom w.heap.size W W' ∧ KeepsWalks W W' ∧ I (pre ++ [x]) W') { tmps := (a.tmps.setIfInBounds 65 (tV x.val)).setIfInBounds 14 (.pointer (some ⟨b, 0, none⟩)), defers := [] } W)
    (hdone : ∀ (D : Nat) (xs : List TT) (W : World), w.heap.size ≤ D → (xs.map TT.val).Nodup → (∀ k, k ∈ xs.map TT.val ↔ k ∈ ks) → I xs W → W.heap[D]? = some (.deferred (some [])) → Q .normal { a with defers := { target := .collected D, args := #[] } :: a.defers } W) :
    (Code.rangeFunc g #[65] assign body).wp Tryz.prog Q a w := by
  refine (wpIn_wide (n := 6)).1 ?_
  refine wpIn_rangeFunc_ownH rfl (by omega) (gf := 118) (lb := #[.pointer (some ⟨Bk, 0, none⟩)]) hg trivial (enters_of Tryz.func118 (by kernel_rfl) rfl)
    (keys1_stops ks Bk M w hm hK hl) walksK_t (fun W l o o' h1 h2 h3 h4 => walksK_b W l o o' h1 h2 h3 h4) (Below.refl _ _) (fun _ => rfl) I (fun _ _ _ => False) hI (fun _ _ _ _ _ h => h.elim) h0
    (fun x a' W => ∃ b, a' = { tmps := (a.tmps.setIfInBounds 65 (tV x.val)).setIfInBounds 14 (.pointer (some ⟨b, 0, none⟩)), defers := [] } ∧ Box W b (tA x.val) 87) ?_ ?_ ?_ ?_ ?_
  · rintro x a' _ W W' row ⟨b, e, hb⟩ hg hr
    exact ⟨b, e, hb.nonCell hg (fun r e => (hr r e).2)⟩
  · intro l pre x W K hi hk
    have hz : ∀ t : Array Value, (Array.zip #[65] (kEnc x)).foldl (fun (t : Array Value) (y : Tmp × Value) => match y with | (p, v) => t.setIfInBounds p v) t = t.setIfInBounds 65 (tV x.val) := fun t => by simp [kEnc]
    rw [hz]
    refine hassign l x W K (hk _ _ (KeepsFrom.of_grownBy (World.grownBy_alloc _ _ none) (fun j e => by cases e)) (KeepsWalks.alloc _ _) (hI.alloc _ hi) ⟨_, rfl, Box.new _ _ _⟩)
  · rintro l pre x a' W _ _ hi ⟨b, rfl, hb⟩ hlen
    refine wpIn_mono (hbody l pre x b W hi hb hlen) ?_
    rintro e a2 W2 ⟨rfl, h1, h2, h3⟩
    exact ⟨h1, h2, h3⟩
  · rintro D xs W hD ⟨h1, h2⟩ hi hd
    exact hdone D xs W hD h1 h2 hi hd
  · rintro D c pre W _ _ h
    exact h.elim
end Go.Proofs.YtehoidohallfcaaGreatDoor
