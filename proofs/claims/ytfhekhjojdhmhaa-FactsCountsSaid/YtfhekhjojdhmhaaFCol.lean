/- slices.AppendSeq and Collect at keys. -/
import Derived.RangeFuncNested
import Derived.RangeFuncBound
import Derived.RangeFuncCalls
import Derived.RangeFuncLeaves
import Derived.Shelf.Abstract
import Derived.Shelf.RegionOpen
import Derived.WalkKit
import Derived.OwnWalkIn
import Derived.TacticsInMore
import Derived.LoopNIn
import Derived.LoopIn
import Derived.Laws.MakeOwn
import Derived.Maps.OwnIn
import Derived.Outline
import Derived.Test.YtfhekhjojdhmhaaFMap
import Derived.Test.YtfhekhjojdhmhaaFChM
namespace Go.Proofs.Ytfhekhjojdhmhaa
open Go.RowKit Go.Shelf
attribute [local go_sem] Oper.semAt_some

theorem own_cells {w : World} {base : Nat} {e : TypeId} {size : Nat} {v : Value} {n : Nat} {xs : List Value} (h : w.ownsRow base e size v n xs) {j : Nat} {o : Obj} (hj : v.ownBlock = some j) (ho : w.heap[j]? = some o) : o.isCells = true := by
  rcases h.2 with ⟨rfl, _⟩ | ⟨g, cap, cur, rfl, _, hg, _⟩
  · simp [Value.ownBlock] at hj
  · obtain rfl : g = j := by simpa [Value.ownBlock] using hj
    rw [hg] at ho; cases ho; rfl
/-- Between two rounds: the box holds a row of the call's own with the keys that have come. -/
structure ApI (W : World) (pre : List Key) (W2 : World) (v : Value) : Prop where
  box : Box W2 W.heap.size #[v] 37
  own : OwnSL encK 3 W2 (W.heap.size + 1) 24 v pre
  below : Below W.heap.size W W2
theorem ApI.grown {W A B : World} {pre : List Key} {v : Value} {row : Option Nat} (h : ApI W pre A v) (hg : A.grownBy B row) (hr : ∀ r, row = some r → W.heap.size + 1 ≤ r ∧ ∃ o : Obj, A.heap[r]? = some o ∧ o.isCells = false) : ApI W pre B v := by
  refine ⟨h.box.grown hg (fun e => by have := (hr _ e).1; omega), h.own.grown hg ?_, h.below.grown hg h.below.size (fun k e => by have := (hr k e).1; omega)⟩
  by_cases hv : v.ownBlock = none
  · exact .inl hv
  · refine .inr fun e => ?_
    cases hrow : row with
    | none => rw [hrow] at e; exact hv e
    | some r =>
      obtain ⟨_, o, ho, hc⟩ := hr r hrow
      rw [hrow] at e
      have := own_cells h.own e ho
      rw [this] at hc; cases hc
structure ApV (W : World) (pre : List Key) (x : Key) (s : Nat) (V : World) (v : Value) : Prop where
  in1 : ApI W pre V v
  box : Box V s #[.int .i64 x.kd, .int .i64 x.sb, .int .i64 x.ob] 24
  new : W.heap.size + 1 ≤ s

set_option maxRecDepth 20000 in
set_option maxHeartbeats 2000000 in
theorem appendSeq_any (g : FuncId) (lb : Array Value) (S Sp : List Key → Prop) (N : Nat) (hN : N ≤ 1000000) (W : World) (hen : Enters Try.prog g) (hseq : SeqStopsK Fence.wide 5 Try.prog g lb kEnc KeepsWalks S Sp N W) :
    Calls Try.prog 59 #[.slice none 0 0, .func (.func g) #[] lb] W fun e w' => ∃ v ss, e = .returned v ∧ S ss ∧ OwnSL encK 3 w' W.heap.size 24 v ss ∧ Below W.heap.size W w' := by
  obtain ⟨i3k, hi3, hz30, hz31, hz32⟩ := info3k
  refine (callsIn_wide (n := 6)).1 (callsIn_of_wp_marks Try.func59 rfl trivial ?_ rfl)
  simp only [Try.ntmps59, List.size_toArray, List.length_cons, List.length_nil, Nat.reduceAdd, Nat.reduceSub, Array.replicate_succ, Array.replicate_zero, List.push_toArray, List.append_toArray, List.nil_append, List.cons_append]
  gi_wp2
  have hx := Box.new W #[.slice none 0 0] 37
  have hB5 : Below W.heap.size W (W.alloc (.cells #[.slice none 0 0] 37)) := (Below.refl _ _).alloc (Nat.le_refl _) _
  have hz5 : (W.alloc (.cells #[.slice none 0 0] 37)).heap.size = W.heap.size + 1 := by simp
  obtain ⟨w5, hw5⟩ : ∃ w5, W.alloc (.cells #[.slice none 0 0] 37) = w5 := ⟨_, rfl⟩
  rw [hw5] at hx hB5 hz5 ⊢
  clear hw5
  refine wpIn_rangeFunc_own5 rfl (by omega) (gf := g) (lb := lb) rfl trivial hen (encs := kEnc) hseq hB5 (fun _ => rfl)
    (fun pre W2 => ∃ v, ApI W pre W2 v) (fun pre x s V => ∃ v, ApV W pre x s V v) ?hI ?hVput (fun x s => { tmps := #[.slice none 0 0, .func (.func g) #[] lb, .pointer (some ⟨W.heap.size, 0, none⟩), undef, .slice none 0 0, (.pointer (some ⟨s, 0, none⟩)), .func (.func g) #[] lb, (keyV x), undef, undef, undef, undef, undef], defers := [] }) (fun x W2 => W2.alloc (.cells #[.int .i64 x.kd, .int .i64 x.sb, .int .i64 x.ob] 24)) (fun x W2 => (Below.refl _ _).alloc (Nat.le_refl _) _) ?hV ?h0 ?assign ?body ?done
  case hI => rintro pre A B row ⟨v, h⟩ hg hr; exact ⟨v, h.grown hg (fun r e => by have := hr r e; rwa [hz5] at this)⟩
  case hVput => rintro pre x s V l o o' ⟨v, h1, h2, h3⟩ hl hls ho hno; exact ⟨v, h1.grown (grownBy_putObj' V l o') (fun r e => by cases e; exact ⟨by omega, o, ho, hno⟩), box_put2 h2 (by omega) o', h3⟩
  case hV => rintro pre x W1 ⟨v, h⟩ hlen hs; exact ⟨v, ⟨h.box.alloc _, h.own.below ((Below.refl _ _).alloc (Nat.le_refl _) _), h.below.alloc h.below.size _⟩, Box.new _ _ _, by omega⟩
  case h0 => exact ⟨_, hx, OwnSL.nil _ _ _ _ _, hB5⟩
  case assign =>
    rintro li x W2 K hK
    simp only [kEnc] at hK ⊢
    gi_wp2
    exact hK
  case body =>
    rintro li pre x s V ⟨v, hI, hbx, hnew⟩ hlen hs
    have hown : V.ownsRow (W.heap.size + 1) 24 3 v pre.length (pre.flatMap encK) := hI.own
    obtain ⟨a, c, rfl, _, _⟩ := own_slice hown
    have d0 : V.cell? ⟨W.heap.size, 0, none⟩ = some (.slice a pre.length c) := by simpa using hI.box.cell 0
    have d1 := hI.box.frozen 0
    obtain ⟨e0, e1, e2⟩ := Box3 hbx
    have hsz := hI.below.size
    have hbl := hI.box.lt
    have hol := hI.own.lt
    gi_wp2_with (first | (gi_at_builtin; refine wpListIn_append_own _ rfl _ _ 37 rfl (W.heap.size + 1) 24 i3k _ 3 24 Try.underlying37 hi3 hz30 hz31 hz32 rfl (by decide) _ _ _ rfl (hown.alloc _) ⟨V.heap.size, 0, none⟩ 1 1 (encK x) rfl rfl (new3 _ _ _) (encK_one _) (by unfold maxLen; omega) (by omega) (by simp; omega) ?_; intro v' w3 hown' hgrow hnil; obtain ⟨a', c', rfl, _, _⟩ := own_slice hown'; have hv3 : Box w3 W.heap.size #[.slice a pre.length c] 37 := (hI.box.alloc _).grown hgrow (fun e => by have := (hol _ e).1; omega); have d3 : w3.cell? ⟨W.heap.size, 0, none⟩ = some (.slice a pre.length c) := (by simpa using hv3.cell 0); have d4 := hv3.frozen 0) | gi_in)
    have hb4 : Below W.heap.size W w3 := (hI.below.alloc hsz _).grown hgrow (by simp; omega) (fun k e => by have := (hol k e).1; omega)
    have hk4 : KeepsOthers V w3 := (KeepsOthers.alloc V _).trans (KeepsOthers.of_grownBy hgrow (fun j o hj ho => own_cells (hown.alloc _) hj ho))
    have hol' := World.ownsRow.lt hown'
    exact ⟨hk4.trans (KeepsOthers.setCell _ _ _), _, by simpa using hv3.set 0 (.slice a' (pre.length + 1) c'), (OwnSL.snoc hown').setOther _ (fun e => by have := (hol' _ e).1; simp at this; omega), hb4.setCell (p := ⟨W.heap.size, 0, none⟩) (by simp) _⟩
  case done =>
    rintro D xs W2 hD hS ⟨v, hI⟩ hK
    have hown : W2.ownsRow (W.heap.size + 1) 24 3 v xs.length (xs.flatMap encK) := hI.own
    obtain ⟨a, c, rfl, _, _⟩ := own_slice hown
    have d0 : W2.cell? ⟨W.heap.size, 0, none⟩ = some (.slice a xs.length c) := by simpa using hI.box.cell 0
    have hsz := hI.below.size
    gi_wp2
    refine ⟨by simp, .inl ⟨_, _, rfl, run_takeDeferred hK, ?_⟩⟩
    refine ⟨.slice a xs.length c, by simp [results, Try.results59, go_sem], ?_⟩
    refine ⟨_, xs, rfl, hS, ?_, below_put2 hI.below (by omega) (by omega) _⟩
    have hg := grownBy_putObj' W2 D (.deferred none)
    refine (hI.own.mono (by omega)).grown hg ?_
    by_cases hv : (Value.slice a xs.length c).ownBlock = none
    · exact .inl hv
    · exact .inr (fun e => by have := own_cells hown e hK; simp [Obj.isCells] at this)

set_option maxRecDepth 20000 in
theorem collect_any (g : FuncId) (lb : Array Value) (S Sp : List Key → Prop) (N : Nat) (hN : N ≤ 1000000) (W : World) (hen : Enters Try.prog g) (hseq : SeqStopsK Fence.wide 5 Try.prog g lb kEnc KeepsWalks S Sp N W) :
    Calls Try.prog 54 #[.func (.func g) #[] lb] W fun e w' => ∃ v ss, e = .returned v ∧ S ss ∧ OwnSL encK 3 w' W.heap.size 24 v ss ∧ Below W.heap.size W w' := by
  have HA := Lib.hid (appendSeq_any g lb S Sp N hN W hen hseq)
  clear hseq hen
  go_enter Try.func54, Try.ntmps54
  go_wp2_with (go_at_call 59; refine HA.out.mono ?_; rintro e w' ⟨v, ss, rfl, hS, hO, hB⟩)
  go_ret
  exact ⟨_, _, rfl, hS, hO, hB⟩
end Go.Proofs.Ytfhekhjojdhmhaa
