/- maps.Keys of a map keyed by totals: its iterator. -/
import Derived.RangeFuncNested
import Derived.RangeFuncBound
import Derived.RangeFuncCalls
import Derived.RangeFuncLeaves
import Derived.Shelf.Abstract
import Derived.Shelf.RegionOpen
import Derived.WalkKit
import Derived.OwnWalkIn
import Derived.TacticsInMore
import Derived.LoopNIn
import Derived.LoopIn
import Derived.Laws.MakeOwn
import Derived.Sort.QuietIn
import Derived.Sort.MapsRangeIn
import Derived.Outline
import Derived.Test.YtehoidohallfcaaGreatDoorTKey
import Derived.WalkKit
import Derived.WalkSpells
import Derived.WalkLawsBesides
import Derived.Deep.LoopGhost
import Derived.Deep.QuietTactic
import Derived.BigQuiet
import Derived.StillTailTactics
import Derived.Lib.Hide
import Derived.Outline
import Derived.Lib.QuietBelow
namespace Go.Proofs.YtehoidohallfcaaGreatDoor
open Go.RowKit Go.Shelf
attribute [local go_sem] Oper.semAt_some

theorem keysM_any (mb : Option Nat) (W : World) : Calls Tryz.prog 78 #[.map mb] W fun e w' => e = .returned (.func (.func 118) #[] #[.pointer (some ⟨W.heap.size, 0, none⟩)]) ∧ w' = W.alloc (.cells #[.map mb] 163) := by
  go_enter Tryz.func78, Tryz.ntmps78
  go_wp2
  go_ret
  exact ⟨rfl, rfl⟩

structure TT where
  val : List Int
  len : val.length = 8
def kEnc (k : TT) : Array Value := #[tV k.val]
set_option maxRecDepth 20000 in
set_option maxHeartbeats 2000000 in
theorem keys1_stops (ks : List (List Int)) (Bm b : Nat) (W : World) (hm : Box W Bm #[.map (some b)] 163) (hK : TMap W b ks) (hl : ks.length ≤ 1000000) :
    SeqStopsK Fence.wide 5 Tryz.prog 118 #[.pointer (some ⟨Bm, 0, none⟩)] kEnc KeepsWalks (fun ss : List TT => (ss.map TT.val).Nodup ∧ ∀ k, k ∈ ss.map TT.val ↔ k ∈ ks) (fun _ => True) ks.length W := by
  intro li J Jx W1 hB hJ hJx hY h0
  have hK1 := hK.below hB
  have d0 : W1.cell? ⟨Bm, 0, none⟩ = some (.map (some b)) := by simpa using (hm.below hB).cell 0
  obtain ⟨D, hown, hsz⟩ := hK1.owns tot_key (by unfold maxLen; omega)
  have hh0 : ∀ k ∈ ks, Maps.has D (litT k) = true := fun k hk => hK1.has0 tot_key hown hk
  have HH0 := Lib.hid hh0
  clear hh0
  refine callsIn_of_wp Tryz.func118 rfl trivial ?_ rfl
  simp only [Tryz.ntmps118, List.size_toArray, List.length_cons, List.length_nil, Nat.reduceAdd, Nat.reduceSub, Array.replicate_succ, Array.replicate_zero, List.push_toArray, List.append_toArray, List.nil_append, List.cons_append]
  gi_wp2_with (first
    | (gi_at_range; refine wpListIn_range_own _ rfl _ 163 rfl 87 4 tk_law Tryz.underlying163 _ b ks.length _ rfl hown ?_; intro w0 hrg0 hg0 hs0)
    | gi_in)
  go_frame
  have hK0 : TMap w0 b ks := hK1.heap (hg0.block b hK1.lt (by simp))
  have hJ0 := hJ [] W1 w0 none h0 hg0 (fun r e => by cases e)
  have hC0 := Lib.hid (Come.start (lit := litT) (left := Maps.has D) HH0.out)
  gi_loopw [3] (fun _ wr => ∃ (left : Lit → Bool) (cnt : Nat) (ss : List TT), wr.ranges Tryz.prog 87 anyR b W1.heap.size ks.length D left cnt ∧ ss.length + cnt ≤ Maps.size D ∧ Hid (Come litT ks left (ss.map TT.val)) ∧ J ss wr ∧ TMap wr b ks)
    (fun _ wr => wr.rangeLeft b W1.heap.size)
  case atStart => exact ⟨_, _, [], hrg0, by simp, hC0, hJ0, hK0⟩
  case round =>
    clear hK0 hJ0 hC0
    obtain ⟨left, cnt, ss, hrg, hcs, hC, hJs, hKr⟩ := hrel
    gi_wp2_with (first
      | (gi_at_next; refine wpListIn_next_b tot_key rfl _ rfl b W1.heap.size _ _ _ _ ks rfl hrg hKr ?_ ?_)
      | gi_in)
    · intro hl0
      gi_wp2
      go_end0
      exact ⟨⟨_, rfl⟩, .inl ⟨ss, ⟨hC.out.nodup, fun k => by rw [hC.out.mem k]; simp [hl0]⟩, hJs⟩⟩
    · intro x v w2 cnt2 hx hlk hrg2 hlt hg2 hs2 hen
      obtain ⟨a0, a1, a2, a3, a4, a5, a6, a7, rfl⟩ := len8 (hKr.keys x hx).1
      have hbk : Below w2.heap.size w2 (w2.alloc (.cells #[.int .i64 a0, .int .i64 a1, .int .i64 a2, .int .i64 a3, .int .i64 a4, .int .i64 a5, .int .i64 a6, .int .i64 a7] 87)) := (Below.refl _ _).alloc (Nat.le_refl _) _
      have hJ2 : J ss w2 := hJ ss wr w2 (some W1.heap.size) hJs hg2 (fun r e => by cases e; exact ⟨Nat.le_refl _, hrg.iter_walk⟩)
      have hJ3 := hJ ss w2 (w2.alloc (.cells #[.int .i64 a0, .int .i64 a1, .int .i64 a2, .int .i64 a3, .int .i64 a4, .int .i64 a5, .int .i64 a6, .int .i64 a7] 87)) none hJ2 (World.grownBy_alloc _ _ none) (fun r e => by cases e)
      have hK3 : TMap (w2.alloc (.cells #[.int .i64 a0, .int .i64 a1, .int .i64 a2, .int .i64 a3, .int .i64 a4, .int .i64 a5, .int .i64 a6, .int .i64 a7] 87)) b ks := (hKr.heap (hg2.block b hKr.lt (fun e => by
        obtain ⟨es, clock, since, seen, c1, hb, _, _, _, hr, _⟩ := hrg
        injection e with e
        rw [e] at hb; rw [hb] at hr; cases hr))).below hbk
      have hkw : KeepsWalks w2 (w2.alloc (.cells #[.int .i64 a0, .int .i64 a1, .int .i64 a2, .int .i64 a3, .int .i64 a4, .int .i64 a5, .int .i64 a6, .int .i64 a7] 87)) := KeepsWalks.alloc _ _
      obtain ⟨fn, tmps, assign, body, hy, hR⟩ := hY ss (⟨[a0, a1, a2, a3, a4, a5, a6, a7], rfl⟩ : TT) _ hJ3 (by omega)
      simp only [kEnc, tV, tA, List.map_cons, List.map_nil] at hy
      simp only [tV, tA, List.map_cons, List.map_nil] at hen
      clear hs2
      gi_wp2
      refine hR.mono ?_
      rintro e W3 (⟨rfl, hJ4, hk4⟩ | ⟨rfl, hJ4⟩)
      · clear hy hR
        gi_wp2
        have hrg3 := hrg2.of_walks (hkw.trans hk4)
        go_roundw
        case rel =>
          refine ⟨_, cnt2, ss ++ ([⟨[a0, a1, a2, a3, a4, a5, a6, a7], rfl⟩] : List TT), hrg3, by simp; omega, Lib.hid (by rw [List.map_append]; exact hC.out.step tot_key hKr.keys hx hlk), hJ4, ?_⟩
          obtain ⟨es, clock, hb, _⟩ := hK3.has
          exact hK3.heap ((hk4.same b _ hb rfl).trans hb.symm)
        case measure => rw [hrg3.left_eq, hrg.left_eq]; exact hlt
      · clear hy hR
        gi_wp2
        (try simp only [Exit.inBlock, Exit.then])
        refine bodyPost_ret (results_none rfl _ _ _) rfl ?_
        exact ⟨⟨_, rfl⟩, .inr ⟨_, trivial, hJ4⟩⟩
end Go.Proofs.YtehoidohallfcaaGreatDoor
