/- grids.spots and its iterator. -/
import Derived.RangeFuncNested
import Derived.RangeFuncBound
import Derived.RangeFuncCalls
import Derived.RangeFuncLeaves
import Derived.Shelf.Abstract
import Derived.Shelf.RegionOpen
import Derived.WalkKit
import Derived.OwnWalkIn
import Derived.TacticsInMore
import Derived.LoopNIn
import Derived.LoopIn
import Derived.Maps.OwnIn
import Derived.Laws.MakeOwn
import Derived.Sort.QuietIn
import Derived.Outline
import Derived.Test.YtjiacdihfbbfjaaGCell
import Derived.Test.YtjiacdihfbbfjaaRnds
import Derived.WalkSpells
import Derived.WalkLawsBesides
import Derived.Deep.LoopGhost
import Derived.Deep.QuietTactic
import Derived.BigQuiet
import Derived.StillTailTactics
import Derived.Lib.Hide
import Derived.Lib.QuietBelow
namespace Go.Proofs.Ytjiacdihfbbfjaa
open Go.RowKit Go.Shelf
attribute [local go_sem] Oper.semAt_some

theorem spots_any (cs : Array Value) (_ : cs.size = 5) (W : World) :
    Calls Try.prog 75 #[.agg cs] W fun e w' => e = .returned (.func (.func 98) #[] #[.pointer (some ⟨W.heap.size, 0, none⟩)]) ∧ w' = W.alloc (.cells cs 24) := by
  go_enter Try.func75, Try.ntmps75
  go_wp2
  go_ret
  exact ⟨rfl, rfl⟩

abbrev Sp := Nat × (Int × Int)
def spEnc (x : Sp) : Array Value := #[.int .i64 x.1, .agg #[.int .i64 x.2.1, .int .i64 x.2.2]]
def spotsUpto (g : Grid) (k : Nat) : List Sp := (List.range k).map fun c => (c, plc g c)
theorem spotsUpto_succ (g : Grid) (k : Nat) : spotsUpto g (k + 1) = spotsUpto g k ++ [(k, plc g k)] := by unfold spotsUpto; rw [List.range_succ]; simp
theorem spotsUpto_len (g : Grid) (k : Nat) : (spotsUpto g k).length = k := by unfold spotsUpto; simp

set_option maxRecDepth 20000 in
set_option maxHeartbeats 2000000 in
theorem spots1_told (g : Grid) (b : Nat) (ah ac : Option Addr) (nh ch nc cc : Nat) (W : World)
    (hb : Box W b #[.int .i64 g.shape, .int .i64 g.w, .int .i64 g.h, .slice ah nh ch, .slice ac nc cc] 24) (hI : Ints W ac nc cc g.cells) (hw : 1 ≤ g.w ∧ g.w ≤ 16) (hc : ∀ x ∈ g.cells, 0 ≤ x ∧ x < 256) (hn : nc ≤ 256) :
    SeqTold3 Fence.wide 5 Try.prog 98 #[.pointer (some ⟨b, 0, none⟩)] spEnc (fun pre x _ _ => pre = spotsUpto g pre.length ∧ pre.length < nc ∧ x = (pre.length, plc g pre.length)) (fun xs => xs = spotsUpto g nc) nc (fun k => k = b ∨ ∃ o, ac = some ⟨k, o, none⟩) W := by
  intro l T0 J W1 hB hT hR hY h0
  have hbl : b < W1.heap.size := (hb.below hB).lt
  have hT0 : ∀ q, T0 q → q < W1.heap.size := hT
  obtain ⟨d0, d1, d2, d3, d4⟩ := (hb.below hB).g5
  have hcc := hI.cap
  have hmc := hI.mx
  unfold maxLen at hmc
  refine callsIn_of_wp Try.func98 rfl trivial ?_ rfl
  simp only [Try.ntmps98, List.size_toArray, List.length_cons, List.length_nil, Nat.reduceAdd, Nat.reduceSub, Array.replicate_succ, Array.replicate_zero, List.push_toArray, List.append_toArray, List.nil_append, List.cons_append]
  gi_wp2
  gi_loopw [10] (fun c wr => ∃ (k : Nat) (T : Nat → Prop) (pre : List Sp) (W0 : World), k ≤ nc ∧ c = .int .i64 k ∧ J T pre W0 ∧ Below W0.heap.size W0 wr ∧ Hid (pre = spotsUpto g k) ∧ (∀ q, T q → T0 q ∨ W1.heap.size ≤ q) ∧ Hid (∀ q, q < W1.heap.size → ¬ T0 q → wr.heap[q]? = W1.heap[q]?) ∧ W1.heap.size ≤ wr.heap.size) (fun c _ => nc - (intOf c).toNat)
  case atStart => exact ⟨0, T0, [], W1, by omega, rfl, h0, Below.refl _ _, Lib.hid rfl, fun q h => .inl h, Lib.hid (fun _ _ _ => rfl), Nat.le_refl _⟩
  case round =>
    clear d0 d1 d2 d3 d4
    obtain ⟨k, T, pre, W0, hk, rfl, hJ, hB0, HI, hTq, HK, hs6⟩ := hrel
    by_cases hlt : k < nc
    · have hgb : Box wr b #[.int .i64 g.shape, .int .i64 g.w, .int .i64 g.h, .slice ah nh ch, .slice ac nc cc] 24 := (HK.out b hbl (fun h => hR b h (.inl rfl))).trans (hb.below hB)
      obtain ⟨d0, d1, d2, d3, d4⟩ := hgb.g5
      obtain ⟨cb, co, rfl, hcb⟩ := (hI.below hB).at' (by omega)
      have hx : wr.cell? ⟨cb, co + k, none⟩ = some (.int .i64 (g.cells[k]?.getD 0)) := (World.cell?_of_block (w := W1) (HK.out cb hcb (fun h => hR cb h (.inr ⟨co, rfl⟩)))).trans ((hI.below hB).cell cb co rfl k hlt)
      have hx0 := hc _ (getD_mem g.cells k (by rw [hI.len]; exact hlt))
      have HP : Hid (plc g k = placeOf g (g.cells[k]?.getD 0)) := Lib.hid rfl
      obtain ⟨pos, hpos⟩ : ∃ pos, g.cells[k]?.getD 0 = pos := ⟨_, rfl⟩
      obtain ⟨w, hwe⟩ : ∃ w, g.w = w := ⟨_, rfl⟩
      have HWE := Lib.hid hwe
      rw [hpos] at hx hx0 HP
      rw [hwe] at d1
      have hw' := hw
      rw [hwe] at hw'
      have hz : (w == 0) = false := by rw [beq_eq_false_iff_ne]; omega
      have q1 : 0 ≤ pos / w := Int.ediv_nonneg hx0.1 (by omega)
      have q2 : pos / w ≤ pos := Int.ediv_le_self _ hx0.1
      have q3 : 0 ≤ pos % w := Int.emod_nonneg _ (by omega)
      have q4 : pos % w < w := Int.emod_lt_of_pos _ (by omega)
      have k1 : (k : Int) < (nc : Int) := by omega
      have hlen : pre.length < nc := by rw [HI.out, spotsUpto_len]; exact hlt
      clear hpos hwe hgb
      by_cases hs : g.shape = 2
      · have ts : (g.shape == 2) = true := by rw [hs]; rfl
        have HPE : Hid (plc g k = (pos % w - pos / w / 2, pos / w)) := Lib.hid (by rw [HP.out]; unfold placeOf; rw [if_pos hs, HWE.out])
        clear hs
        gi_wp2
        gi_quiet (fail)
        obtain ⟨fn, tmps, assign, body, hy, hR'⟩ := hY T pre (k, plc g k) W0 (wr.drewN nq) hJ (below_drewN hB0 nq) (by have hl : pre.length = k := (by rw [HI.out, spotsUpto_len]); exact ⟨by rw [hl]; exact HI.out, by omega, by rw [hl]⟩) hlen
        simp only [spEnc, HPE.out] at hy
        gi_wp2
        refine hR'.mono ?_
        rintro e W' ⟨rfl, T', hRK, hJ'⟩
        clear hy hR'
        gi_wp2
        go_roundw
        case rel =>
          refine ⟨k + 1, T', _, W', by omega, by go_num, hJ', Below.refl _ _, Lib.hid (by rw [spotsUpto_succ, HI.out]), fun q hq => ?_, Lib.hid fun q h1 h2 => ?_, Nat.le_trans hs6 (by have := hRK.size; simpa using this)⟩
          · rcases hRK.own q hq with h | h
            · exact hTq q h
            · exact .inr (by simp at h; omega)
          · rw [hRK.same q (by simp; omega) (fun h => (hTq q h).elim h2 (fun h3 => by omega))]
            exact HK.out q h1 h2
        case measure => simp [intOf]; omega
      · have ts : (g.shape == 2) = false := by rw [beq_eq_false_iff_ne]; exact hs
        have HPE : Hid (plc g k = (pos % w, pos / w)) := Lib.hid (by rw [HP.out]; unfold placeOf; rw [if_neg hs, HWE.out])
        clear hs
        gi_wp2
        gi_quiet (fail)
        obtain ⟨fn, tmps, assign, body, hy, hR'⟩ := hY T pre (k, plc g k) W0 (wr.drewN nq) hJ (below_drewN hB0 nq) (by have hl : pre.length = k := (by rw [HI.out, spotsUpto_len]); exact ⟨by rw [hl]; exact HI.out, by omega, by rw [hl]⟩) hlen
        simp only [spEnc, HPE.out] at hy
        gi_wp2
        refine hR'.mono ?_
        rintro e W' ⟨rfl, T', hRK, hJ'⟩
        clear hy hR'
        gi_wp2
        go_roundw
        case rel =>
          refine ⟨k + 1, T', _, W', by omega, by go_num, hJ', Below.refl _ _, Lib.hid (by rw [spotsUpto_succ, HI.out]), fun q hq => ?_, Lib.hid fun q h1 h2 => ?_, Nat.le_trans hs6 (by have := hRK.size; simpa using this)⟩
          · rcases hRK.own q hq with h | h
            · exact hTq q h
            · exact .inr (by simp at h; omega)
          · rw [hRK.same q (by simp; omega) (fun h => (hTq q h).elim h2 (fun h3 => by omega))]
            exact HK.out q h1 h2
        case measure => simp [intOf]; omega
    · obtain rfl : k = nc := by omega
      gi_wp2
      go_end0
      exact ⟨⟨_, rfl⟩, T, pre, W0, HI.out, hJ, hB0⟩
end Go.Proofs.Ytjiacdihfbbfjaa

