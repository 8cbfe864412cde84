/- facts.of and its iterator. -/
import Derived.RangeFuncNested
import Derived.RangeFuncBound
import Derived.RangeFuncCalls
import Derived.RangeFuncLeaves
import Derived.Shelf.Abstract
import Derived.Shelf.RegionOpen
import Derived.WalkKit
import Derived.OwnWalkIn
import Derived.TacticsInMore
import Derived.LoopNIn
import Derived.LoopIn
import Derived.Laws.MakeOwn
import Derived.Sort.QuietIn
import Derived.Outline
import Derived.Test.YtfhekhjojdhmhaaFSame
import Derived.Test.YtfhekhjojdhmhaaRnd
import Derived.WalkKit
import Derived.WalkSpells
import Derived.WalkLawsBesides
import Derived.Deep.LoopGhost
import Derived.Deep.QuietTactic
import Derived.BigQuiet
import Derived.StillTailTactics
import Derived.Lib.Hide
import Derived.Outline
import Derived.Lib.QuietBelow
namespace Go.Proofs.Ytfhekhjojdhmhaa
open Go.RowKit Go.Shelf
attribute [local go_sem] Oper.semAt_some

theorem of_any (a : Option Addr) (n c : Nat) (k : Key) (known : Int) (W : World) :
    Calls Try.prog 38 #[.slice a n c, keyV k, .int .i64 known] W fun e w' => e = .returned (.func (.func 53) #[] #[.pointer (some ⟨W.heap.size, 0, none⟩), .pointer (some ⟨W.heap.size + 1, 0, none⟩), .pointer (some ⟨W.heap.size + 1 + 1, 0, none⟩)]) ∧ w' = ((W.alloc (.cells #[.slice a n c] 22)).alloc (.cells #[.int .i64 k.kd, .int .i64 k.sb, .int .i64 k.ob] 24)).alloc (.cells #[.int .i64 known] 3) := by
  go_enter Try.func38, Try.ntmps38
  go_wp2
  go_ret
  exact ⟨rfl, rfl⟩

def fEnc (x : Fact) : Array Value := #[factV x]
theorem ofUpto_succ {l : List Fact} {k : Key} {known : Int} {n : Nat} {x : Fact} (h : l[n]? = some x) : ofL (l.take (n + 1)) k known = if ofB k known x then ofL (l.take n) k known ++ [x] else ofL (l.take n) k known := by
  rw [List.take_add_one, h]
  unfold ofL
  rw [List.filter_append]
  simp only [Option.toList]
  by_cases hx : ofB k known x = true
  · rw [if_pos hx]; simp [hx]
  · rw [if_neg hx]; simp [hx]
theorem Box3 {W : World} {b : Nat} {k : Key} (h : Box W b #[.int .i64 k.kd, .int .i64 k.sb, .int .i64 k.ob] 24) : W.cell? ⟨b, 0, none⟩ = some (.int .i64 k.kd) ∧ W.cell? ⟨b, 1, none⟩ = some (.int .i64 k.sb) ∧ W.cell? ⟨b, 2, none⟩ = some (.int .i64 k.ob) := ⟨by simpa using h.cell 0, by simpa using h.cell 1, by simpa using h.cell 2⟩

set_option maxRecDepth 20000 in
set_option maxHeartbeats 2000000 in
theorem of1_told (l : List Fact) (b1 b2 b3 : Nat) (a0 : Option Addr) (n0 c0 : Nat) (k : Key) (known : Int) (W : World)
    (hb1 : Box W b1 #[.slice a0 n0 c0] 22) (hb2 : Box W b2 #[.int .i64 k.kd, .int .i64 k.sb, .int .i64 k.ob] 24) (hb3 : Box W b3 #[.int .i64 known] 3) (hI : SL encF 8 W a0 n0 c0 l) :
    SeqTold3 Fence.wide 5 Try.prog 53 #[.pointer (some ⟨b1, 0, none⟩), .pointer (some ⟨b2, 0, none⟩), .pointer (some ⟨b3, 0, none⟩)] fEnc (fun _ _ _ _ => True) (fun xs => xs = ofL l k known) (n0 + 1) (fun q => q = b1 ∨ q = b2 ∨ q = b3 ∨ (0 < n0 ∧ ∃ o, a0 = some ⟨q, o, none⟩)) W := by
  intro li T0 J W1 hB hT hR hY h0
  have hbl1 : b1 < W1.heap.size := (hb1.below hB).lt
  have hbl2 : b2 < W1.heap.size := (hb2.below hB).lt
  have hbl3 : b3 < W1.heap.size := (hb3.below hB).lt
  have hT0 : ∀ q, T0 q → q < W1.heap.size := hT
  have d0 : W1.cell? ⟨b1, 0, none⟩ = some (.slice a0 n0 c0) := by simpa using (hb1.below hB).cell 0
  have hcc := hI.cap
  have hmc := hI.mx
  have HL := Lib.hid hI.len
  unfold maxLen at hmc
  refine callsIn_of_wp Try.func53 rfl trivial ?_ rfl
  simp only [Try.ntmps53, List.size_toArray, List.length_cons, List.length_nil, Nat.reduceAdd, Nat.reduceSub, Array.replicate_succ, Array.replicate_zero, List.push_toArray, List.append_toArray, List.nil_append, List.cons_append]
  gi_wp2
  gi_loopw [9] (fun c wr => ∃ (j : Nat) (T : Nat → Prop) (pre : List Fact) (W0 : World), j ≤ n0 ∧ c = .int .i64 j ∧ J T pre W0 ∧ Below W0.heap.size W0 wr ∧ Hid (pre = ofL (l.take j) k known) ∧ (∀ q, T q → T0 q ∨ W1.heap.size ≤ q) ∧ Hid (∀ q, q < W1.heap.size → ¬ T0 q → wr.heap[q]? = W1.heap[q]?) ∧ W1.heap.size ≤ wr.heap.size) (fun c _ => n0 - (intOf c).toNat)
  case atStart => exact ⟨0, T0, [], W1, by omega, rfl, h0, Below.refl _ _, Lib.hid rfl, fun q h => .inl h, Lib.hid (fun _ _ _ => rfl), Nat.le_refl _⟩
  case round =>
    clear d0
    obtain ⟨j, T, pre, W0, hj, rfl, hJ, hB0, HI, hTq, HK, hs6⟩ := hrel
    by_cases hlt : j < n0
    · have q2 : Box wr b2 #[.int .i64 k.kd, .int .i64 k.sb, .int .i64 k.ob] 24 := (HK.out b2 hbl2 (fun h => hR b2 h (.inr (.inl rfl)))).trans (hb2.below hB)
      have q3 : Box wr b3 #[.int .i64 known] 3 := (HK.out b3 hbl3 (fun h => hR b3 h (.inr (.inr (.inl rfl))))).trans (hb3.below hB)
      obtain ⟨cb, co, rfl, hcb⟩ := (hI.below hB).at' (by omega)
      have hIr : SL encF 8 wr (some ⟨cb, co, none⟩) n0 c0 l := ⟨hI.len, hI.cap, hI.mx, fun _ => ⟨cb, co, rfl, by omega⟩, fun b o e i x hx u v hv => by
        obtain ⟨rfl, rfl⟩ : cb = b ∧ co = o := by simpa using e
        exact (World.cell?_of_block (w := W1) (HK.out cb hcb (fun h => hR cb h (.inr (.inr (.inr ⟨by omega, co, rfl⟩)))))).trans ((hI.below hB).cell cb co rfl i x hx u v hv)⟩
      obtain ⟨x, hx⟩ := hIr.get hlt
      obtain ⟨e0, e1, e2, e3, e4, e5, e6, e7⟩ := hIr.fact hx
      have hpl : pre.length < n0 + 1 := by
        rw [HI.out]
        have := List.length_filter_le (ofB k known) (l.take j)
        unfold ofL
        rw [List.length_take] at this
        omega
      have HS := Lib.hid (ofUpto_succ (k := k) (known := known) hx)
      have k1 : (j : Int) < (n0 : Int) := by omega
      obtain ⟨k2, hk2, hbk, hbox⟩ : ∃ wx, wr.alloc (.cells #[.int .i64 x.kd, .int .i64 x.sb, .int .i64 x.ob, .int .i64 x.val, .int .i64 x.vf, .int .i64 x.vt, .int .i64 x.kn, .int .i64 x.no] 28) = wx ∧ Below wr.heap.size wr wx ∧ Box wx wr.heap.size #[.int .i64 x.kd, .int .i64 x.sb, .int .i64 x.ob, .int .i64 x.val, .int .i64 x.vf, .int .i64 x.vt, .int .i64 x.kn, .int .i64 x.no] 28 := ⟨_, rfl, (Below.refl _ _).alloc (Nat.le_refl _) _, Box.new _ _ _⟩
      obtain ⟨g0, g1, g2⟩ := Box3 (q2.below hbk)
      have g3 : k2.cell? ⟨b3, 0, none⟩ = some (.int .i64 known) := by simpa using (q3.below hbk).cell 0
      have hD : At8 k2 wr.heap.size 0 x := ⟨hbox.cell 0, hbox.cell 1, hbox.cell 2, hbox.cell 3, hbox.cell 4, hbox.cell 5, hbox.cell 6, hbox.cell 7⟩
      obtain ⟨d0, d1, d2, d3, d4, d5, d6, d7⟩ := hD
      simp only [Nat.zero_add] at d0 d1 d2 d3 d4 d5 d6 d7
      have hg := guard_key
      have hE : ∀ w, (Op.equalIn 10000 24 (.agg #[.int .i64 x.kd, .int .i64 x.sb, .int .i64 x.ob]) (keyV k)).run Try.prog w = .ok (decide (x.key = k)) w := eqInD_key 9998 x.key k
      have hBk : Below W0.heap.size W0 k2 := hB0.on hbk
      have hkk : Hid (∀ q, q < W1.heap.size → ¬ T0 q → k2.heap[q]? = W1.heap[q]?) := Lib.hid fun q h1 h2 => (hbk.block q (by omega)).trans (HK.out q h1 h2)
      have hk6 : W1.heap.size ≤ k2.heap.size := Nat.le_trans hs6 hbk.size
      clear hx hIr q2 q3 hbox
      by_cases hkey : x.key = k
      · rw [decide_eq_true hkey] at hE
        by_cases hkn : x.kn ≤ known
        · have HO : Hid (ofB k known x = true) := Lib.hid (by unfold ofB; rw [decide_eq_true hkey, decide_eq_true hkn]; rfl)
          clear hkey
          obtain ⟨fn, tmps, assign, body, hy, hR'⟩ := hY T pre x W0 k2 hJ hBk trivial hpl
          simp only [fEnc] at hy
          gi_wp2
          refine hR'.mono ?_
          rintro e W' ⟨rfl, T', hRK, hJ'⟩
          clear hy hR'
          gi_wp2
          go_roundw
          case rel =>
            refine ⟨j + 1, T', _, W', by omega, by go_num, hJ', Below.refl _ _, Lib.hid (by rw [HS.out, if_pos HO.out, HI.out]), fun q hq => ?_, Lib.hid fun q h1 h2 => ?_, Nat.le_trans hk6 (by have := hRK.size; simpa using this)⟩
            · rcases hRK.own q hq with h | h
              · exact hTq q h
              · exact .inr (by omega)
            · rw [hRK.same q (by omega) (fun h => (hTq q h).elim h2 (fun h3 => by omega))]
              exact hkk.out q h1 h2
          case measure => simp [intOf]; omega
        · have HO : Hid (ofB k known x = false) := Lib.hid (by unfold ofB; rw [decide_eq_false hkn, Bool.and_false])
          clear hkey
          gi_wp2
          refine ⟨(fun f hf => by cases hf), ?_⟩
          gi_wp2
          go_roundw
          case rel => exact ⟨j + 1, T, pre, W0, by omega, by go_num, hJ, hBk, Lib.hid (by rw [HS.out, if_neg (by rw [HO.out]; decide), HI.out]), hTq, hkk, hk6⟩
          case measure => simp [intOf]; omega
      · have HO : Hid (ofB k known x = false) := Lib.hid (by unfold ofB; rw [decide_eq_false hkey, Bool.false_and])
        rw [decide_eq_false hkey] at hE
        clear hkey
        gi_wp2
        refine ⟨(fun f hf => by cases hf), ?_⟩
        gi_wp2
        go_roundw
        case rel => exact ⟨j + 1, T, pre, W0, by omega, by go_num, hJ, hBk, Lib.hid (by rw [HS.out, if_neg (by rw [HO.out]; decide), HI.out]), hTq, hkk, hk6⟩
        case measure => simp [intOf]; omega
    · obtain rfl : j = n0 := by omega
      gi_wp2
      go_end0
      exact ⟨⟨_, rfl⟩, T, pre, W0, by rw [HI.out, List.take_of_length_le (by rw [HL.out]; omega)], hJ, hB0⟩
end Go.Proofs.Ytfhekhjojdhmhaa
