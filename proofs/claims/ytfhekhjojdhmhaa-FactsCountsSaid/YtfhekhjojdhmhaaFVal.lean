/- Contract of facts.values. -/
import Derived.RangeFuncNested
import Derived.RangeFuncBound
import Derived.RangeFuncCalls
import Derived.RangeFuncLeaves
import Derived.Shelf.Abstract
import Derived.Shelf.RegionOpen
import Derived.WalkKit
import Derived.OwnWalkIn
import Derived.TacticsInMore
import Derived.LoopNIn
import Derived.LoopIn
import Derived.Laws.MakeOwn
import Derived.Outline
import Derived.Test.YtfhekhjojdhmhaaFValM
namespace Go.Proofs.Ytfhekhjojdhmhaa
open Go.RowKit Go.Shelf
attribute [local go_sem] Oper.semAt_some

/-- Between two rounds. -/
structure V1 (W w5 : World) (M : Nat) (T : Nat → Prop) (pre : List Fact) (W2 : World) : Prop where
  bst : Bst W2 M (fun d : Nat => bestOn d pre)
  below : Below W.heap.size W W2
  keep : ∀ k, k < w5.heap.size → k ≠ M → k ≠ M + 1 → W2.heap[k]? = w5.heap[k]?
  size : w5.heap.size ≤ W2.heap.size
  T : ∀ k, T k ↔ (k = M ∨ k = M + 1)
theorem V1.put {W w5 W2 : World} {M l : Nat} {T : Nat → Prop} {pre : List Fact} (h : V1 W w5 M T pre W2) (hl : w5.heap.size ≤ l) (hM : M + 1 < w5.heap.size) (hW : W.heap.size ≤ w5.heap.size) (o' : Obj) : V1 W w5 M T pre (W2.putObj l o') :=
  ⟨h.bst.put (by omega) (by omega) o', below_put2 h.below (by omega) (by have := h.size; omega) o', fun k hk h1 h2 => (World.putObj_heap_other (by omega)).trans (h.keep k hk h1 h2), by simpa using h.size, h.T⟩
theorem V1.on {W w5 W2 W3 : World} {M : Nat} {T : Nat → Prop} {pre : List Fact} (h : V1 W w5 M T pre W2) (hb : Below W2.heap.size W2 W3) : V1 W w5 M T pre W3 :=
  ⟨h.bst.below hb, h.below.on hb, fun k hk h1 h2 => (hb.block k (Nat.lt_of_lt_of_le hk h.size)).trans (h.keep k hk h1 h2), Nat.le_trans h.size hb.size, h.T⟩
structure V1V (W w5 : World) (M : Nat) (T : Nat → Prop) (pre : List Fact) (x : Fact) (s : Nat) (V : World) : Prop where
  in1 : V1 W w5 M T pre V
  box : Box V s #[.int .i64 x.kd, .int .i64 x.sb, .int .i64 x.ob, .int .i64 x.val, .int .i64 x.vf, .int .i64 x.vt, .int .i64 x.kn, .int .i64 x.no] 28
  new : w5.heap.size ≤ s

/-- Inside a round: the days below t are done. -/
structure InR (W V : World) (M s t0 : Nat) (pre : List Fact) (x : Fact) (t : Nat) (wr : World) : Prop where
  hd : t = t0 ∨ (t ≤ 1024 ∧ (t : Int) ≤ x.vt)
  hf : x.vf ≤ t
  bst : Bst wr M (fun d => if d < t then bestOn d (pre ++ [x]) else bestOn d pre)
  box : Box wr s #[.int .i64 x.kd, .int .i64 x.sb, .int .i64 x.ob, .int .i64 x.val, .int .i64 x.vf, .int .i64 x.vt, .int .i64 x.kn, .int .i64 x.no] 28
  keep : ∀ q, q < s → q ≠ M → q ≠ M + 1 → wr.heap[q]? = V.heap[q]?
  below : Below W.heap.size W wr
section
variable {W V wr w3 : World} {M s t0 t : Nat} {pre : List Fact} {x : Fact}
theorem InR.on (h : InR W V M s t0 pre x t wr) (hb : Below wr.heap.size wr w3) : InR W V M s t0 pre x t w3 :=
  ⟨h.hd, h.hf, h.bst.below hb, h.box.below hb, fun q h1 h2 h3 => (hb.block q (Nat.lt_trans h1 h.box.lt)).trans (h.keep q h1 h2 h3), h.below.on hb⟩
theorem InR.drew (h : InR W V M s t0 pre x t wr) : InR W V M s t0 pre x t wr.drew := h.on (Below.refl _ _).drew
theorem InR.store (h : InR W V M s t0 pre x t w3) (h1 : (t : Int) < x.vt) (h2 : t < 1024) (hn : bestOn t (pre ++ [x]) = some x) (hM : M + 1 < s) (hW : W.heap.size ≤ M) :
    InR W V M s t0 pre x (t + 1) ((((((((((w3.setCell ⟨M, t * 8, none⟩ (.int .i64 x.kd)).setCell ⟨M, t * 8 + 1, none⟩ (.int .i64 x.sb)).setCell ⟨M, t * 8 + 2, none⟩ (.int .i64 x.ob)).setCell ⟨M, t * 8 + 3, none⟩ (.int .i64 x.val)).setCell ⟨M, t * 8 + 4, none⟩ (.int .i64 x.vf)).setCell ⟨M, t * 8 + 5, none⟩ (.int .i64 x.vt)).setCell ⟨M, t * 8 + 6, none⟩ (.int .i64 x.kn)).setCell ⟨M, t * 8 + 7, none⟩ (.int .i64 x.no))).setCell ⟨M + 1, t, none⟩ (.bool true)) := by
  refine ⟨.inr (by omega), by have := h.hf; omega, (h.bst.set h2 x).congr fun d hd => ?_, ?_, fun q h1 h2 h3 => ?_, (below_set8o h.below M _ hW x).setCell (p := ⟨M + 1, t, none⟩) (by simp; omega) _⟩
  · by_cases hdt : d = t
    · subst hdt
      simp only [if_true]
      rw [if_pos (by omega), hn]
    · simp only [if_neg hdt]
      by_cases hd2 : d < t
      · rw [if_pos hd2, if_pos (by omega)]
      · rw [if_neg hd2, if_neg (by omega)]
  · exact (Below.heap_setCell _ _ _ s (by simp; omega)).trans ((heap_set8o w3 M (t * 8) x s (by omega)).trans h.box)
  · exact (Below.heap_setCell _ _ _ q (by simp; omega)).trans ((heap_set8o w3 M (t * 8) x q h2).trans (h.keep q h1 h2 h3))
theorem InR.old (h : InR W V M s t0 pre x t w3) (h1 : (t : Int) < x.vt) (h2 : t < 1024) (hn : bestOn t (pre ++ [x]) = bestOn t pre) : InR W V M s t0 pre x (t + 1) w3 := by
  refine ⟨.inr (by omega), by have := h.hf; omega, h.bst.congr fun d hd => ?_, h.box, h.keep, h.below⟩
  by_cases hdt : d = t
  · subst hdt
    rw [if_neg (by omega), if_pos (by omega), hn]
  · by_cases hd2 : d < t
    · rw [if_pos hd2, if_pos (by omega)]
    · rw [if_neg hd2, if_neg (by omega)]
theorem InR.done (h : InR W V M s t0 pre x t wr) (h1 : ¬ (t : Int) < min x.vt 1024) (_ht0 : (max (0 : Int) x.vf).toNat = t0) : Bst wr M (fun d : Nat => bestOn d (pre ++ [x])) := by
  refine h.bst.congr fun d hd => ?_
  by_cases hd2 : d < t
  · rw [if_pos hd2]
  · rw [if_neg hd2, bestOn_off (by unfold onB; rw [decide_eq_false (p := (d : Int) < x.vt) (by omega), Bool.and_false])]
end

set_option maxRecDepth 20000 in
set_option maxHeartbeats 4000000 in
theorem values_any (a0 : Option Addr) (n0 c0 : Nat) (l : List Fact) (k : Key) (known : Int) (W : World) (h0 : SL encF 8 W a0 n0 c0 l) :
    Calls Try.prog 39 #[.slice a0 n0 c0, keyV k, .int .i64 known] W fun e w' => e = .returned (.agg (rowV l k known)) ∧ Below W.heap.size W w' := by
  have hm0 := h0.mx
  have hc0 := h0.cap
  have hl0 := Lib.hid h0.len
  unfold maxLen at hm0
  refine (callsIn_wide (n := 6)).1 (callsIn_of_wp_marks Try.func39 rfl trivial ?_ rfl)
  simp only [Try.ntmps39, List.size_toArray, List.length_cons, List.length_nil, Nat.reduceAdd, Nat.reduceSub, Array.replicate_succ, Array.replicate_zero, List.push_toArray, List.append_toArray, List.nil_append, List.cons_append]
  gi_wp2_with (refine ⟨trivial, ?_⟩; gi_at_call 38; refine (callsIn_wide.2 (of_any _ _ _ _ _ _)).mono ?_; rintro e w2 ⟨rfl, rfl⟩)
  obtain ⟨M, hM⟩ : ∃ M, W.heap.size + 1 + 1 = M := ⟨_, rfl⟩
  have x0 : Box ((((((((W.alloc (.cells #[.int .i64 k.kd, .int .i64 k.sb, .int .i64 k.ob] 24)).alloc (.cells Try.zeroCells70 70)).alloc (.cells Try.zeroCells84 84)).alloc (.cells Try.zeroCells85 85)).alloc (.cells #[.slice a0 n0 c0] 22)).alloc (.cells #[.int .i64 k.kd, .int .i64 k.sb, .int .i64 k.ob] 24)).alloc (.cells #[.int .i64 known] 3))) (W.heap.size + 1) Try.zeroCells70 70 := (by repeat (first | (refine Box.newAt ?_; simp; done) | (refine Box.newAt ?_; rfl; done) | refine Box.alloc ?_ _))
  have x2 : Box ((((((((W.alloc (.cells #[.int .i64 k.kd, .int .i64 k.sb, .int .i64 k.ob] 24)).alloc (.cells Try.zeroCells70 70)).alloc (.cells Try.zeroCells84 84)).alloc (.cells Try.zeroCells85 85)).alloc (.cells #[.slice a0 n0 c0] 22)).alloc (.cells #[.int .i64 k.kd, .int .i64 k.sb, .int .i64 k.ob] 24)).alloc (.cells #[.int .i64 known] 3))) (W.heap.size + 1 + 1) Try.zeroCells84 84 := (by repeat (first | (refine Box.newAt ?_; simp; done) | (refine Box.newAt ?_; rfl; done) | refine Box.alloc ?_ _))
  have x3 : Box ((((((((W.alloc (.cells #[.int .i64 k.kd, .int .i64 k.sb, .int .i64 k.ob] 24)).alloc (.cells Try.zeroCells70 70)).alloc (.cells Try.zeroCells84 84)).alloc (.cells Try.zeroCells85 85)).alloc (.cells #[.slice a0 n0 c0] 22)).alloc (.cells #[.int .i64 k.kd, .int .i64 k.sb, .int .i64 k.ob] 24)).alloc (.cells #[.int .i64 known] 3))) (W.heap.size + 1 + 1 + 1) Try.zeroCells85 85 := (by repeat (first | (refine Box.newAt ?_; simp; done) | (refine Box.newAt ?_; rfl; done) | refine Box.alloc ?_ _))
  have x4 : Box ((((((((W.alloc (.cells #[.int .i64 k.kd, .int .i64 k.sb, .int .i64 k.ob] 24)).alloc (.cells Try.zeroCells70 70)).alloc (.cells Try.zeroCells84 84)).alloc (.cells Try.zeroCells85 85)).alloc (.cells #[.slice a0 n0 c0] 22)).alloc (.cells #[.int .i64 k.kd, .int .i64 k.sb, .int .i64 k.ob] 24)).alloc (.cells #[.int .i64 known] 3))) (W.heap.size + 1 + 1 + 1 + 1) #[.slice a0 n0 c0] 22 := (by repeat (first | (refine Box.newAt ?_; simp; done) | (refine Box.newAt ?_; rfl; done) | refine Box.alloc ?_ _))
  have x5 : Box ((((((((W.alloc (.cells #[.int .i64 k.kd, .int .i64 k.sb, .int .i64 k.ob] 24)).alloc (.cells Try.zeroCells70 70)).alloc (.cells Try.zeroCells84 84)).alloc (.cells Try.zeroCells85 85)).alloc (.cells #[.slice a0 n0 c0] 22)).alloc (.cells #[.int .i64 k.kd, .int .i64 k.sb, .int .i64 k.ob] 24)).alloc (.cells #[.int .i64 known] 3))) (W.heap.size + 1 + 1 + 1 + 1 + 1) #[.int .i64 k.kd, .int .i64 k.sb, .int .i64 k.ob] 24 := (by repeat (first | (refine Box.newAt ?_; simp; done) | (refine Box.newAt ?_; rfl; done) | refine Box.alloc ?_ _))
  have x6 : Box ((((((((W.alloc (.cells #[.int .i64 k.kd, .int .i64 k.sb, .int .i64 k.ob] 24)).alloc (.cells Try.zeroCells70 70)).alloc (.cells Try.zeroCells84 84)).alloc (.cells Try.zeroCells85 85)).alloc (.cells #[.slice a0 n0 c0] 22)).alloc (.cells #[.int .i64 k.kd, .int .i64 k.sb, .int .i64 k.ob] 24)).alloc (.cells #[.int .i64 known] 3))) (W.heap.size + 1 + 1 + 1 + 1 + 1 + 1) #[.int .i64 known] 3 := (by repeat (first | (refine Box.newAt ?_; simp; done) | (refine Box.newAt ?_; rfl; done) | refine Box.alloc ?_ _))
  have hB5 : Below W.heap.size W ((((((((W.alloc (.cells #[.int .i64 k.kd, .int .i64 k.sb, .int .i64 k.ob] 24)).alloc (.cells Try.zeroCells70 70)).alloc (.cells Try.zeroCells84 84)).alloc (.cells Try.zeroCells85 85)).alloc (.cells #[.slice a0 n0 c0] 22)).alloc (.cells #[.int .i64 k.kd, .int .i64 k.sb, .int .i64 k.ob] 24)).alloc (.cells #[.int .i64 known] 3))) := (((((((Below.refl _ _).alloc (Nat.le_refl _) _).alloc (by simp) _).alloc (by simp; omega) _).alloc (by simp; omega) _).alloc (by simp; omega) _).alloc (by simp; omega) _).alloc (by simp; omega) _
  have hz5 : ((((((((W.alloc (.cells #[.int .i64 k.kd, .int .i64 k.sb, .int .i64 k.ob] 24)).alloc (.cells Try.zeroCells70 70)).alloc (.cells Try.zeroCells84 84)).alloc (.cells Try.zeroCells85 85)).alloc (.cells #[.slice a0 n0 c0] 22)).alloc (.cells #[.int .i64 k.kd, .int .i64 k.sb, .int .i64 k.ob] 24)).alloc (.cells #[.int .i64 known] 3))).heap.size = W.heap.size + 7 := by simp
  obtain ⟨w5, hw5⟩ : ∃ w5, ((((((((W.alloc (.cells #[.int .i64 k.kd, .int .i64 k.sb, .int .i64 k.ob] 24)).alloc (.cells Try.zeroCells70 70)).alloc (.cells Try.zeroCells84 84)).alloc (.cells Try.zeroCells85 85)).alloc (.cells #[.slice a0 n0 c0] 22)).alloc (.cells #[.int .i64 k.kd, .int .i64 k.sb, .int .i64 k.ob] 24)).alloc (.cells #[.int .i64 known] 3))) = w5 := ⟨_, rfl⟩
  rw [hw5] at hB5 hz5 x0 x2 x3 x4 x5 x6 ⊢
  rw [hM] at x2 x3 x4 x5 x6 ⊢
  clear hw5
  have hb0 : Bst w5 M (fun d : Nat => bestOn d []) := ⟨⟨_, x2, zero84, fun d y _ hy => by cases hy⟩, ⟨_, x3, by rw [zero85]; simp, fun d hd => by rw [zero85]; simp [hd, bestOn, bestF]⟩⟩
  refine wpIn_rangeFunc_told3 rfl (by omega) (gf := 53) (lb := #[.pointer (some ⟨M + 1 + 1, 0, none⟩), .pointer (some ⟨M + 1 + 1 + 1, 0, none⟩), .pointer (some ⟨M + 1 + 1 + 1 + 1, 0, none⟩)]) rfl trivial (enters_of Try.func53 (by kernel_rfl) rfl)
    (of1_told l (M + 1 + 1) (M + 1 + 1 + 1) (M + 1 + 1 + 1 + 1) a0 n0 c0 k known w5 x4 x5 x6 (h0.below hB5)) (Below.refl _ _) (fun _ => rfl)
    (fun q => q = M ∨ q = M + 1) ?hT0 (by rintro q (rfl | rfl) <;> omega) (V1 W w5 M) (V1V W w5 M) ?hIput ?hVput ?hIb (fun x s => { tmps := #[.slice a0 n0 c0, keyV k, .int .i64 known, undef, .pointer (some ⟨W.heap.size, 0, none⟩), undef, .pointer (some ⟨W.heap.size + 1, 0, none⟩), .pointer (some ⟨M, 0, none⟩), .pointer (some ⟨M + 1, 0, none⟩), (.pointer (some ⟨s, 0, none⟩)), undef, undef, .slice a0 n0 c0, .agg #[.int .i64 k.kd, .int .i64 k.sb, .int .i64 k.ob], .int .i64 known, .func (.func 53) #[] #[.pointer (some ⟨M + 1 + 1, 0, none⟩), .pointer (some ⟨M + 1 + 1 + 1, 0, none⟩), .pointer (some ⟨M + 1 + 1 + 1 + 1, 0, none⟩)], (factV x), undef, undef, undef, undef, undef, undef, undef, undef, undef, undef, undef, undef, undef, undef, undef, undef, undef, undef, undef, undef, undef, undef, undef, undef, undef, undef, undef, undef, undef, undef, undef, undef, undef, undef, undef, undef, undef, undef, undef, undef, undef, undef, undef, undef, undef, undef], defers := [] }) (fun x W2 => W2.alloc (.cells #[.int .i64 x.kd, .int .i64 x.sb, .int .i64 x.ob, .int .i64 x.val, .int .i64 x.vf, .int .i64 x.vt, .int .i64 x.kn, .int .i64 x.no] 28)) (fun x W2 => (Below.refl _ _).alloc (Nat.le_refl _) _) ?hV ?hT ?h0 ?assign ?body ?done
  case hT0 =>
    rintro q hq (h | h | h | ⟨h00, o, h⟩)
    · omega
    · omega
    · omega
    · obtain ⟨b', o', e, hlt⟩ := h0.at' h00
      rw [e] at h
      have h := Option.some.inj h
      have : b' = q := by simpa using congrArg Addr.block h
      omega
  case hIput => rintro T pre W2 l o o' hI hl ho hno; exact hI.put hl (by omega) (by omega) o'
  case hVput => rintro T pre x s W2 l o o' ⟨h1, h2, h3⟩ hl hls ho hno; exact ⟨h1.put hl (by omega) (by omega) o', box_put2 h2 (by omega) o', h3⟩
  case hIb => rintro T pre W2 W3 hI hb; exact hI.on hb
  case hV => rintro T pre x W0 W1 hI hb _ hlen hs; exact ⟨(hI.on hb).on ((Below.refl _ _).alloc (Nat.le_refl _) _), Box.new _ _ _, hs⟩
  case hT => rintro T pre W2 hI q o hT hq ho; have := (hI.T q).1 hT; omega
  case h0 => exact ⟨hb0, hB5, fun _ _ _ _ => rfl, Nat.le_refl _, fun q => Iff.rfl⟩
  case assign =>
    rintro li x W2 K hK
    simp only [fEnc] at hK ⊢
    gi_wp2
    exact hK
  case body =>
    rintro li T pre x s V ⟨hI, hbx, hnew⟩ hlen hs
    have HTT := Lib.hid hI.T
    have HKP := Lib.hid hI.keep
    have hszV : w5.heap.size ≤ V.heap.size := hI.size
    have hbst := hI.bst
    have hBV := hI.below
    have hsx := hbx.lt
    clear hI x0 x2 x3 x4 x5 x6 hB5 hb0
    obtain ⟨t0, ht0⟩ : ∃ t0 : Nat, (max (0 : Int) x.vf).toNat = t0 := ⟨_, rfl⟩
    have HT0 := Lib.hid ht0
    obtain ⟨d0, d1, d2, d3, d4, d5, d6, d7⟩ : At8 V s 0 x := ⟨hbx.cell 0, hbx.cell 1, hbx.cell 2, hbx.cell 3, hbx.cell 4, hbx.cell 5, hbx.cell 6, hbx.cell 7⟩
    simp only [Nat.zero_add] at d0 d1 d2 d3 d4 d5 d6 d7
    gi_wp2
    all_goals (
      gi_loopw [10] (fun c wr => ∃ (t : Nat), c = .int .i64 t ∧ InR W V M s t0 pre x t wr) (fun c _ => 1024 - (intOf c).toNat)
      case atStart =>
        refine ⟨t0, congrArg (Value.int .i64) (by omega), .inl rfl, by omega, hbst.congr fun d hd => ?_, hbx, fun _ _ _ _ => rfl, hBV⟩
        by_cases hdt : d < t0
        · rw [if_pos hdt, bestOn_off (by unfold onB; rw [decide_eq_false (by omega), Bool.false_and])]
        · rw [if_neg hdt]
      case round =>
        clear d0 d1 d2 d3 d4 d5 d6 d7 hbst hbx hBV hsx ht0
        obtain ⟨t, rfl, hin⟩ := hrel
        have hbst := hin.bst
        have hbx := hin.box
        have hvf := hin.hf
        have HF : Hid (x.vf ≤ t) := Lib.hid hin.hf
        have hsx := hbx.lt
        have hX8 : At8 wr s 0 x := ⟨hbx.cell 0, hbx.cell 1, hbx.cell 2, hbx.cell 3, hbx.cell 4, hbx.cell 5, hbx.cell 6, hbx.cell 7⟩
        obtain ⟨d0, d1, d2, d3, d4, d5, d6, d7⟩ := hX8
        have hX8 : At8 wr s 0 x := ⟨d0, d1, d2, d3, d4, d5, d6, d7⟩
        simp only [Nat.zero_add] at d0 d1 d2 d3 d4 d5 d6 d7
        by_cases hlt : (t : Int) < min x.vt 1024
        · have hd2 : (t : Int) < x.vt := by omega
          have hd3 : (t : Int) < 1024 := by omega
          have hd1 : t < 1024 := by omega
          have hd0 : (0 : Int) ≤ (t : Int) := by omega
          have HLT := Lib.hid hlt
          have HON : Hid (onB t x = true) := Lib.hid (by unfold onB; rw [decide_eq_true HF.out, decide_eq_true hd2]; rfl)
          have s0 := hbst.someC hd1
          simp only [Nat.lt_irrefl, if_false] at s0
          clear hlt
          cases hbo : bestOn t pre with
          | none =>
            rw [hbo] at s0
            have HBO := Lib.hid hbo
            clear hbo
            simp only [Option.isSome_none] at s0
            have HBN := Lib.hid (show bestOn t (pre ++ [x]) = some x by rw [bestOn_on HON.out, HBO.out]; rfl)
            obtain ⟨v0, m0⟩ := hbst.there (d := t * 8) (by omega)
            obtain ⟨v1, m1⟩ := hbst.there (d := t * 8 + 1) (by omega)
            obtain ⟨v2, m2⟩ := hbst.there (d := t * 8 + 2) (by omega)
            obtain ⟨v3, m3⟩ := hbst.there (d := t * 8 + 3) (by omega)
            obtain ⟨v4, m4⟩ := hbst.there (d := t * 8 + 4) (by omega)
            obtain ⟨v5, m5⟩ := hbst.there (d := t * 8 + 5) (by omega)
            obtain ⟨v6, m6⟩ := hbst.there (d := t * 8 + 6) (by omega)
            obtain ⟨v7, m7⟩ := hbst.there (d := t * 8 + 7) (by omega)
            have gf : ∀ i, wr.frozen? ⟨M, i, none⟩ = false := fun i => hbst.frozen i
            have gf1 : ∀ i, wr.frozen? ⟨M + 1, i, none⟩ = false := fun i => hbst.frozen1 i
            gi_wp2
            all_goals (
              refine wpIn_region_heldR (S := fun w' => w'.cell? ⟨M + 1, t, none⟩ = some (.bool false)) (by kernel_rfl) (by kernel_rfl) ?_
              have hS0 : (fun w' : World => w'.cell? ⟨M + 1, t, none⟩ = some (.bool false)) wr.drew := s0
              refine wpAnyH_take (i := 0) (v := ?_) rfl (by kernel_rfl) (by kernel_rfl) (by kernel_rfl) NormQ.hq (Or.inl ⟨by rfl, ?_⟩) (by assumption) ?_
              rotate_left
              focus
                intro w hSw
                (try dsimp only at hSw)
                (try go_split_ands)
                go_simp
                try with_reducible rfl
              try simp only [Act.put, List.getElem_toArray, List.getElem_cons_zero, List.setIfInBounds_toArray, List.set_cons_zero, List.set_cons_succ]
              refine wpAnyH_take (i := 1) (v := ?_) rfl (by kernel_rfl) (by kernel_rfl) (by kernel_rfl) NormQ.hq (Or.inl ⟨by rfl, ?_⟩) (by assumption) ?_
              rotate_left
              focus
                intro w hSw
                (try dsimp only at hSw)
                (try go_split_ands)
                go_simp
                try with_reducible rfl
              try simp only [Act.put, List.getElem_toArray, List.getElem_cons_succ, List.getElem_cons_zero, List.setIfInBounds_toArray, List.set_cons_zero, List.set_cons_succ]
              refine wpAnyH_take (i := 2) (v := ?_) rfl (by kernel_rfl) (by kernel_rfl) (by kernel_rfl) NormQ.hq (Or.inl ⟨by rfl, ?_⟩) (by assumption) ?_
              rotate_left
              focus
                intro w hSw
                (try dsimp only at hSw)
                (try go_split_ands)
                go_simp
                try with_reducible rfl
              try simp only [Act.put, List.getElem_toArray, List.getElem_cons_succ, List.getElem_cons_zero, List.setIfInBounds_toArray, List.set_cons_zero, List.set_cons_succ]
              refine wpAnyH_take (i := 3) (v := ?_) rfl (by kernel_rfl) (by kernel_rfl) (by kernel_rfl) NormQ.hq (Or.inl ⟨by rfl, ?_⟩) (by assumption) ?_
              rotate_left
              focus
                intro w hSw
                (try dsimp only at hSw)
                (try go_split_ands)
                go_simp
                try with_reducible rfl
              try simp only [Act.put, List.getElem_toArray, List.getElem_cons_succ, List.getElem_cons_zero, List.setIfInBounds_toArray, List.set_cons_zero, List.set_cons_succ]
              refine wpAnyH_take (i := 4) (v := ?_) rfl (by kernel_rfl) (by kernel_rfl) (by kernel_rfl) NormQ.hq (Or.inl ⟨by rfl, ?_⟩) (by assumption) ?_
              rotate_left
              focus
                intro w hSw
                (try dsimp only at hSw)
                (try go_split_ands)
                go_simp
                try with_reducible rfl
              try simp only [Act.put, List.getElem_toArray, List.getElem_cons_succ, List.getElem_cons_zero, List.setIfInBounds_toArray, List.set_cons_zero, List.set_cons_succ]
              refine wpAnyH_take (i := 5) (v := undef) rfl (by kernel_rfl) (by kernel_rfl) (by kernel_rfl) NormQ.hq (Or.inr ⟨by rfl, rfl⟩) (by assumption) ?_
              try simp only [Act.put, List.getElem_toArray, List.getElem_cons_succ, List.getElem_cons_zero, List.setIfInBounds_toArray, List.set_cons_zero, List.set_cons_succ]
              refine wpAnyH_take (i := 6) (v := undef) rfl (by kernel_rfl) (by kernel_rfl) (by kernel_rfl) NormQ.hq (Or.inr ⟨by rfl, rfl⟩) (by assumption) ?_
              try simp only [Act.put, List.getElem_toArray, List.getElem_cons_succ, List.getElem_cons_zero, List.setIfInBounds_toArray, List.set_cons_zero, List.set_cons_succ]
              refine wpAnyH_take (i := 7) (v := undef) rfl (by kernel_rfl) (by kernel_rfl) (by kernel_rfl) NormQ.hq (Or.inr ⟨by rfl, rfl⟩) (by assumption) ?_
              try simp only [Act.put, List.getElem_toArray, List.getElem_cons_succ, List.getElem_cons_zero, List.setIfInBounds_toArray, List.set_cons_zero, List.set_cons_succ]
              refine wpAnyH_take (i := 8) (v := undef) rfl (by kernel_rfl) (by kernel_rfl) (by kernel_rfl) NormQ.hq (Or.inr ⟨by rfl, rfl⟩) (by assumption) ?_
              try simp only [Act.put, List.getElem_toArray, List.getElem_cons_succ, List.getElem_cons_zero, List.setIfInBounds_toArray, List.set_cons_zero, List.set_cons_succ]
              refine wpAnyH_take (i := 9) (v := undef) rfl (by kernel_rfl) (by kernel_rfl) (by kernel_rfl) NormQ.hq (Or.inr ⟨by rfl, rfl⟩) (by assumption) ?_
              try simp only [Act.put, List.getElem_toArray, List.getElem_cons_succ, List.getElem_cons_zero, List.setIfInBounds_toArray, List.set_cons_zero, List.set_cons_succ]
              refine wpAnyH_take (i := 10) (v := undef) rfl (by kernel_rfl) (by kernel_rfl) (by kernel_rfl) NormQ.hq (Or.inr ⟨by rfl, rfl⟩) (by assumption) ?_
              try simp only [Act.put, List.getElem_toArray, List.getElem_cons_succ, List.getElem_cons_zero, List.setIfInBounds_toArray, List.set_cons_zero, List.set_cons_succ]
              refine wpAnyH_take (i := 11) (v := ?_) rfl (by kernel_rfl) (by kernel_rfl) (by kernel_rfl) NormQ.hq (Or.inl ⟨by rfl, ?_⟩) (by assumption) ?_
              rotate_left
              focus
                intro w hSw
                (try dsimp only at hSw)
                (try go_split_ands)
                go_simp
                try with_reducible rfl
              try simp only [Act.put, List.getElem_toArray, List.getElem_cons_succ, List.getElem_cons_zero, List.setIfInBounds_toArray, List.set_cons_zero, List.set_cons_succ]
              refine wpAnyH_done (by kernel_rfl) ?_ _
              refine ⟨rfl, ?_⟩
              clear hS0
              gi_wp2
              go_roundw
              case rel => exact ⟨t + 1, by go_num, (hin.store hd2 hd1 HBN.out (by omega) (by omega)).drew⟩
              case measure => simp [intOf]; omega)
          | some y =>
            rw [hbo] at s0
            have HBO := Lib.hid hbo
            have hY8 : At8 wr M (t * 8) y := hbst.cell8 hd1 (by simp only [Nat.lt_irrefl, if_false]; exact hbo)
            clear hbo
            simp only [Option.isSome_some] at s0
            have hC := compare_any x y
            cases hbe : befB x y
            · have t9 : 0 ≤ cmpF x y := by have := cmpF_geq x y; rw [hbe] at this; simpa using this
              have HBN := Lib.hid (show bestOn t (pre ++ [x]) = some x by rw [bestOn_on HON.out, HBO.out]; show (if befB x y = true then some y else some x) = _; rw [hbe]; rfl)
              clear hbe
              gi_wp2
              all_goals (
                refine wpIn_region_heldR (S := fun w' => (w'.cell? ⟨s, 0, none⟩ = some (.int .i64 x.kd) ∧ w'.cell? ⟨s, 1, none⟩ = some (.int .i64 x.sb) ∧ w'.cell? ⟨s, 2, none⟩ = some (.int .i64 x.ob) ∧ w'.cell? ⟨s, 3, none⟩ = some (.int .i64 x.val) ∧ w'.cell? ⟨s, 4, none⟩ = some (.int .i64 x.vf) ∧ w'.cell? ⟨s, 5, none⟩ = some (.int .i64 x.vt) ∧ w'.cell? ⟨s, 6, none⟩ = some (.int .i64 x.kn) ∧ w'.cell? ⟨s, 7, none⟩ = some (.int .i64 x.no)) ∧ (w'.cell? ⟨M, t * 8, none⟩ = some (.int .i64 y.kd) ∧ w'.cell? ⟨M, t * 8 + 1, none⟩ = some (.int .i64 y.sb) ∧ w'.cell? ⟨M, t * 8 + 2, none⟩ = some (.int .i64 y.ob) ∧ w'.cell? ⟨M, t * 8 + 3, none⟩ = some (.int .i64 y.val) ∧ w'.cell? ⟨M, t * 8 + 4, none⟩ = some (.int .i64 y.vf) ∧ w'.cell? ⟨M, t * 8 + 5, none⟩ = some (.int .i64 y.vt) ∧ w'.cell? ⟨M, t * 8 + 6, none⟩ = some (.int .i64 y.kn) ∧ w'.cell? ⟨M, t * 8 + 7, none⟩ = some (.int .i64 y.no)) ∧ w'.cell? ⟨M + 1, t, none⟩ = some (.bool true) ∧ Below wr.heap.size wr w') (by kernel_rfl) (by kernel_rfl) ?_
                have hS0 : (fun w' : World => (w'.cell? ⟨s, 0, none⟩ = some (.int .i64 x.kd) ∧ w'.cell? ⟨s, 1, none⟩ = some (.int .i64 x.sb) ∧ w'.cell? ⟨s, 2, none⟩ = some (.int .i64 x.ob) ∧ w'.cell? ⟨s, 3, none⟩ = some (.int .i64 x.val) ∧ w'.cell? ⟨s, 4, none⟩ = some (.int .i64 x.vf) ∧ w'.cell? ⟨s, 5, none⟩ = some (.int .i64 x.vt) ∧ w'.cell? ⟨s, 6, none⟩ = some (.int .i64 x.kn) ∧ w'.cell? ⟨s, 7, none⟩ = some (.int .i64 x.no)) ∧ (w'.cell? ⟨M, t * 8, none⟩ = some (.int .i64 y.kd) ∧ w'.cell? ⟨M, t * 8 + 1, none⟩ = some (.int .i64 y.sb) ∧ w'.cell? ⟨M, t * 8 + 2, none⟩ = some (.int .i64 y.ob) ∧ w'.cell? ⟨M, t * 8 + 3, none⟩ = some (.int .i64 y.val) ∧ w'.cell? ⟨M, t * 8 + 4, none⟩ = some (.int .i64 y.vf) ∧ w'.cell? ⟨M, t * 8 + 5, none⟩ = some (.int .i64 y.vt) ∧ w'.cell? ⟨M, t * 8 + 6, none⟩ = some (.int .i64 y.kn) ∧ w'.cell? ⟨M, t * 8 + 7, none⟩ = some (.int .i64 y.no)) ∧ w'.cell? ⟨M + 1, t, none⟩ = some (.bool true) ∧ Below wr.heap.size wr w') wr.drew := ⟨hX8, hY8, s0, (Below.refl _ _).drew⟩
                refine wpAnyH_take (i := 0) (v := ?_) rfl (by kernel_rfl) (by kernel_rfl) (by kernel_rfl) NormQ.hq (Or.inl ⟨by rfl, ?_⟩) (by assumption) ?_
                rotate_left
                focus
                  intro w hSw
                  (try dsimp only at hSw)
                  (try go_split_ands)
                  go_simp
                  try with_reducible rfl
                try simp only [Act.put, List.getElem_toArray, List.getElem_cons_zero, List.setIfInBounds_toArray, List.set_cons_zero, List.set_cons_succ]
                refine wpAnyH_take (i := 1) (v := ?_) rfl (by kernel_rfl) (by kernel_rfl) (by kernel_rfl) NormQ.hq (Or.inl ⟨by rfl, ?_⟩) (by assumption) ?_
                rotate_left
                focus
                  intro w hSw
                  (try dsimp only at hSw)
                  (try go_split_ands)
                  go_simp
                  try with_reducible rfl
                try simp only [Act.put, List.getElem_toArray, List.getElem_cons_succ, List.getElem_cons_zero, List.setIfInBounds_toArray, List.set_cons_zero, List.set_cons_succ]
                refine wpAnyH_take (i := 2) (v := ?_) rfl (by kernel_rfl) (by kernel_rfl) (by kernel_rfl) NormQ.hq (Or.inl ⟨by rfl, ?_⟩) (by assumption) ?_
                rotate_left
                focus
                  intro w hSw
                  (try dsimp only at hSw)
                  (try go_split_ands)
                  go_simp
                  try with_reducible rfl
                try simp only [Act.put, List.getElem_toArray, List.getElem_cons_succ, List.getElem_cons_zero, List.setIfInBounds_toArray, List.set_cons_zero, List.set_cons_succ]
                refine wpAnyH_take (i := 3) (v := ?_) rfl (by kernel_rfl) (by kernel_rfl) (by kernel_rfl) NormQ.hq (Or.inl ⟨by rfl, ?_⟩) (by assumption) ?_
                rotate_left
                focus
                  intro w hSw
                  (try dsimp only at hSw)
                  (try go_split_ands)
                  go_simp
                  try with_reducible rfl
                try simp only [Act.put, List.getElem_toArray, List.getElem_cons_succ, List.getElem_cons_zero, List.setIfInBounds_toArray, List.set_cons_zero, List.set_cons_succ]
                refine wpAnyH_take (i := 4) (v := ?_) rfl (by kernel_rfl) (by kernel_rfl) (by kernel_rfl) NormQ.hq (Or.inl ⟨by rfl, ?_⟩) (by assumption) ?_
                rotate_left
                focus
                  intro w hSw
                  (try dsimp only at hSw)
                  (try go_split_ands)
                  go_simp
                  try with_reducible rfl
                try simp only [Act.put, List.getElem_toArray, List.getElem_cons_succ, List.getElem_cons_zero, List.setIfInBounds_toArray, List.set_cons_zero, List.set_cons_succ]
                refine wpAnyH_take (i := 5) (v := ?_) rfl (by kernel_rfl) (by kernel_rfl) (by kernel_rfl) NormQ.hq (Or.inl ⟨by rfl, ?_⟩) (by assumption) ?_
                rotate_left
                focus
                  intro w hSw
                  (try dsimp only at hSw)
                  (try go_split_ands)
                  go_simp
                  try with_reducible rfl
                try simp only [Act.put, List.getElem_toArray, List.getElem_cons_succ, List.getElem_cons_zero, List.setIfInBounds_toArray, List.set_cons_zero, List.set_cons_succ]
                refine wpAnyH_take (i := 6) (v := ?_) rfl (by kernel_rfl) (by kernel_rfl) (by kernel_rfl) NormQ.hq (Or.inl ⟨by rfl, ?_⟩) (by assumption) ?_
                rotate_left
                focus
                  intro w hSw
                  (try dsimp only at hSw)
                  (try go_split_ands)
                  go_simp
                  try with_reducible rfl
                try simp only [Act.put, List.getElem_toArray, List.getElem_cons_succ, List.getElem_cons_zero, List.setIfInBounds_toArray, List.set_cons_zero, List.set_cons_succ]
                refine wpAnyH_take (i := 7) (v := ?_) rfl (by kernel_rfl) (by kernel_rfl) (by kernel_rfl) NormQ.hq (Or.inl ⟨by rfl, ?_⟩) (by assumption) ?_
                rotate_left
                focus
                  intro w hSw
                  (try dsimp only at hSw)
                  (try go_split_ands)
                  go_simp
                  try with_reducible rfl
                try simp only [Act.put, List.getElem_toArray, List.getElem_cons_succ, List.getElem_cons_zero, List.setIfInBounds_toArray, List.set_cons_zero, List.set_cons_succ]
                refine wpAnyH_take (i := 8) (v := ?_) rfl (by kernel_rfl) (by kernel_rfl) (by kernel_rfl) NormQ.hq (Or.inl ⟨by rfl, ?_⟩) (by assumption) ?_
                rotate_left
                focus
                  intro w hSw
                  (try dsimp only at hSw)
                  (try go_split_ands)
                  go_simp
                  try with_reducible rfl
                try simp only [Act.put, List.getElem_toArray, List.getElem_cons_succ, List.getElem_cons_zero, List.setIfInBounds_toArray, List.set_cons_zero, List.set_cons_succ]
                refine wpAnyH_ready (rs := [9]) (by kernel_rfl) (by simp) (AllReadyH.cons rfl (fun K hK => ?_) AllReadyH.nil)
                go_simp
                go_at_call 33
                refine (hC _).mono ?_
                rintro e w3 ⟨rfl, hb3⟩
                have hBr : Below wr.heap.size wr w3 := (Below.refl _ _).drew.on hb3
                refine hK.out _ _ ⟨hX8.below hBr, hY8.below hBr, (hBr.cell (p := ⟨M + 1, t, none⟩) hbst.lt).trans s0, hBr⟩ (fun hS1 => ?_)
                clear hK K hb3 hS0
                try simp only [Act.put, List.getElem_toArray, List.getElem_cons_succ, List.getElem_cons_zero, List.setIfInBounds_toArray, List.set_cons_zero, List.set_cons_succ]
                refine wpAnyH_take (i := 10) (v := ?_) rfl (by kernel_rfl) (by kernel_rfl) (by kernel_rfl) NormQ.hq (Or.inl ⟨by rfl, ?_⟩) (by assumption) ?_
                rotate_left
                focus
                  intro w hSw
                  (try dsimp only at hSw)
                  (try go_split_ands)
                  go_simp
                  try with_reducible rfl
                try simp only [Act.put, List.getElem_toArray, List.getElem_cons_succ, List.getElem_cons_zero, List.setIfInBounds_toArray, List.set_cons_zero, List.set_cons_succ]
                refine wpAnyH_take (i := 11) (v := ?_) rfl (by kernel_rfl) (by kernel_rfl) (by kernel_rfl) NormQ.hq (Or.inl ⟨by rfl, ?_⟩) (by assumption) ?_
                rotate_left
                focus
                  intro w hSw
                  (try dsimp only at hSw)
                  (try go_split_ands)
                  go_simp
                  try with_reducible rfl
                try simp only [Act.put, List.getElem_toArray, List.getElem_cons_succ, List.getElem_cons_zero, List.setIfInBounds_toArray, List.set_cons_zero, List.set_cons_succ]
                refine wpAnyH_done (by kernel_rfl) ?_ _
                refine ⟨rfl, ?_⟩
                have hbst3 := hbst.below hBr
                obtain ⟨q0, q1, q2, q3, q4, q5, q6, q7⟩ := hX8.below hBr
                simp only [Nat.zero_add] at q0 q1 q2 q3 q4 q5 q6 q7
                have q8 : w3.cell? ⟨M + 1, t, none⟩ = some (.bool true) := (hBr.cell (p := ⟨M + 1, t, none⟩) hbst.lt).trans s0
                obtain ⟨v0, m0⟩ := hbst3.there (d := t * 8) (by omega)
                obtain ⟨v1, m1⟩ := hbst3.there (d := t * 8 + 1) (by omega)
                obtain ⟨v2, m2⟩ := hbst3.there (d := t * 8 + 2) (by omega)
                obtain ⟨v3, m3⟩ := hbst3.there (d := t * 8 + 3) (by omega)
                obtain ⟨v4, m4⟩ := hbst3.there (d := t * 8 + 4) (by omega)
                obtain ⟨v5, m5⟩ := hbst3.there (d := t * 8 + 5) (by omega)
                obtain ⟨v6, m6⟩ := hbst3.there (d := t * 8 + 6) (by omega)
                obtain ⟨v7, m7⟩ := hbst3.there (d := t * 8 + 7) (by omega)
                have gf : ∀ i, w3.frozen? ⟨M, i, none⟩ = false := fun i => hbst3.frozen i
                have gf1 : ∀ i, w3.frozen? ⟨M + 1, i, none⟩ = false := fun i => hbst3.frozen1 i
                clear d0 d1 d2 d3 d4 d5 d6 d7 s0 hS1
                gi_wp2
                all_goals first | (exfalso; omega) | (
                  go_roundw
                  case rel => exact ⟨t + 1, by go_num, (hin.on hBr).store hd2 hd1 HBN.out (by omega) (by omega)⟩
                  case measure => simp [intOf]; omega))
            · have t9 : ¬ 0 ≤ cmpF x y := by have := cmpF_geq x y; rw [hbe] at this; simpa using this
              have HBN := Lib.hid (show bestOn t (pre ++ [x]) = bestOn t pre by rw [bestOn_on HON.out, HBO.out]; show (if befB x y = true then some y else some x) = _; rw [hbe]; rfl)
              clear hbe
              gi_wp2
              all_goals (
                refine wpIn_region_heldR (S := fun w' => (w'.cell? ⟨s, 0, none⟩ = some (.int .i64 x.kd) ∧ w'.cell? ⟨s, 1, none⟩ = some (.int .i64 x.sb) ∧ w'.cell? ⟨s, 2, none⟩ = some (.int .i64 x.ob) ∧ w'.cell? ⟨s, 3, none⟩ = some (.int .i64 x.val) ∧ w'.cell? ⟨s, 4, none⟩ = some (.int .i64 x.vf) ∧ w'.cell? ⟨s, 5, none⟩ = some (.int .i64 x.vt) ∧ w'.cell? ⟨s, 6, none⟩ = some (.int .i64 x.kn) ∧ w'.cell? ⟨s, 7, none⟩ = some (.int .i64 x.no)) ∧ (w'.cell? ⟨M, t * 8, none⟩ = some (.int .i64 y.kd) ∧ w'.cell? ⟨M, t * 8 + 1, none⟩ = some (.int .i64 y.sb) ∧ w'.cell? ⟨M, t * 8 + 2, none⟩ = some (.int .i64 y.ob) ∧ w'.cell? ⟨M, t * 8 + 3, none⟩ = some (.int .i64 y.val) ∧ w'.cell? ⟨M, t * 8 + 4, none⟩ = some (.int .i64 y.vf) ∧ w'.cell? ⟨M, t * 8 + 5, none⟩ = some (.int .i64 y.vt) ∧ w'.cell? ⟨M, t * 8 + 6, none⟩ = some (.int .i64 y.kn) ∧ w'.cell? ⟨M, t * 8 + 7, none⟩ = some (.int .i64 y.no)) ∧ w'.cell? ⟨M + 1, t, none⟩ = some (.bool true) ∧ Below wr.heap.size wr w') (by kernel_rfl) (by kernel_rfl) ?_
                have hS0 : (fun w' : World => (w'.cell? ⟨s, 0, none⟩ = some (.int .i64 x.kd) ∧ w'.cell? ⟨s, 1, none⟩ = some (.int .i64 x.sb) ∧ w'.cell? ⟨s, 2, none⟩ = some (.int .i64 x.ob) ∧ w'.cell? ⟨s, 3, none⟩ = some (.int .i64 x.val) ∧ w'.cell? ⟨s, 4, none⟩ = some (.int .i64 x.vf) ∧ w'.cell? ⟨s, 5, none⟩ = some (.int .i64 x.vt) ∧ w'.cell? ⟨s, 6, none⟩ = some (.int .i64 x.kn) ∧ w'.cell? ⟨s, 7, none⟩ = some (.int .i64 x.no)) ∧ (w'.cell? ⟨M, t * 8, none⟩ = some (.int .i64 y.kd) ∧ w'.cell? ⟨M, t * 8 + 1, none⟩ = some (.int .i64 y.sb) ∧ w'.cell? ⟨M, t * 8 + 2, none⟩ = some (.int .i64 y.ob) ∧ w'.cell? ⟨M, t * 8 + 3, none⟩ = some (.int .i64 y.val) ∧ w'.cell? ⟨M, t * 8 + 4, none⟩ = some (.int .i64 y.vf) ∧ w'.cell? ⟨M, t * 8 + 5, none⟩ = some (.int .i64 y.vt) ∧ w'.cell? ⟨M, t * 8 + 6, none⟩ = some (.int .i64 y.kn) ∧ w'.cell? ⟨M, t * 8 + 7, none⟩ = some (.int .i64 y.no)) ∧ w'.cell? ⟨M + 1, t, none⟩ = some (.bool true) ∧ Below wr.heap.size wr w') wr.drew := ⟨hX8, hY8, s0, (Below.refl _ _).drew⟩
                refine wpAnyH_take (i := 0) (v := ?_) rfl (by kernel_rfl) (by kernel_rfl) (by kernel_rfl) NormQ.hq (Or.inl ⟨by rfl, ?_⟩) (by assumption) ?_
                rotate_left
                focus
                  intro w hSw
                  (try dsimp only at hSw)
                  (try go_split_ands)
                  go_simp
                  try with_reducible rfl
                try simp only [Act.put, List.getElem_toArray, List.getElem_cons_zero, List.setIfInBounds_toArray, List.set_cons_zero, List.set_cons_succ]
                refine wpAnyH_take (i := 1) (v := ?_) rfl (by kernel_rfl) (by kernel_rfl) (by kernel_rfl) NormQ.hq (Or.inl ⟨by rfl, ?_⟩) (by assumption) ?_
                rotate_left
                focus
                  intro w hSw
                  (try dsimp only at hSw)
                  (try go_split_ands)
                  go_simp
                  try with_reducible rfl
                try simp only [Act.put, List.getElem_toArray, List.getElem_cons_succ, List.getElem_cons_zero, List.setIfInBounds_toArray, List.set_cons_zero, List.set_cons_succ]
                refine wpAnyH_take (i := 2) (v := ?_) rfl (by kernel_rfl) (by kernel_rfl) (by kernel_rfl) NormQ.hq (Or.inl ⟨by rfl, ?_⟩) (by assumption) ?_
                rotate_left
                focus
                  intro w hSw
                  (try dsimp only at hSw)
                  (try go_split_ands)
                  go_simp
                  try with_reducible rfl
                try simp only [Act.put, List.getElem_toArray, List.getElem_cons_succ, List.getElem_cons_zero, List.setIfInBounds_toArray, List.set_cons_zero, List.set_cons_succ]
                refine wpAnyH_take (i := 3) (v := ?_) rfl (by kernel_rfl) (by kernel_rfl) (by kernel_rfl) NormQ.hq (Or.inl ⟨by rfl, ?_⟩) (by assumption) ?_
                rotate_left
                focus
                  intro w hSw
                  (try dsimp only at hSw)
                  (try go_split_ands)
                  go_simp
                  try with_reducible rfl
                try simp only [Act.put, List.getElem_toArray, List.getElem_cons_succ, List.getElem_cons_zero, List.setIfInBounds_toArray, List.set_cons_zero, List.set_cons_succ]
                refine wpAnyH_take (i := 4) (v := ?_) rfl (by kernel_rfl) (by kernel_rfl) (by kernel_rfl) NormQ.hq (Or.inl ⟨by rfl, ?_⟩) (by assumption) ?_
                rotate_left
                focus
                  intro w hSw
                  (try dsimp only at hSw)
                  (try go_split_ands)
                  go_simp
                  try with_reducible rfl
                try simp only [Act.put, List.getElem_toArray, List.getElem_cons_succ, List.getElem_cons_zero, List.setIfInBounds_toArray, List.set_cons_zero, List.set_cons_succ]
                refine wpAnyH_take (i := 5) (v := ?_) rfl (by kernel_rfl) (by kernel_rfl) (by kernel_rfl) NormQ.hq (Or.inl ⟨by rfl, ?_⟩) (by assumption) ?_
                rotate_left
                focus
                  intro w hSw
                  (try dsimp only at hSw)
                  (try go_split_ands)
                  go_simp
                  try with_reducible rfl
                try simp only [Act.put, List.getElem_toArray, List.getElem_cons_succ, List.getElem_cons_zero, List.setIfInBounds_toArray, List.set_cons_zero, List.set_cons_succ]
                refine wpAnyH_take (i := 6) (v := ?_) rfl (by kernel_rfl) (by kernel_rfl) (by kernel_rfl) NormQ.hq (Or.inl ⟨by rfl, ?_⟩) (by assumption) ?_
                rotate_left
                focus
                  intro w hSw
                  (try dsimp only at hSw)
                  (try go_split_ands)
                  go_simp
                  try with_reducible rfl
                try simp only [Act.put, List.getElem_toArray, List.getElem_cons_succ, List.getElem_cons_zero, List.setIfInBounds_toArray, List.set_cons_zero, List.set_cons_succ]
                refine wpAnyH_take (i := 7) (v := ?_) rfl (by kernel_rfl) (by kernel_rfl) (by kernel_rfl) NormQ.hq (Or.inl ⟨by rfl, ?_⟩) (by assumption) ?_
                rotate_left
                focus
                  intro w hSw
                  (try dsimp only at hSw)
                  (try go_split_ands)
                  go_simp
                  try with_reducible rfl
                try simp only [Act.put, List.getElem_toArray, List.getElem_cons_succ, List.getElem_cons_zero, List.setIfInBounds_toArray, List.set_cons_zero, List.set_cons_succ]
                refine wpAnyH_take (i := 8) (v := ?_) rfl (by kernel_rfl) (by kernel_rfl) (by kernel_rfl) NormQ.hq (Or.inl ⟨by rfl, ?_⟩) (by assumption) ?_
                rotate_left
                focus
                  intro w hSw
                  (try dsimp only at hSw)
                  (try go_split_ands)
                  go_simp
                  try with_reducible rfl
                try simp only [Act.put, List.getElem_toArray, List.getElem_cons_succ, List.getElem_cons_zero, List.setIfInBounds_toArray, List.set_cons_zero, List.set_cons_succ]
                refine wpAnyH_ready (rs := [9]) (by kernel_rfl) (by simp) (AllReadyH.cons rfl (fun K hK => ?_) AllReadyH.nil)
                go_simp
                go_at_call 33
                refine (hC _).mono ?_
                rintro e w3 ⟨rfl, hb3⟩
                have hBr : Below wr.heap.size wr w3 := (Below.refl _ _).drew.on hb3
                refine hK.out _ _ ⟨hX8.below hBr, hY8.below hBr, (hBr.cell (p := ⟨M + 1, t, none⟩) hbst.lt).trans s0, hBr⟩ (fun hS1 => ?_)
                clear hK K hb3 hS0
                try simp only [Act.put, List.getElem_toArray, List.getElem_cons_succ, List.getElem_cons_zero, List.setIfInBounds_toArray, List.set_cons_zero, List.set_cons_succ]
                refine wpAnyH_take (i := 10) (v := ?_) rfl (by kernel_rfl) (by kernel_rfl) (by kernel_rfl) NormQ.hq (Or.inl ⟨by rfl, ?_⟩) (by assumption) ?_
                rotate_left
                focus
                  intro w hSw
                  (try dsimp only at hSw)
                  (try go_split_ands)
                  go_simp
                  try with_reducible rfl
                try simp only [Act.put, List.getElem_toArray, List.getElem_cons_succ, List.getElem_cons_zero, List.setIfInBounds_toArray, List.set_cons_zero, List.set_cons_succ]
                refine wpAnyH_take (i := 11) (v := ?_) rfl (by kernel_rfl) (by kernel_rfl) (by kernel_rfl) NormQ.hq (Or.inl ⟨by rfl, ?_⟩) (by assumption) ?_
                rotate_left
                focus
                  intro w hSw
                  (try dsimp only at hSw)
                  (try go_split_ands)
                  go_simp
                  try with_reducible rfl
                try simp only [Act.put, List.getElem_toArray, List.getElem_cons_succ, List.getElem_cons_zero, List.setIfInBounds_toArray, List.set_cons_zero, List.set_cons_succ]
                refine wpAnyH_done (by kernel_rfl) ?_ _
                refine ⟨rfl, ?_⟩
                have hbst3 := hbst.below hBr
                clear d0 d1 d2 d3 d4 d5 d6 d7 s0 hS1
                gi_wp2
                all_goals first | (exfalso; omega) | (
                  go_roundw
                  case rel => exact ⟨t + 1, by go_num, (hin.on hBr).old hd2 hd1 HBN.out⟩
                  case measure => simp [intOf]; omega))
        · have HBF := Lib.hid (hin.done hlt HT0.out)
          gi_wp2
          all_goals first | (exfalso; omega) | exact ⟨T, ⟨by omega, fun q h1 h2 => hin.keep q h1 (fun e => h2 ((HTT.out q).2 (.inl e))) (fun e => h2 ((HTT.out q).2 (.inr e))), fun q h => .inl h, fun q h => by rcases (HTT.out q).1 h with h | h <;> omega⟩, ⟨HBF.out, hin.below, fun q h1 h2 h3 => (hin.keep q (by omega) h2 h3).trans (HKP.out q h1 h2 h3), by omega, HTT.out⟩⟩)
  case done =>
    rintro D T xs W2 hD rfl hI hK
    rename_i Q' K' hK'
    have hrow : Box W2 (W.heap.size + 1) Try.zeroCells70 70 := (hI.keep _ (by omega) (by omega) (by omega)).trans x0
    have hbst := hI.bst
    have hBl := hI.below
    have hszI := hI.size
    have hDl := (Array.getElem?_eq_some_iff.1 hK).1
    clear hI x0 x2 x3 x4 x5 x6 hB5 hb0
    refine hK' _ _ (wpIn_wide.2 ?_)
    clear hK'
    go_wp2_with fail
    go_loopw [46] (fun c wr => ∃ (d : Nat) (cs : Array Value), d ≤ 1024 ∧ c = .int .i64 d ∧ Box wr (W.heap.size + 1) cs 70 ∧ Hid (cs.size = 1024 ∧ ∀ i, i < d → cs[i]? = some (.int .i64 (valAt l k known (i : Nat)))) ∧ Hid (∀ q, q ≠ W.heap.size + 1 → wr.heap[q]? = W2.heap[q]?) ∧ Below W.heap.size W wr) (fun c _ => 1024 - (intOf c).toNat)
    case atStart => exact ⟨0, _, by omega, rfl, hrow, Lib.hid ⟨zero70, fun i hi => by omega⟩, Lib.hid fun _ _ => rfl, hBl⟩
    case round =>
      clear hrow
      obtain ⟨d, cs, hd, rfl, hbox, HCS, HK, hB⟩ := hrel
      have hb3 : Bst wr M (fun d : Nat => bestOn d (ofL l k known)) := hbst.heap (HK.out _ (by omega)) (HK.out _ (by omega))
      by_cases hlt : d < 1024
      · have hd3 : (d : Int) < 1024 := by omega
        have hd0 : (0 : Int) ≤ (d : Int) := by omega
        have s0 := hb3.someC hlt
        have r0 : ∃ v, wr.cell? ⟨W.heap.size + 1, d, none⟩ = some v := ⟨_, (hbox.cell d).trans (Array.getElem?_eq_getElem (by rw [HCS.out.1]; exact hlt))⟩
        obtain ⟨v0, r0⟩ := r0
        have rf := hbox.frozen d
        have hne : ¬ M + 1 = W.heap.size + 1 := by omega
        have hne2 : ¬ M = W.heap.size + 1 := by omega
        have hne3 : ¬ W.heap.size + 1 = M + 1 := by omega
        have hne4 : ¬ W.heap.size + 1 = M := by omega
        cases hbo : bestOn d (ofL l k known) with
        | none =>
          rw [hbo] at s0
          simp only [Option.isSome_none] at s0
          have HV : Hid (valAt l k known d = -1) := Lib.hid (by unfold valAt; rw [hbo])
          clear hbo
          go_wp2_with fail
          go_roundw
          case rel => exact ⟨d + 1, _, by omega, by go_num, hbox.set d _, Lib.hid (row_set HCS.out hlt HV.out), Lib.hid fun q hq => (Below.heap_setCell _ _ _ q hq).trans (HK.out q hq), hB.setCell (p := ⟨W.heap.size + 1, d, none⟩) (by simp) _⟩
          case measure => simp [intOf]; omega
        | some y =>
          rw [hbo] at s0
          simp only [Option.isSome_some] at s0
          have m3 : wr.cell? ⟨M, d * 8 + 1 + 2, none⟩ = some (.int .i64 y.val) := (hb3.cell8 hlt hbo).2.2.2.1
          have HV : Hid (valAt l k known d = max y.val (-1)) := Lib.hid (by unfold valAt; rw [hbo])
          clear hbo
          go_wp2_with fail
          go_roundw
          case rel =>
            refine ⟨d + 1, _, by omega, by go_num, (hbox.set d _).set d _, Lib.hid ?_, Lib.hid fun q hq => (Below.heap_setCell _ _ _ q hq).trans ((Below.heap_setCell _ _ _ q hq).trans (HK.out q hq)), (hB.setCell (p := ⟨W.heap.size + 1, d, none⟩) (by simp) _).setCell (p := ⟨W.heap.size + 1, d, none⟩) (by simp) _⟩
            have h1 := row_set (v := if y.val < -1 then -1 else y.val) HCS.out hlt (by rw [HV.out]; split <;> omega)
            rw [Array.setIfInBounds_setIfInBounds]
            exact h1
          case measure => simp [intOf]; omega
      · obtain rfl : d = 1024 := by omega
        obtain rfl : cs = rowV l k known := rowV_of HCS.out.1 HCS.out.2
        have hrg := hbox.range
        have hth := hbox.there
        rw [rowV_size] at hth
        have hb7 : Below W.heap.size W (wr.setCells (W.heap.size + 1) 0 (rowV l k known).toList) := below_setCells (by omega) _ _ _ hB
        have hK7 : (wr.setCells (W.heap.size + 1) 0 (rowV l k known).toList).heap[D]? = some (.deferred (some [])) := (heap_setCells (by omega) _ _ _).trans ((HK.out D (by omega)).trans hK)
        have hr7 : (wr.setCells (W.heap.size + 1) 0 (rowV l k known).toList).rangeAt (W.heap.size + 1) 0 (rowV l k known).toList := World.rangeAt_setCells_same _ _ _ _ (by rw [rowV_len]; exact hth)
        have hi7 : (Try.prog.info? 70).map (·.size) = some (rowV l k known).toList.length := by rw [rowV_len]; exact info_row
        have ho7 := rowV_one l k known
        obtain ⟨vs, hvs⟩ : ∃ vs, (rowV l k known).toList = vs := ⟨_, rfl⟩
        have HVS := Lib.hid hvs
        rw [hvs] at hrg hb7 hK7 hr7 hi7 ho7
        have hl7 : vs.length = 1024 := by rw [← hvs, rowV_len]
        have hDne : W.heap.size + 1 ≠ D := by omega
        have hst : (storeCells ⟨W.heap.size + 1, 0, none⟩ vs).run Try.prog wr = .ok () (wr.setCells (W.heap.size + 1) 0 vs) := by
          have := run_storeCells_cells (P := Try.prog) (W.heap.size + 1) 0 vs 0 wr (fun j hj => by simpa using (hth j (by omega)).1) (fun j hj => by simpa using (hth j (by omega)).2) ho7
          simpa only [Nat.add_zero] using this
        have hr8 : ((wr.setCells (W.heap.size + 1) 0 vs).putObj D (.deferred none)).rangeAt (W.heap.size + 1) 0 vs := fun j v hv => (World.cell?_of_block (w := wr.setCells (W.heap.size + 1) 0 vs) (World.putObj_heap_other hDne)).trans (hr7 j v hv)
        clear hbox hvs hbst hb3 HCS
        go_wp2_with (first | (refine wpList_load_mid rfl 70 _ rfl (W.heap.size + 1) 0 rfl vs _ hrg Try.underlying70 rfl hi7 ?_))
        refine ⟨by simp, .inl ⟨_, _, rfl, run_takeDeferred hK7, ?_⟩⟩
        refine ⟨.agg vs.toArray, ?_, ?_⟩
        · exact results_cell_mid Try.results39 _ _ _ _ _ rfl hr8 Try.underlying70 rfl hi7
        · exact ⟨by rw [← HVS.out], below_put2 hb7 (by omega) (by have := hb7.size; omega) _⟩
end Go.Proofs.Ytfhekhjojdhmhaa
