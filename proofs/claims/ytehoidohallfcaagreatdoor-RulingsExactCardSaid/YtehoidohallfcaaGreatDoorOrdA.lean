/- The sets of totals, step by step; the deferred function of ranking.Orders. -/
import Derived.Test.YtehoidohallfcaaGreatDoorKIt
import Derived.Test.YtehoidohallfcaaGreatDoorOSrt
import Derived.Test.YtehoidohallfcaaGreatDoorNxtC
import Derived.Recover
import Derived.RecoverIn
import Derived.Laws.Pointers
import Derived.WalkKit
import Derived.WalkSpells
import Derived.WalkLawsBesides
import Derived.Deep.LoopGhost
import Derived.Deep.QuietTactic
import Derived.BigQuiet
import Derived.StillTailTactics
import Derived.Lib.Hide
import Derived.Outline
import Derived.Lib.QuietBelow
namespace Go.Proofs.YtehoidohallfcaaGreatDoor
open Go.RowKit

/-! ### the sets -/
section
variable {s : Sh} {l : List Rs} {p : Nat} {al : List (List Int)}
/-- What is there after the places pls have met all totals, and the places pl the totals ss. -/
def More (s : Sh) (l : List Rs) (p : Nat) (al : List (List Int)) (pls : List (List Int)) (pl : List Int) (ss ks : List (List Int)) : Prop := ∀ x, x ∈ ks ↔ (∃ q ∈ pls, ∃ t ∈ al, x = addT s l p q t) ∨ ∃ t ∈ ss, x = addT s l p pl t
variable {pls : List (List Int)} {pl : List Int} {ss ks : List (List Int)}
theorem more_start (pl : List Int) : More s l p al [] pl [] [] := fun x => by simp
theorem More.other (h : More s l p al pls pl [] ks) (pl' : List Int) : More s l p al pls pl' [] ks := fun x => by rw [h x]; simp
theorem More.put (h : More s l p al pls pl ss ks) (t : List Int) : More s l p al pls pl (ss ++ [t]) (if addT s l p pl t ∈ ks then ks else ks ++ [addT s l p pl t]) := fun x => by
  have key : x ∈ (if addT s l p pl t ∈ ks then ks else ks ++ [addT s l p pl t]) ↔ x ∈ ks ∨ x = addT s l p pl t := by
    split
    · rename_i hm
      exact ⟨.inl, fun h => h.elim id fun e => e ▸ hm⟩
    · rw [List.mem_append, List.mem_singleton]
  rw [key, h x]
  constructor
  · rintro ((h1 | ⟨t', ht, e⟩) | e)
    · exact .inl h1
    · exact .inr ⟨t', List.mem_append_left _ ht, e⟩
    · exact .inr ⟨t, by simp, e⟩
  · rintro (h1 | ⟨t', ht, e⟩)
    · exact .inl (.inl h1)
    · rcases List.mem_append.1 ht with ht | ht
      · exact .inl (.inr ⟨t', ht, e⟩)
      · rw [List.mem_singleton.1 ht] at e; exact .inr e
theorem More.next (h : More s l p al pls pl ss ks) (hs : ∀ t, t ∈ ss ↔ t ∈ al) : More s l p al (pls ++ [pl]) pl [] ks := fun x => by
  rw [h x]
  constructor
  · rintro (⟨q, hq, r⟩ | ⟨t, ht, e⟩)
    · exact .inl ⟨q, List.mem_append_left _ hq, r⟩
    · exact .inl ⟨pl, by simp, t, (hs t).1 ht, e⟩
  · rintro (⟨q, hq, r⟩ | ⟨t, ht, _⟩)
    · rcases List.mem_append.1 hq with hq | hq
      · exact .inl ⟨q, hq, r⟩
      · rw [List.mem_singleton.1 hq] at r
        obtain ⟨t, ht, e⟩ := r
        exact .inr ⟨t, (hs t).2 ht, e⟩
    · cases ht
theorem mem_step (x : List Int) : x ∈ stepL s l p al ↔ ∃ q ∈ posL (ivOf l (cntL l p)), ∃ t ∈ al, x = addT s l p q t := by
  unfold stepL
  rw [mem_dedup, List.mem_flatMap]
  constructor
  · rintro ⟨q, hq, hx⟩
    obtain ⟨t, ht, e⟩ := List.mem_map.1 hx
    exact ⟨q, hq, t, ht, e.symm⟩
  · rintro ⟨q, hq, t, ht, e⟩
    exact ⟨q, hq, List.mem_map.2 ⟨t, ht, e.symm⟩⟩
/-- Too many. -/
theorem More.many {n : Nat} (h : More s l p al pls pl ss ks) (hp : ∀ q ∈ pls, q ∈ posL (ivOf l (cntL l p))) (hl : pl ∈ posL (ivOf l (cntL l p))) (hs : ∀ t ∈ ss, t ∈ al) (hn : ks.Nodup) (ho : ordTo s l n p = some al) (hb : 4096 < ks.length) : ordTo s l n (p + 1) = none := by
  have hsub : ks.length ≤ (stepL s l p al).length := len_le_of_sub ks _ hn fun x hx => by
    rw [mem_step]
    rcases (h x).1 hx with ⟨q, hq, r⟩ | ⟨t, ht, e⟩
    · exact ⟨q, hp q hq, r⟩
    · exact ⟨pl, hl, t, hs t ht, e⟩
  unfold ordTo
  rw [ho]
  simp only
  rw [if_pos (by omega)]
/-- All of them. -/
theorem More.all {n : Nat} (h : More s l p al (posL (ivOf l (cntL l p))) pl [] ks) (_hn : ks.Nodup) (ho : ordTo s l n p = some al) (hb : ks.length ≤ 4096) : ∃ al', ordTo s l n (p + 1) = some al' ∧ ∀ x, x ∈ ks ↔ x ∈ al' := by
  have hm : ∀ x, x ∈ ks ↔ x ∈ stepL s l p al := fun x => by rw [h x, mem_step]; simp
  have hlen : (stepL s l p al).length ≤ ks.length := len_le_of_sub _ _ (nodup_dedup _) fun x hx => (hm x).2 hx
  refine ⟨stepL s l p al, ?_, hm⟩
  unfold ordTo
  rw [ho]
  simp only
  rw [if_neg (by omega)]
theorem ordTo_none {n m p : Nat} (h : ordTo s l n p = none) (hp : p ≤ m) : ordTo s l n m = none := by
  induction m with
  | zero => obtain rfl : p = 0 := by omega
            exact h
  | succ m ih =>
    by_cases e : p = m + 1
    · subst e; exact h
    · unfold ordTo; rw [ih (by omega)]
end
/-- The answer of Orders. -/
def ordR (s : Sh) (l : List Rs) : List (List Int) := if rkE s l ≠ 0 then [] else (ordO s l).getD []
theorem ordE_bad {s : Sh} {l : List Rs} (h : rkE s l ≠ 0) : rankE s l = rkE s l ∧ ordR s l = [] := ⟨by unfold rankE; rw [if_pos h], by unfold ordR; rw [if_pos h]⟩
theorem ordE_none {s : Sh} {l : List Rs} (h : rkE s l = 0) (h2 : ordO s l = none) : rankE s l = 2 ∧ ordR s l = [] := ⟨by unfold rankE; rw [if_neg (fun e => e h), h2], by unfold ordR; rw [if_neg (fun e => e h), h2]; rfl⟩
theorem ordE_some {s : Sh} {l : List Rs} {x : List (List Int)} (h : rkE s l = 0) (h2 : ordO s l = some x) : rankE s l = 0 ∧ ordR s l = x := ⟨by unfold rankE; rw [if_neg (fun e => e h), h2], by unfold ordR; rw [if_neg (fun e => e h), h2]; rfl⟩
/-- From totals of eight to those of the competitors. -/
theorem ord8_none {s : Sh} {l : List Rs} (h : l.all (okRs s) = true) (h1 : 1 ≤ s.cs) (h8 : s.cs ≤ 8) (hn : ordTo s l 8 s.ps.toNat = none) : ordO s l = none := by
  obtain ⟨c, hc⟩ : ∃ c : Nat, s.cs = (c : Int) := ⟨s.cs.toNat, by omega⟩
  have := ordTo_pad h (C := c) (by omega) (8 - c) s.ps.toNat
  rw [show c + (8 - c) = 8 by omega, hn] at this
  unfold ordO
  rw [hc, Int.toNat_natCast]
  cases e : ordTo s l c s.ps.toNat with
  | none => rfl
  | some a => rw [e] at this; cases this
theorem ord8_some {s : Sh} {l : List Rs} (h : l.all (okRs s) = true) (h1 : 1 ≤ s.cs) (h8 : s.cs ≤ 8) {al : List (List Int)} (hn : ordTo s l 8 s.ps.toNat = some al) :
    ∃ al0, ordO s l = some (sortP al0) ∧ al = al0.map (fun t => t ++ List.replicate (8 - s.cs.toNat) 0) ∧ (∀ t ∈ al0, t.length = s.cs.toNat) ∧ al0.Nodup := by
  obtain ⟨c, hc⟩ : ∃ c : Nat, s.cs = (c : Int) := ⟨s.cs.toNat, by omega⟩
  have hp := ordTo_pad h (C := c) (by omega) (8 - c) s.ps.toNat
  rw [show c + (8 - c) = 8 by omega, hn] at hp
  cases e : ordTo s l c s.ps.toNat with
  | none => rw [e] at hp; cases hp
  | some a =>
    rw [e, Option.map_some] at hp
    injection hp with hp
    obtain ⟨hA, _⟩ := ordTo_all h (C := c) (by omega) e
    refine ⟨a, ?_, ?_, ?_, hA.nd⟩
    · unfold ordO; rw [hc, Int.toNat_natCast, e]; rfl
    · rw [hc, Int.toNat_natCast]; exact hp
    · rw [hc, Int.toNat_natCast]; exact hA.len
/-! ### the deferred function -/
theorem ta_nil (w : World) : (Instr.typeAssert .nilIface 20 30 true).run Tryz.prog w = .ok (.tuple #[.int .i64 0, .bool false]) w := by kernel_rfl
theorem ta_two (w : World) : (Instr.typeAssert (.iface 30 (.int .i64 2)) 20 30 true).run Tryz.prog w = .ok (.tuple #[.int .i64 2, .bool true]) w := by kernel_rfl
set_option maxRecDepth 20000 in
theorem catch_idle (n : Nat) (p q : Addr) (w : World) : CallsDIn Fence.wide n Tryz.prog 76 #[.pointer (some p), .pointer (some q)] .returning w fun e u' w' => e = .returned (.tuple #[]) ∧ u' = .returning ∧ w' = w := by
  refine callsDIn_of_wpSIn Tryz.func76 rfl trivial fun c₀ cs hu => ?_
  simp only [Tryz.ntmps76, List.size_toArray, List.length_cons, List.length_nil, Nat.reduceAdd, Nat.reduceSub, Array.replicate_succ, Array.replicate_zero, List.push_toArray, List.append_toArray, List.nil_append, List.cons_append]
  apply wpSIn_seq
  apply wpSIn_region
  simp [wpOpsSIn, go_sem, recoverD, hu, Exit.thenS, ta_nil, Fence.wide]
  refine wpSIn_of_wpIn rfl (wpIn_wide.2 ?_)
  go_wp2
  refine ⟨rfl, .returning, by cases c₀; simp_all, _, results_none Tryz.results76 _ _ _, rfl, rfl, rfl⟩
set_option maxRecDepth 20000 in
theorem catch_two (n : Nat) (B : Nat) (x : Value) (y : Int) (w : World) (hx : w.cell? ⟨B + 1, 0, none⟩ = some x) (fx : w.frozen? ⟨B + 1, 0, none⟩ = false) (_lx : B + 1 + 1 < w.heap.size) (hq : w.cell? ⟨B + 1 + 1, 0, none⟩ = some (.int .i64 y)) (fq : w.frozen? ⟨B + 1 + 1, 0, none⟩ = false) : CallsDIn Fence.wide n Tryz.prog 76 #[.pointer (some ⟨B + 1, 0, none⟩), .pointer (some ⟨B + 1 + 1, 0, none⟩)] (.panicking [{ v := .iface 30 (.int .i64 2), recovered := false }]) w fun e u' w' => e = .returned (.tuple #[]) ∧ u' = .panicking [{ v := .iface 30 (.int .i64 2), recovered := true }] ∧ w' = (w.setCell ⟨B + 1, 0, none⟩ (.slice none 0 0)).setCell ⟨B + 1 + 1, 0, none⟩ (.int .i64 2) := by
  refine callsDIn_of_wpSIn Tryz.func76 rfl trivial fun c₀ cs hu => ?_
  simp only [Tryz.ntmps76, List.size_toArray, List.length_cons, List.length_nil, Nat.reduceAdd, Nat.reduceSub, Array.replicate_succ, Array.replicate_zero, List.push_toArray, List.append_toArray, List.nil_append, List.cons_append]
  apply wpSIn_seq
  apply wpSIn_region
  simp [wpOpsSIn, go_sem, recoverD, hu, Exit.thenS, ta_two, Fence.wide]
  refine wpSIn_of_wpIn rfl (wpIn_wide.2 ?_)
  go_wp2
  refine ⟨rfl, _, rfl, _, results_none Tryz.results76 _ _ _, rfl, rfl, rfl⟩
end Go.Proofs.YtehoidohallfcaaGreatDoor
