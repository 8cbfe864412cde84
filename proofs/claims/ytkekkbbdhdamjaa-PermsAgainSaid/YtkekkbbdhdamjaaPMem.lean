/- Which numbers a list has, as a row of bools in memory; the test of a permutation, in plain Lean. -/
import Derived.Test.YtkekkbbdhdamjaaBase
import Derived.Test.YtkekkbbdhdamjaaPermM
import Derived.Test.YtkekkbbdhdamjaaProg
import Derived.Laws.MakeOwn
import Derived.WalkKit
import Derived.WalkSpells
import Derived.WalkLawsBesides
import Derived.Deep.LoopGhost
import Derived.Deep.QuietTactic
import Derived.BigQuiet
import Derived.StillTailTactics
import Derived.Lib.Hide
import Derived.Outline
import Derived.Lib.QuietBelow

namespace Go.Proofs.Ytkekkbbdhdamjaa
open Go.RowKit

def flagsP (n : Nat) (l : List Int) : Array Value := ((List.range n).map fun (i : Nat) => Value.bool (decide ((i : Int) ∈ l))).toArray
theorem flagsP_size (n : Nat) (l : List Int) : (flagsP n l).size = n := by unfold flagsP; simp
theorem flagsP_get (n : Nat) (l : List Int) {i : Nat} (h : i < n) : (flagsP n l)[i]? = some (.bool (decide ((i : Int) ∈ l))) := by unfold flagsP; simp [h]
theorem flagsP_set (n : Nat) (l : List Int) {c : Nat} (h : c < n) : (flagsP n l).setIfInBounds c (.bool true) = flagsP n (l ++ [(c : Int)]) := by
  apply Array.ext_getElem?
  intro i
  by_cases hi : i < n
  · rw [flagsP_get n _ hi]
    by_cases hc : c = i
    · subst hc
      rw [Array.getElem?_setIfInBounds_self_of_lt (by rw [flagsP_size]; exact h)]
      simp
    · rw [Array.getElem?_setIfInBounds_ne hc, flagsP_get n _ hi]
      have : ((i : Int) ∈ l ++ [(c : Int)]) ↔ (i : Int) ∈ l := by simp; omega
      simp only [this]
  · rw [Array.getElem?_eq_none (by simp [flagsP_size]; omega), Array.getElem?_eq_none (by rw [flagsP_size]; omega)]
theorem flagsP_nil (n : Nat) : flagsP n [] = madeCells #[.bool false] n := by
  apply Array.ext
  · rw [flagsP_size, size_madeCells]
  · intro i h1 h2
    rw [flagsP_size] at h1
    have := flagsP_get n [] h1
    rw [Array.getElem?_eq_getElem (by rw [flagsP_size]; exact h1)] at this
    injection this with this
    rw [this]
    simp [madeCells, Nat.mod_one]
theorem info_bool : (Try.prog.info? 4).map (fun i => (i.zero, i.size, i.bytes)) = some (some (.bool false), 1, 1) := by kernel_rfl
theorem info_int : (Try.prog.info? 3).map (fun i => (i.zero, i.size, i.bytes)) = some (some (.int .i64 0), 1, 8) := by kernel_rfl
theorem make_boolsP (N : Nat) (hN : N ≤ 256) (w : World) : (Instr.makeSlice 44 (.int .i64 N) (.int .i64 N)).run Try.prog w = .ok (.slice (some ⟨w.heap.size, 0, none⟩) N N) (w.alloc (.cells (flagsP N []) 4)) := by
  obtain ⟨ib, hib, hb0, hb1, hb2⟩ := info_parts info_bool
  have h := run_make (P := Try.prog) w 44 4 ib _ Try.underlying44 hib hb0 .i64 .i64 N N (by omega) (by omega) (by rw [hb2]; omega) (by omega)
  simp only [Int.toNat_natCast, hb1, Nat.mul_one] at h
  rw [flagsP_nil]; exact h
theorem make_intsP (N : Nat) (hN : N ≤ 1000000) (w : World) : (Instr.makeSlice 22 (.int .i64 N) (.int .i64 N)).run Try.prog w = .ok (.slice (some ⟨w.heap.size, 0, none⟩) N N) (w.alloc (.cells (madeCells #[.int .i64 0] N) 3)) := by
  obtain ⟨ib, hib, hb0, hb1, hb2⟩ := info_parts info_int
  have h := run_make (P := Try.prog) w 22 3 ib _ Try.underlying22 hib hb0 .i64 .i64 N N (by omega) (by omega) (by rw [hb2]; omega) (by omega)
  simp only [Int.toNat_natCast, hb1, Nat.mul_one] at h
  exact h

def ndB : List Int → Bool
  | [] => true
  | x :: l => !decide (x ∈ l) && ndB l
theorem ndB_iff : ∀ {l : List Int}, ndB l = true ↔ l.Nodup
  | [] => by simp [ndB]
  | x :: l => by unfold ndB; rw [List.nodup_cons, Bool.and_eq_true, ndB_iff]; simp
def permB (p : List Int) (n : Nat) : Bool := decide (p.length = n) && (p.all fun x => decide (0 ≤ x) && decide (x < n)) && ndB p
theorem permB_iff {p : List Int} {n : Nat} : permB p n = true ↔ okPerm p n := by
  unfold permB
  rw [Bool.and_eq_true, Bool.and_eq_true, decide_eq_true_eq, List.all_eq_true, ndB_iff]
  constructor
  · rintro ⟨⟨h1, h2⟩, h3⟩
    exact ⟨h1, fun x hx => by have := h2 x hx; simp at this; exact this, h3⟩
  · rintro ⟨h1, h2, h3⟩
    exact ⟨⟨h1, fun x hx => by have := h2 x hx; simp; exact this⟩, h3⟩
/-- The first k are as those of a permutation. -/
structure okPre (p : List Int) (n k : Nat) : Prop where
  rng : ∀ x ∈ p.take k, 0 ≤ x ∧ x < n
  nd : (p.take k).Nodup
theorem okPre.zero (p : List Int) (n : Nat) : okPre p n 0 := ⟨by simp, by simp⟩
theorem okPre.succ {p : List Int} {n k : Nat} {x : Int} (h : okPre p n k) (hx : p[k]? = some x) (h0 : 0 ≤ x) (h1 : x < n) (hn : x ∉ p.take k) : okPre p n (k + 1) := by
  have e : p.take (k + 1) = p.take k ++ [x] := by rw [List.take_add_one, hx]; rfl
  refine ⟨?_, ?_⟩ <;> rw [e]
  · intro y hy
    rcases List.mem_append.1 hy with hy | hy
    · exact h.rng y hy
    · simp at hy; subst hy; exact ⟨h0, h1⟩
  · rw [List.nodup_append]
    exact ⟨h.nd, by simp, fun a ha b hb e2 => by simp at hb; rw [e2, hb] at ha; exact hn ha⟩
theorem okPre.end' {p : List Int} {n : Nat} (h : okPre p n p.length) : permB p n = decide (p.length = n) := by
  by_cases hl : p.length = n
  · rw [decide_eq_true hl]
    have := h.rng; have h2 := h.nd
    rw [List.take_of_length_le (Nat.le_refl _)] at this h2
    exact permB_iff.2 ⟨hl, this, h2⟩
  · rw [decide_eq_false hl]; unfold permB; rw [decide_eq_false hl]; rfl
theorem permB_len {p : List Int} {n : Nat} (h : p.length ≠ n) : permB p n = false := by unfold permB; rw [decide_eq_false h]; rfl
theorem permB_out {p : List Int} {n k : Nat} {x : Int} (hx : p[k]? = some x) (h : x < 0 ∨ (n : Int) ≤ x) : permB p n = false := by
  cases e : permB p n
  · rfl
  · have := (permB_iff.1 e).rng x (List.mem_of_getElem? hx); omega
theorem permB_dup {p : List Int} {n k : Nat} {x : Int} (hx : p[k]? = some x) (h : x ∈ p.take k) : permB p n = false := by
  cases e : permB p n
  · rfl
  · obtain ⟨j, hj, e2⟩ := List.mem_take_iff_getElem.1 h
    have hj' := Nat.lt_min.1 hj
    have := nodup_get (permB_iff.1 e).nd (i := j) (j := k) (by rw [List.getElem?_eq_getElem (by omega), e2]) hx
    omega
theorem Ints.get {w : World} {b o n c : Nat} {l : List Int} (h : Ints w (some ⟨b, o, none⟩) n c l) {i : Nat} {x : Int} (hx : l[i]? = some x) : w.cell? ⟨b, o + i, none⟩ = some (.int .i64 x) := by
  have := h.cell b o rfl i (by rw [← h.len]; exact (List.getElem?_eq_some_iff.1 hx).1)
  rw [hx] at this; exact this
theorem Ints.has {w : World} {a : Option Addr} {n c : Nat} {l : List Int} (h : Ints w a n c l) {i : Nat} (hi : i < n) : ∃ x, l[i]? = some x := ⟨_, List.getElem?_eq_getElem (by rw [h.len]; exact hi)⟩
end Go.Proofs.Ytkekkbbdhdamjaa
