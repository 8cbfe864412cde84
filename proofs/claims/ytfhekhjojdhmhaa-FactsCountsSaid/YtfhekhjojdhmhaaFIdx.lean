/- Contracts of slices.IndexFunc, ContainsFunc at facts, and of both Check's. -/
import Derived.Test.YtfhekhjojdhmhaaFTwo
import Derived.Shelf.Abstract
import Derived.WalkKit
import Derived.WalkSpells
import Derived.WalkLawsBesides
import Derived.Deep.LoopGhost
import Derived.Deep.QuietTactic
import Derived.BigQuiet
import Derived.StillTailTactics
import Derived.Lib.Hide
import Derived.Outline
import Derived.Lib.QuietBelow
namespace Go.Proofs.Ytfhekhjojdhmhaa
open Go.RowKit

/-- A function value that answers P at every fact, in worlds that lie above w. -/
def PredF (w : World) (f : FuncId) (caps : Array Value) (P : Fact → Bool) : Prop := ∀ (x : Fact) (W : World), Below w.heap.size w W → Calls Try.prog f (#[factV x] ++ caps) W fun e w' => RetB W (.bool (P x)) e w'
theorem PredF.on {w w' : World} {f : FuncId} {caps : Array Value} {P : Fact → Bool} (h : PredF w f caps P) (hb : Below w.heap.size w w') : PredF w' f caps P := fun x W hW => h x W (hb.on hW)
theorem takeF {α : Type} {l : List α} {k : Nat} {x : α} (h : l[k]? = some x) : l.take (k + 1) = l.take k ++ [x] := by
  obtain ⟨hk, he⟩ := List.getElem?_eq_some_iff.1 h
  rw [List.take_succ_eq_append_getElem hk, he]
theorem dropF {α : Type} {l : List α} {k : Nat} {x : α} (h : l[k]? = some x) : l.drop k = x :: l.drop (k + 1) := by
  obtain ⟨hk, he⟩ := List.getElem?_eq_some_iff.1 h
  rw [List.drop_eq_getElem_cons hk, he]
/-- None of the first k. -/
def noneUpto {α : Type} (l : List α) (P : α → Bool) (k : Nat) : Prop := ∀ x ∈ l.take k, P x = false
theorem none_step {α : Type} {l : List α} {P : α → Bool} {k : Nat} {x : α} (hx : l[k]? = some x) (h : noneUpto l P k) (h2 : P x = false) : noneUpto l P (k + 1) := by
  intro y hy
  rw [takeF hx] at hy
  rcases List.mem_append.1 hy with hy | hy
  · exact h y hy
  · rw [List.mem_singleton.1 hy]; exact h2
/-- The first index at which P holds, else -1. -/
def idxF {α : Type} (l : List α) (P : α → Bool) (z : Int) : Prop := (z = -1 ∧ ∀ x ∈ l, P x = false) ∨ ∃ (k : Nat) (x : α), z = (k : Int) ∧ l[k]? = some x ∧ P x = true ∧ noneUpto l P k

set_option maxRecDepth 10000 in
set_option maxHeartbeats 1000000 in
theorem indexF_any (f : FuncId) (caps : Array Value) (a0 : Option Addr) (n0 c0 : Nat) (l : List Fact) (P : Fact → Bool) (w : World) (hen : Enters Try.prog f) (h0 : SL encF 8 w a0 n0 c0 l) (hP : PredF w f caps P) :
    Calls Try.prog 52 #[.slice a0 n0 c0, .func (.func f) #[] caps] w fun e w' => ∃ z : Int, e = .returned (.int .i64 z) ∧ idxF l P z ∧ Below w.heap.size w w' := by
  have hm0 := h0.mx
  have hc0 := h0.cap
  have hl0 := Lib.hid h0.len
  unfold maxLen at hm0
  have HP := Lib.hid hP
  clear hP
  unfold Enters at hen
  go_enter Try.func52, Try.ntmps52
  go_wp2_with fail
  go_loopw [8] (fun i wr => ∃ k : Nat, k ≤ n0 ∧ i = .int .i64 k ∧ Hid (noneUpto l P k) ∧ Below w.heap.size w wr) (fun i _ => n0 - (intOf i).toNat)
  case atStart => exact ⟨0, by omega, rfl, Lib.hid (by intro x hx; simp at hx), Below.refl _ _⟩
  case round =>
    obtain ⟨k, hk, rfl, HM, hB⟩ := hrel
    by_cases hlt : k < n0
    · obtain ⟨b0, o0, rfl, hb0⟩ := h0.at' (by omega)
      obtain ⟨x, hx⟩ := h0.get hlt
      obtain ⟨e0, e1, e2, e3, e4, e5, e6, e7⟩ := (h0.below hB).fact hx
      have HX := Lib.hid hx
      clear hx
      cases hd : P x
      · have HD := Lib.hid hd
        have hc := HP.out x wr hB
        rw [hd] at hc
        have HC := Lib.hid hc
        clear hc hd
        go_wp2_with (refine HC.out.mono ?_; rintro e w' ⟨rfl, hB2⟩)
        go_roundw
        case rel => exact ⟨k + 1, by omega, by go_num, Lib.hid (none_step HX.out HM.out HD.out), hB.on hB2⟩
        case measure => simp [intOf]; omega
      · have HD := Lib.hid hd
        have hc := HP.out x wr hB
        rw [hd] at hc
        have HC := Lib.hid hc
        clear hc hd
        go_wp2_with (refine HC.out.mono ?_; rintro e w' ⟨rfl, hB2⟩)
        go_ret
        exact ⟨(k : Int), rfl, .inr ⟨k, x, rfl, HX.out, HD.out, HM.out⟩, hB.on hB2⟩
    · obtain rfl : n0 = k := by omega
      go_wp2_with fail
      go_ret
      refine ⟨-1, rfl, .inl ⟨rfl, fun x hx => HM.out x ?_⟩, hB⟩
      rw [List.take_of_length_le (by rw [hl0.out]; omega)]; exact hx

set_option maxRecDepth 10000 in
set_option maxHeartbeats 1000000 in
theorem containsF_any (f : FuncId) (caps : Array Value) (a0 : Option Addr) (n0 c0 : Nat) (l : List Fact) (P : Fact → Bool) (w : World) (hen : Enters Try.prog f) (h0 : SL encF 8 w a0 n0 c0 l) (hP : PredF w f caps P) :
    Calls Try.prog 36 #[.slice a0 n0 c0, .func (.func f) #[] caps] w fun e w' => RetB w (.bool (l.any P)) e w' := by
  have HI := Lib.hid (indexF_any f caps a0 n0 c0 l P w hen h0 hP)
  clear hP hen
  have key : ∀ z : Int, idxF l P z → decide (0 ≤ z) = l.any P := by
    rintro z (⟨rfl, h⟩ | ⟨k, x, rfl, hx, hp, _⟩)
    · symm; rw [show decide ((0 : Int) ≤ -1) = false by decide, List.any_eq_false]
      intro x hx; simp [h x hx]
    · rw [show decide ((0 : Int) ≤ k) = true by simp]
      exact (List.any_eq_true.2 ⟨x, List.mem_of_getElem? hx, hp⟩).symm
  have hz9 : ∀ z : Int, idxF l P z → -1 ≤ z := by
    rintro z (⟨rfl, h⟩ | ⟨k, x, rfl, hx, hp, _⟩) <;> omega
  have HK := Lib.hid key
  have HZ := Lib.hid hz9
  clear key hz9
  go_enter Try.func36, Try.ntmps36
  go_wp2_with (go_at_call 52; refine HI.out.mono ?_; rintro e w' ⟨z, rfl, hz, hB⟩; have HZ2 := Lib.hid (HK.out z hz); clear hz)
  all_goals
    go_ret
    exact ⟨ret_bool HZ2.out, hB⟩

theorem notfit_any (f : Fact) (W : World) : Calls Try.prog 37 #[factV f] W fun e w' => RetB W (.bool (!validB f)) e w' := by
  go_enter Try.func37, Try.ntmps37
  go_wp2_with (go_at_call 32; refine (fits_any _ _).mono ?_; rintro e w' ⟨rfl, hB⟩)
  go_ret
  exact ⟨rfl, ((Below.refl _ _).alloc (Nat.le_refl _) _).on hB⟩
end Go.Proofs.Ytfhekhjojdhmhaa
