/- Contracts of slices.IndexFunc, ContainsFunc at []int with a quiet predicate, and of the closure of moves.Swaps. -/
import Derived.Test.YtjiacdihfbbfjaaRefD
import Derived.Shelf.Abstract
import Derived.WalkKit
import Derived.WalkSpells
import Derived.WalkLawsBesides
import Derived.Deep.LoopGhost
import Derived.Deep.QuietTactic
import Derived.BigQuiet
import Derived.StillTailTactics
import Derived.Lib.Hide
import Derived.Outline
import Derived.Lib.QuietBelow
namespace Go.Proofs.Ytjiacdihfbbfjaa
open Go.RowKit

/-- A function value that answers P at the elements of l, in worlds that have but drawn. -/
def PredAt (w : World) (f : FuncId) (caps : Array Value) (l : List Int) (P : Int → Bool) : Prop := ∀ x ∈ l, ∀ q, Calls Try.prog f (#[.int .i64 x] ++ caps) (w.drewN q) fun e w' => e = .returned (.bool (P x)) ∧ ∃ k, w' = (w.drewN q).drewN k
def findUpto (l : List Int) (P : Int → Bool) (k : Nat) : Prop := ∀ x ∈ l.take k, P x = false
theorem find_step {l : List Int} {P : Int → Bool} {k : Nat} (hk : k < l.length) (h : findUpto l P k) (h2 : P (l[k]?.getD 0) = false) : findUpto l P (k + 1) := by
  intro x hx
  rw [take_getD l k hk] at hx
  rcases List.mem_append.1 hx with hx | hx
  · exact h x hx
  · rw [List.mem_singleton.1 hx]; exact h2
def RetIdx (w : World) (l : List Int) (P : Int → Bool) (e : Ending) (w' : World) : Prop := ∃ z : Int, e = .returned (.int .i64 z) ∧ -1 ≤ z ∧ z ≤ 1000000 ∧ decide (0 ≤ z) = l.any P ∧ ∃ q, w' = w.drewN q

set_option maxRecDepth 10000 in
set_option maxHeartbeats 1000000 in
theorem indexFunc_any (f : FuncId) (caps : Array Value) (a0 : Option Addr) (n0 c0 : Nat) (l : List Int) (P : Int → Bool) (w : World) (hen : Enters Try.prog f) (h0 : Ints w a0 n0 c0 l) (hP : PredAt w f caps l P) (hn : n0 ≤ 1000000) :
    Calls Try.prog 95 #[.slice a0 n0 c0, .func (.func f) #[] caps] w (RetIdx w l P) := by
  have hm0 := h0.mx
  have hc0 := h0.cap
  have hl0 := Lib.hid h0.len
  unfold maxLen at hm0
  have HP := Lib.hid hP
  clear hP
  unfold Enters at hen
  go_enter Try.func95, Try.ntmps95
  go_wp2_with fail
  go_loopw [8] (fun i wr => ∃ k : Nat, k ≤ n0 ∧ i = .int .i64 k ∧ Hid (findUpto l P k) ∧ ∃ q, wr = w.drewN q) (fun i _ => n0 - (intOf i).toNat)
  case atStart => exact ⟨0, by omega, rfl, Lib.hid (by intro x hx; simp at hx), 0, rfl⟩
  case round =>
    obtain ⟨k, hk, rfl, HM, q, rfl⟩ := hrel
    by_cases hlt : k < n0
    · obtain ⟨b0, o0, rfl, hb0⟩ := h0.at' (by omega)
      have e0 := h0.cell _ _ rfl k hlt
      have hmem := getD_mem l k (by rw [hl0.out]; exact hlt)
      cases hd : P (l[k]?.getD 0)
      · have HD := Lib.hid hd
        have hc := HP.out _ hmem q
        rw [hd] at hc
        have HC := Lib.hid hc
        clear hc hd
        go_wp2_with (refine HC.out.mono ?_; rintro e w' ⟨rfl, q2, rfl⟩)
        go_roundw
        case rel => exact ⟨k + 1, by omega, by go_num, Lib.hid (find_step (by rw [hl0.out]; omega) HM.out HD.out), (by first | exact ⟨_, rfl⟩ | exact ⟨_, World.drewN_drewN⟩ | exact ⟨0, rfl⟩ | exact ⟨_, by simp only [World.drewN_drewN]; rfl⟩)⟩
        case measure => simp [intOf]; omega
      · have HD := Lib.hid hd
        have hc := HP.out _ hmem q
        rw [hd] at hc
        have HC := Lib.hid hc
        clear hc hd
        go_wp2_with (refine HC.out.mono ?_; rintro e w' ⟨rfl, q2, rfl⟩)
        go_ret
        refine ⟨(k : Int), rfl, by omega, by omega, ?_, (by first | exact ⟨_, rfl⟩ | exact ⟨_, World.drewN_drewN⟩ | exact ⟨0, rfl⟩ | exact ⟨_, by simp only [World.drewN_drewN]; rfl⟩)⟩
        rw [show decide (0 ≤ (k : Int)) = true by simp]
        exact (List.any_eq_true.2 ⟨_, hmem, HD.out⟩).symm
    · obtain rfl : n0 = k := by omega
      go_wp2_with fail
      go_ret
      refine ⟨-1, rfl, by omega, by omega, ?_, (by first | exact ⟨_, rfl⟩ | exact ⟨_, World.drewN_drewN⟩ | exact ⟨0, rfl⟩ | exact ⟨_, by simp only [World.drewN_drewN]; rfl⟩)⟩
      rw [show decide (0 ≤ (-1 : Int)) = false by decide]
      symm
      rw [List.any_eq_false]
      intro x hx
      have := HM.out x (by rw [List.take_of_length_le (by rw [hl0.out]; omega)]; exact hx)
      simp [this]

set_option maxRecDepth 10000 in
set_option maxHeartbeats 1000000 in
theorem containsFunc_any (f : FuncId) (caps : Array Value) (a0 : Option Addr) (n0 c0 : Nat) (l : List Int) (P : Int → Bool) (w : World) (hen : Enters Try.prog f) (h0 : Ints w a0 n0 c0 l) (hP : PredAt w f caps l P) (hn : n0 ≤ 1000000) :
    Calls Try.prog 64 #[.slice a0 n0 c0, .func (.func f) #[] caps] w fun e w' => e = .returned (.bool (l.any P)) ∧ ∃ q, w' = w.drewN q := by
  have HI := Lib.hid (indexFunc_any f caps a0 n0 c0 l P w hen h0 hP hn)
  clear hP hen
  go_enter Try.func64, Try.ntmps64
  go_wp2_with (go_at_call 95; refine HI.out.mono ?_; rintro e w' ⟨z, rfl, hz1, hz2, hz3, q, rfl⟩; have HZ := Lib.hid hz3; clear hz3)
  all_goals
    go_ret
    refine ⟨ret_bool ?_, (by first | exact ⟨_, rfl⟩ | exact ⟨_, World.drewN_drewN⟩ | exact ⟨0, rfl⟩ | exact ⟨_, by simp only [World.drewN_drewN]; rfl⟩)⟩
    rw [← HZ.out]
end Go.Proofs.Ytjiacdihfbbfjaa
