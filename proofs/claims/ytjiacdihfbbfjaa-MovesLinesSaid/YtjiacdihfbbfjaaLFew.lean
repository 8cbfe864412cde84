/- Contracts of law14.few, ref14.Few, law14.permutation. -/
import Derived.Test.YtjiacdihfbbfjaaLit
import Derived.WalkKit
import Derived.WalkSpells
import Derived.WalkLawsBesides
import Derived.Deep.LoopGhost
import Derived.Deep.QuietTactic
import Derived.BigQuiet
import Derived.StillTailTactics
import Derived.Lib.Hide
import Derived.Outline
import Derived.Lib.QuietBelow
namespace Go.Proofs.Ytjiacdihfbbfjaa
open Go.RowKit

def fewB (ll : List (List Int)) : Bool := ll.all (fun l => decide (l.length ≤ 20)) && decide (ll.length ≤ 12)
def shortUpto (ll : List (List Int)) (k : Nat) : Prop := ∀ l ∈ ll.take k, l.length ≤ 20
theorem short_step {ll : List (List Int)} {k : Nat} (hk : k < ll.length) (h : shortUpto ll k) (h2 : (ll[k]?.getD []).length ≤ 20) : shortUpto ll (k + 1) := by
  intro x hx
  rw [takeLL_getD ll k hk] at hx
  rcases List.mem_append.1 hx with hx | hx
  · exact h x hx
  · rw [List.mem_singleton.1 hx]; exact h2
theorem fewB_long {ll : List (List Int)} {k : Nat} (hk : k < ll.length) (h : 20 < (ll[k]?.getD []).length) : fewB ll = false := by
  unfold fewB
  rw [Bool.and_eq_false_iff]
  refine .inl (List.all_eq_false.2 ⟨ll[k]?.getD [], ?_, by simp; omega⟩)
  rw [List.getElem?_eq_getElem hk]; exact List.getElem_mem hk
theorem fewB_end {ll : List (List Int)} (h : shortUpto ll ll.length) : fewB ll = decide (ll.length ≤ 12) := by
  unfold fewB
  have : ll.all (fun l => decide (l.length ≤ 20)) = true := List.all_eq_true.2 fun l hl => by
    have := h l (by rw [List.take_of_length_le (Nat.le_refl _)]; exact hl)
    simpa using this
  rw [this]; rfl

set_option maxRecDepth 10000 in
set_option maxHeartbeats 1000000 in
theorem few_any (a0 : Option Addr) (n0 c0 : Nat) (ll : List (List Int)) (w : World) (h0 : Rows w a0 n0 c0 ll) :
    Calls Try.prog 27 #[.slice a0 n0 c0] w fun e w' => e = .returned (.bool (fewB ll)) ∧ w' = w := by
  have hm0 := h0.mx
  have hc0 := h0.cap
  have hl0 := Lib.hid h0.len
  unfold maxLen at hm0
  go_enter Try.func27, Try.ntmps27
  go_wp2_with fail
  go_loop [7] (fun i => ∃ k : Nat, k ≤ n0 ∧ i = .int .i64 k ∧ Hid (shortUpto ll k)) (fun i => n0 - (intOf i).toNat)
  case atStart => exact ⟨0, by omega, rfl, Lib.hid (by intro x hx; simp at hx)⟩
  case round =>
    obtain ⟨k, hk, rfl, HM⟩ := hrel
    by_cases hlt : k < n0
    · obtain ⟨b0, o0, rfl, hb0⟩ := h0.at' (by omega)
      obtain ⟨ai, ni, ci, e0, hI0⟩ := h0.row _ _ rfl k hlt
      have LI := Lib.hid hI0.len
      by_cases hs : 20 < ni
      · have t0 : decide (20 < (ni : Int)) = true := by simp; omega
        have t1 : decide (20 < ni) = true := by simp; omega
        have HF := Lib.hid (fewB_long (by rw [hl0.out]; exact hlt) (by rw [LI.out]; exact hs))
        clear hs
        go_wp2_with fail
        go_ret
        exact ⟨ret_bool HF.out.symm, rfl⟩
      · have t0 : decide (20 < (ni : Int)) = false := by simp; omega
        have t1 : decide (20 < ni) = false := by simp; omega
        have HF := Lib.hid (short_step (by rw [hl0.out]; exact hlt) HM.out (by rw [LI.out]; omega))
        clear hs
        go_wp2_with fail
        go_round
        case rel => exact ⟨k + 1, by omega, by go_num, HF⟩
        case measure => simp [intOf]; omega
    · obtain rfl : n0 = k := by omega
      have HF := Lib.hid (fewB_end (by rw [hl0.out]; exact HM.out))
      go_wp2_with fail
      go_ret
      refine ⟨ret_bool ?_, rfl⟩
      rw [HF.out, hl0.out]
      simp
      omega

def fewG (g : Grid) : Bool := decide (g.cells.length ≤ 30) && decide (g.holes.length ≤ 256)
set_option maxRecDepth 10000 in
set_option maxHeartbeats 1000000 in
theorem fewG_any (g : Grid) (ah ac : Option Addr) (nh ch nc cc : Nat) (W : World) (h1 : Ints W ah nh ch g.holes) (h2 : Ints W ac nc cc g.cells) :
    Calls Try.prog 21 #[.agg #[.int .i64 g.shape, .int .i64 g.w, .int .i64 g.h, .slice ah nh ch, .slice ac nc cc]] W fun e w' => e = .returned (.bool (fewG g)) ∧ Below W.heap.size W w' := by
  have hm1 := h1.mx
  have hc1 := h1.cap
  have hm2 := h2.mx
  have hc2 := h2.cap
  unfold maxLen at hm1 hm2
  have HF : Hid (fewG g = (decide (nc ≤ 30) && decide (nh ≤ 256))) := Lib.hid (by unfold fewG; rw [h1.len, h2.len])
  by_cases hc : nc ≤ 30
  · have t0 : decide ((nc : Int) ≤ 30) = true := by simp; omega
    have t1 : decide (nc ≤ 30) = true := by simp; omega
    rw [t1] at HF
    clear hc
    go_enter Try.func21, Try.ntmps21
    go_wp2_with fail
    go_ret
    refine ⟨ret_bool ?_, (by repeat (first | (with_reducible exact Below.refl _ _) | (with_reducible assumption) | (with_reducible refine below_drewN ?_ _) | ((with_reducible refine Below.setCell ?_ ?_ _); rotate_left; focus (first | (simp; done) | (simp; omega) | omega)) | ((with_reducible refine Below.alloc ?_ ?_ _); rotate_left; focus (first | (simp; done) | (simp; omega) | omega)) | (with_reducible refine Below.drew ?_)))⟩
    rw [HF.out]; simp; omega
  · have t0 : decide ((nc : Int) ≤ 30) = false := by simp; omega
    have t1 : decide (nc ≤ 30) = false := by simp; omega
    rw [t1] at HF
    clear hc
    go_enter Try.func21, Try.ntmps21
    go_wp2_with fail
    go_ret
    refine ⟨ret_bool ?_, (by repeat (first | (with_reducible exact Below.refl _ _) | (with_reducible assumption) | (with_reducible refine below_drewN ?_ _) | ((with_reducible refine Below.setCell ?_ ?_ _); rotate_left; focus (first | (simp; done) | (simp; omega) | omega)) | ((with_reducible refine Below.alloc ?_ ?_ _); rotate_left; focus (first | (simp; done) | (simp; omega) | omega)) | (with_reducible refine Below.drew ?_)))⟩
    rw [HF.out]; simp
end Go.Proofs.Ytjiacdihfbbfjaa
