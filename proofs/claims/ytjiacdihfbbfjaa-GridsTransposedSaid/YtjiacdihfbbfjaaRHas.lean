/- Contract of ref14.Has. -/
import Derived.Test.YtjiacdihfbbfjaaRefX
import Derived.WalkKit
import Derived.WalkSpells
import Derived.WalkLawsBesides
import Derived.Deep.LoopGhost
import Derived.Deep.QuietTactic
import Derived.BigQuiet
import Derived.StillTailTactics
import Derived.Lib.Hide
import Derived.Outline
import Derived.Lib.QuietBelow
namespace Go.Proofs.Ytjiacdihfbbfjaa
open Go.RowKit

theorem hasL_hit {ll : List (List Int)} {p : List Int} {k : Nat} (hk : k < ll.length) (h : eqL (ll[k]?.getD []) p = true) : hasL ll p = true := by
  unfold hasL; unfold eqL at h
  rw [decide_eq_true_eq, List.getElem?_eq_getElem hk] at h
  rw [List.contains_iff_mem, ← h]; exact List.getElem_mem hk
def missUpto (ll : List (List Int)) (p : List Int) (k : Nat) : Prop := ∀ x ∈ ll.take k, x ≠ p
theorem miss_step {ll : List (List Int)} {p : List Int} {k : Nat} (hk : k < ll.length) (h : missUpto ll p k) (h2 : eqL (ll[k]?.getD []) p = false) : missUpto ll p (k + 1) := by
  intro x hx
  rw [takeLL_getD ll k hk] at hx
  rcases List.mem_append.1 hx with hx | hx
  · exact h x hx
  · rw [List.mem_singleton.1 hx]; unfold eqL at h2; simpa using h2
theorem hasL_end {ll : List (List Int)} {p : List Int} (h : missUpto ll p ll.length) : hasL ll p = false := by
  unfold hasL; rw [Bool.eq_false_iff]; intro hc
  exact h p (by rw [List.take_of_length_le (Nat.le_refl _)]; exact List.contains_iff_mem.1 hc) rfl

set_option maxRecDepth 10000 in
set_option maxHeartbeats 1000000 in
theorem has_any (a0 a1 : Option Addr) (n0 c0 n1 c1 : Nat) (ll : List (List Int)) (p : List Int) (w : World) (h0 : Rows w a0 n0 c0 ll) (h1 : Ints w a1 n1 c1 p) :
    Calls Try.prog 33 #[.slice a0 n0 c0, .slice a1 n1 c1] w fun e w' => e = .returned (.bool (hasL ll p)) ∧ ∃ k, w' = w.drewN k := by
  have hm0 := h0.mx
  have hc0 := h0.cap
  have hl0 := Lib.hid h0.len
  unfold maxLen at hm0
  go_enter Try.func33, Try.ntmps33
  go_wp2_with fail
  go_loopw [5] (fun i wr => ∃ k : Nat, k ≤ n0 ∧ i = .int .i64 k ∧ Hid (missUpto ll p k) ∧ ∃ q, wr = w.drewN q) (fun i _ => n0 - (intOf i).toNat)
  case atStart => exact ⟨0, by omega, rfl, Lib.hid (by intro x hx; simp at hx), 0, rfl⟩
  case round =>
    obtain ⟨k, hk, rfl, HM, q, rfl⟩ := hrel
    by_cases hlt : k < n0
    · obtain ⟨b0, o0, rfl, hb0⟩ := h0.at' (by omega)
      obtain ⟨ai, ni, ci, e0, hI0⟩ := h0.row _ _ rfl k hlt
      cases hd : eqL (ll[k]?.getD []) p
      · have HD := Lib.hid hd
        go_wp2_with (go_at_call 34; refine (equal_any _ _ _ _ _ _ _ _ _ (by first | exact hI0 | exact hI0.drewN _ | exact (hI0.drewN _).drewN _ | exact hI0.below (by assumption)) (by first | exact h1 | exact h1.drewN _ | exact (h1.drewN _).drewN _ | exact h1.below (by assumption))).mono ?_; rintro e w' ⟨rfl, q, rfl⟩)
        go_roundw
        case rel => exact ⟨k + 1, by omega, by go_num, Lib.hid (miss_step (by rw [hl0.out]; omega) HM.out HD.out), (by first | exact ⟨_, rfl⟩ | exact ⟨_, World.drewN_drewN⟩ | exact ⟨0, rfl⟩ | exact ⟨_, by simp only [World.drewN_drewN]; rfl⟩)⟩
        case measure => simp [intOf]; omega
      · have HD := Lib.hid hd
        go_wp2_with (go_at_call 34; refine (equal_any _ _ _ _ _ _ _ _ _ (by first | exact hI0 | exact hI0.drewN _ | exact (hI0.drewN _).drewN _ | exact hI0.below (by assumption)) (by first | exact h1 | exact h1.drewN _ | exact (h1.drewN _).drewN _ | exact h1.below (by assumption))).mono ?_; rintro e w' ⟨rfl, q, rfl⟩)
        go_ret
        exact ⟨ret_bool (hasL_hit (by rw [hl0.out]; omega) HD.out).symm, (by first | exact ⟨_, rfl⟩ | exact ⟨_, World.drewN_drewN⟩ | exact ⟨0, rfl⟩ | exact ⟨_, by simp only [World.drewN_drewN]; rfl⟩)⟩
    · obtain rfl : n0 = k := by omega
      go_wp2_with fail
      go_ret
      exact ⟨ret_bool (hasL_end (by rw [hl0.out]; exact HM.out)).symm, (by first | exact ⟨_, rfl⟩ | exact ⟨_, World.drewN_drewN⟩ | exact ⟨0, rfl⟩ | exact ⟨_, by simp only [World.drewN_drewN]; rfl⟩)⟩
end Go.Proofs.Ytjiacdihfbbfjaa

