/- Contract of law13.in. -/
import Derived.Test.YtjiacdihfbbfjaaRefX
import Derived.WalkKit
import Derived.WalkSpells
import Derived.WalkLawsBesides
import Derived.Deep.LoopGhost
import Derived.Deep.QuietTactic
import Derived.BigQuiet
import Derived.StillTailTactics
import Derived.Lib.Hide
import Derived.Outline
import Derived.Lib.QuietBelow
namespace Go.Proofs.Ytjiacdihfbbfjaa
open Go.RowKit

set_option maxHeartbeats 400000 in
theorem lawin_any (a0 : Option Addr) (n0 c0 : Nat) (l : List Int) (x : Int) (w : World) (h0 : Ints w a0 n0 c0 l) :
    Calls Try.prog 52 #[.slice a0 n0 c0, .int .i64 x] w fun e w' => e = .returned (.bool (inL l x)) ∧ w' = w := by
  have hm0 := h0.mx
  have hc0 := h0.cap
  have hl := Lib.hid h0.len
  unfold maxLen at hm0
  go_enter Try.func52, Try.ntmps52
  go_wp2_with fail
  go_loop [4, 9] (fun v i => ∃ k : Nat, k ≤ n0 ∧ v = .bool false ∧ i = .int .i64 k ∧ Hid (x ∉ l.take k)) (fun _ i => n0 - (intOf i).toNat)
  case atStart => exact ⟨0, by omega, rfl, rfl, Lib.hid (by simp)⟩
  case round =>
    obtain ⟨k, hk, rfl, rfl, HM⟩ := hrel
    by_cases hlt : k < n0
    · obtain ⟨b0, o0, rfl, hb0⟩ := h0.at' (by omega)
      have e0 := h0.cell _ _ rfl k hlt
      obtain ⟨y, hy⟩ : ∃ y, l[k]?.getD 0 = y := ⟨_, rfl⟩
      rw [hy] at e0
      have HY := Lib.hid hy
      clear hy
      by_cases he : y = x
      · have t0 : (y == x) = true := by rw [beq_iff_eq]; exact he
        have HI := Lib.hid (inL_get (l := l) (x := x) (k := k) (by rw [hl.out]; exact hlt) (by rw [HY.out]; exact he))
        clear he
        go_wp2_with fail
        go_ret
        exact ⟨ret_bool HI.out.symm, rfl⟩
      · have t0 : (y == x) = false := by rw [beq_eq_false_iff_ne]; exact he
        have HN := Lib.hid (notin_step (l := l) (x := x) (k := k) (by rw [hl.out]; exact hlt) HM.out (by rw [HY.out]; exact he))
        clear he
        go_wp2_with fail
        go_round
        case rel => exact ⟨k + 1, by omega, rfl, by go_num, HN⟩
        case measure => simp [intOf]; omega
    · obtain rfl : k = n0 := by omega
      have HI := Lib.hid (inL_take hl.out HM.out)
      go_wp2_with fail
      go_ret
      exact ⟨ret_bool HI.out.symm, rfl⟩
end Go.Proofs.Ytjiacdihfbbfjaa

