/- Contract of slices.Equal at points. -/
import Derived.Test.YtfhekhjojdhmhaaFPt
import Derived.WalkKit
import Derived.WalkSpells
import Derived.WalkLawsBesides
import Derived.Deep.LoopGhost
import Derived.Deep.QuietTactic
import Derived.BigQuiet
import Derived.StillTailTactics
import Derived.Lib.Hide
import Derived.Outline
import Derived.Lib.QuietBelow
namespace Go.Proofs.Ytfhekhjojdhmhaa
open Go.RowKit

set_option maxRecDepth 10000 in
set_option maxHeartbeats 2000000 in
theorem equalP_any (a0 a1 : Option Addr) (n0 c0 n1 c1 : Nat) (l m : List (Int × Int)) (w : World) (h0 : SL encP 2 w a0 n0 c0 l) (h1 : SL encP 2 w a1 n1 c1 m) :
    Calls Try.prog 45 #[.slice a0 n0 c0, .slice a1 n1 c1] w fun e w' => e = .returned (.bool (decide (l = m))) ∧ ∃ k, w' = w.drewN k := by
  have hc0 := h0.cap
  have hm0 := h0.mx
  have hc1 := h1.cap
  have hm1 := h1.mx
  have hl0 := Lib.hid h0.len
  have hl1 := Lib.hid h1.len
  have hg := guard_point
  unfold maxLen at hm0 hm1
  by_cases hn : n0 = n1
  · subst hn
    go_enter Try.func45, Try.ntmps45
    go_wp2_with fail
    go_loopw [13] (fun i wr => ∃ k : Nat, k ≤ n0 ∧ i = .int .i64 k ∧ Hid (sameUpto l m k) ∧ ∃ q, wr = w.drewN q) (fun i _ => n0 - (intOf i).toNat)
    case atStart => exact ⟨0, by omega, rfl, Lib.hid rfl, 0, rfl⟩
    case round =>
      obtain ⟨k, hk, rfl, HM, q, rfl⟩ := hrel
      by_cases hlt : k < n0
      · obtain ⟨b0, o0, rfl, hb0⟩ := h0.at' (by omega)
        obtain ⟨b1, o1, rfl, hb1⟩ := h1.at' (by omega)
        obtain ⟨x, hx⟩ := h0.get hlt
        obtain ⟨y, hy⟩ := h1.get hlt
        obtain ⟨e0, e1⟩ := h0.pair hx
        obtain ⟨f0, f1⟩ := h1.pair hy
        have HX := Lib.hid hx
        have HY := Lib.hid hy
        have hE : ∀ w, (Op.equalIn 10000 60 (.agg #[.int .i64 x.1, .int .i64 x.2]) (.agg #[.int .i64 y.1, .int .i64 y.2])).run Try.prog w = .ok (decide (x.1 = y.1 ∧ x.2 = y.2)) w := eqInD_point 9998 _ _ _ _
        rw [pair_eq] at hE
        clear hx hy
        by_cases hxy : x = y
        · have HXY := Lib.hid hxy
          rw [decide_eq_true hxy] at hE
          clear hxy
          go_wp2_with (go_quiet (fail))
          go_roundw
          case rel => exact ⟨k + 1, by omega, by go_num, Lib.hid (same_step HM.out HX.out (by rw [HXY.out]; exact HY.out)), (by first | exact ⟨_, rfl⟩ | exact ⟨_, World.drewN_drewN⟩ | exact ⟨0, rfl⟩ | exact ⟨_, by simp only [World.drewN_drewN]; rfl⟩)⟩
          case measure => simp [intOf]; omega
        · have HXY := Lib.hid hxy
          rw [decide_eq_false hxy] at hE
          clear hxy
          go_wp2_with (go_quiet (fail))
          go_ret
          refine ⟨ret_bool ?_, (by first | exact ⟨_, rfl⟩ | exact ⟨_, World.drewN_drewN⟩ | exact ⟨0, rfl⟩ | exact ⟨_, by simp only [World.drewN_drewN]; rfl⟩)⟩
          symm
          rw [decide_eq_false_iff_not]
          rintro rfl
          exact HXY.out (by have := HX.out.symm.trans HY.out; injection this)
      · obtain rfl : n0 = k := by omega
        go_wp2_with fail
        go_ret
        refine ⟨ret_bool ?_, (by first | exact ⟨_, rfl⟩ | exact ⟨_, World.drewN_drewN⟩ | exact ⟨0, rfl⟩ | exact ⟨_, by simp only [World.drewN_drewN]; rfl⟩)⟩
        symm
        rw [decide_eq_true_eq]
        exact same_end HM.out (by rw [hl0.out]; omega) (by rw [hl1.out]; omega)
  · have t0 : ((n0 : Int) != (n1 : Int)) = true := by simp; omega
    have HN := Lib.hid hn
    clear hn
    go_enter Try.func45, Try.ntmps45
    go_wp2_with fail
    go_ret
    refine ⟨ret_bool ?_, 0, rfl⟩
    symm
    rw [decide_eq_false_iff_not]
    rintro rfl
    exact HN.out (hl0.out.symm.trans hl1.out)
end Go.Proofs.Ytfhekhjojdhmhaa
