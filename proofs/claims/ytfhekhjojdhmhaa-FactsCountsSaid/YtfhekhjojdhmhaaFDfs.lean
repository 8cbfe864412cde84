/- Contract of ref.differs. -/
import Derived.Test.YtfhekhjojdhmhaaFPtR
import Derived.WalkKit
import Derived.WalkSpells
import Derived.WalkLawsBesides
import Derived.Deep.LoopGhost
import Derived.Deep.QuietTactic
import Derived.BigQuiet
import Derived.StillTailTactics
import Derived.Lib.Hide
import Derived.Outline
import Derived.Lib.QuietBelow
namespace Go.Proofs.Ytfhekhjojdhmhaa
open Go.RowKit

def difB (l : List Fact) (k : Key) (day before after : Int) : Bool := decide (atF l k day before ≠ atF l k day after)

set_option maxRecDepth 20000 in
set_option maxHeartbeats 4000000 in
theorem differs_any (a0 : Option Addr) (n0 c0 : Nat) (l : List Fact) (k : Key) (day before after : Int) (w : World) (h0 : SL encF 8 w a0 n0 c0 l) :
    Calls Try.prog 44 #[.slice a0 n0 c0, keyV k, .int .i64 day, .int .i64 before, .int .i64 after] w fun e w' => e = .returned (.bool (difB l k day before after)) ∧ Below w.heap.size w w' := by
  have hal : Below w.heap.size w (w.alloc (.cells #[.int .i64 k.kd, .int .i64 k.sb, .int .i64 k.ob] 24)) := ((Below.refl _ _).alloc (Nat.le_refl _) _)
  have hK0 : K3 (w.alloc (.cells #[.int .i64 k.kd, .int .i64 k.sb, .int .i64 k.ob] 24)) w.heap.size k := Box3 (Box.new _ _ _)
  obtain ⟨g0, g1, g2⟩ := id hK0
  have HC1 := Lib.hid (rat_any a0 n0 c0 l k day before (w.alloc (.cells #[.int .i64 k.kd, .int .i64 k.sb, .int .i64 k.ob] 24)) (h0.below hal))
  have HC2 := Lib.hid (fun w1 => rat_any a0 n0 c0 l k day after w1)
  obtain ⟨wk, hwk⟩ : ∃ wk, w.alloc (.cells #[.int .i64 k.kd, .int .i64 k.sb, .int .i64 k.ob] 24) = wk := ⟨_, rfl⟩
  have HWK := Lib.hid hwk
  rw [hwk] at HC1 hal hK0 g0 g1 g2
  clear hwk
  have HR : Hid (difB l k day before after = (atOk l k day before != atOk l k day after || atV l k day before != atV l k day after)) := Lib.hid (by
    unfold difB atOk atV
    cases atF l k day before <;> cases atF l k day after <;> simp
    rw [Bool.eq_iff_iff]; simp)
  rw [HR.out]
  clear HR
  obtain ⟨v1, hv1⟩ : ∃ v, atV l k day before = v := ⟨_, rfl⟩
  obtain ⟨v2, hv2⟩ : ∃ v, atV l k day after = v := ⟨_, rfl⟩
  obtain ⟨b1, hb1⟩ : ∃ v, atOk l k day before = v := ⟨_, rfl⟩
  obtain ⟨b2, hb2⟩ : ∃ v, atOk l k day after = v := ⟨_, rfl⟩
  rw [hv1, hb1] at HC1 ⊢
  rw [hv2, hb2] at HC2 ⊢
  clear hv1 hv2 hb1 hb2
  cases b1 <;> cases b2
  all_goals (
    go_enter Try.func44, Try.ntmps44
    go_wp2_with (first | (go_at_call 19; rw [HWK.out]; refine HC1.out.mono ?_; rintro e w1 ⟨rfl, hB1⟩; obtain ⟨k0, k1, k2⟩ := hK0.below hB1) | (go_at_call 19; refine (HC2.out w1 ((h0.below hal).below hB1)).mono ?_; rintro e w2 ⟨rfl, hB2⟩))
    go_ret
    exact ⟨ret_bool (by simp), (hal.on hB1).on hB2⟩)
end Go.Proofs.Ytfhekhjojdhmhaa
