/- Check and Add agree with the reference (law04.FactsCheckSpec), at every input. -/
import Derived.Test.YtfhekhjojdhmhaaSane4
import Derived.Test.YtfhekhjojdhmhaaRow4
import Derived.Test.YtfhekhjojdhmhaaHeadF
import Derived.WalkKit
import Derived.WalkSpells
import Derived.WalkLawsBesides
import Derived.Deep.LoopGhost
import Derived.Deep.QuietTactic
import Derived.BigQuiet
import Derived.StillTailTactics
import Derived.Lib.Hide
import Derived.Outline
import Derived.Lib.QuietBelow
namespace Go.Proofs.Ytfhekhjojdhmhaa
open Go.ChangeShapes Go.WideShapes Go.ChangeAt Go.RowKit Go.Deep

set_option maxRecDepth 20000 in
set_option maxHeartbeats 4000000 in
theorem lawCheck_any (a0 : Option Addr) (n0 c0 : Nat) (l : List Fact) (f : Fact) (W : World) (h0 : SL encF 8 W a0 n0 c0 l) :
    Calls Try.prog 3 #[.slice a0 n0 c0, factV f] W fun e w' => e = .returned (.bool true) ∧ Below W.heap.size W w' := by
  have hal : Below W.heap.size W (W.alloc (.cells #[.int .i64 f.kd, .int .i64 f.sb, .int .i64 f.ob, .int .i64 f.val, .int .i64 f.vf, .int .i64 f.vt, .int .i64 f.kn, .int .i64 f.no] 28)) := (Below.refl _ _).alloc (Nat.le_refl _) _
  have hbx := Box.new W #[.int .i64 f.kd, .int .i64 f.sb, .int .i64 f.ob, .int .i64 f.val, .int .i64 f.vf, .int .i64 f.vt, .int .i64 f.kn, .int .i64 f.no] 28
  have hA : At8 (W.alloc (.cells #[.int .i64 f.kd, .int .i64 f.sb, .int .i64 f.ob, .int .i64 f.val, .int .i64 f.vf, .int .i64 f.vt, .int .i64 f.kn, .int .i64 f.no] 28)) W.heap.size 0 f := ⟨hbx.cell 0, hbx.cell 1, hbx.cell 2, hbx.cell 3, hbx.cell 4, hbx.cell 5, hbx.cell 6, hbx.cell 7⟩
  clear hbx
  obtain ⟨w0, hw0⟩ : ∃ w0, W.alloc (.cells #[.int .i64 f.kd, .int .i64 f.sb, .int .i64 f.ob, .int .i64 f.val, .int .i64 f.vf, .int .i64 f.vt, .int .i64 f.kn, .int .i64 f.no] 28) = w0 := ⟨_, rfl⟩
  rw [hw0] at hal hA
  have HW := Lib.hid hw0
  have h0W := h0.below hal
  cases hf : decide (l.length ≤ 30)
  · have HF := Lib.hid hf
    clear hf hw0
    go_enter Try.func3, Try.ntmps3
    go_wp2_with fail
    rw [HW.out]
    refine (sane04_any _).mono ?_
    rintro e w1 ⟨rfl, hB1⟩
    go_wp2_with fail
    have hc := few04_any a0 n0 c0 l w1 (h0W.below hB1)
    rw [HF.out] at hc
    refine hc.mono ?_
    rintro e w2 ⟨rfl, rfl⟩
    clear hc
    go_wp2_with fail
    go_ret
    exact ⟨rfl, hal.on hB1⟩
  · have hn : n0 ≤ 30 := by have := of_decide_eq_true hf; rw [h0.len] at this; exact this
    have HF := Lib.hid hf
    clear hf hw0
    go_enter Try.func3, Try.ntmps3
    go_wp2_with fail
    rw [HW.out]
    refine (sane04_any _).mono ?_
    rintro e w1 ⟨rfl, hB1⟩
    go_wp2_with fail
    have hc := few04_any a0 n0 c0 l w1 (h0W.below hB1)
    rw [HF.out] at hc
    refine hc.mono ?_
    rintro e w2 ⟨rfl, rfl⟩
    clear hc
    replace h0 := h0W.below hB1
    replace hA := hA.below hB1
    replace hal := hal.on hB1
    clear h0W hB1
    obtain ⟨q0, q1, q2, q3, q4, q5, q6, q7⟩ := id hA
    simp only [Nat.zero_add] at q0 q1 q2 q3 q4 q5 q6 q7
    go_wp2_with fail
    refine (add_any a0 n0 c0 l f w2 h0 (by omega)).mono ?_
    rintro e w3 ⟨xv, rfl, hO, hB⟩
    obtain ⟨xa, xc, rfl, hX⟩ := hO.sl encF_len
    replace h0 := h0.below hB
    replace hA := hA.below hB
    replace hal := hal.on hB
    clear hB hO q0 q1 q2 q3 q4 q5 q6 q7
    obtain ⟨q0, q1, q2, q3, q4, q5, q6, q7⟩ := id hA
    simp only [Nat.zero_add] at q0 q1 q2 q3 q4 q5 q6 q7
    go_wp2_with fail
    refine (radd_any a0 n0 c0 l f w3 h0 (by omega)).mono ?_
    rintro e w4 ⟨yv, rfl, hO, hB⟩
    obtain ⟨ya, yc, rfl, hY⟩ := hO.sl encF_len
    replace h0 := h0.below hB
    replace hX := hX.below hB
    replace hal := hal.on hB
    clear hB hO q0 q1 q2 q3 q4 q5 q6 q7 hA
    go_wp2_with fail
    refine (check_any a0 n0 c0 l w4 h0).mono ?_
    rintro e w5 ⟨rfl, hB⟩
    replace h0 := h0.below hB
    replace hX := hX.below hB
    replace hY := hY.below hB
    replace hal := hal.on hB
    clear hB
    go_wp2_with fail
    refine (rcheck_any a0 n0 c0 l w5 h0).mono ?_
    rintro e w6 ⟨rfl, hB⟩
    replace hX := hX.below hB
    replace hY := hY.below hB
    replace hal := hal.on hB
    clear hB
    go_wp2_with fail
    refine (same_true _ _ _ _ _ _ _ w6 hX hY).mono ?_
    rintro e w7 ⟨rfl, hB⟩
    replace hal := hal.on hB
    go_wp2_with fail
    go_ret
    exact ⟨rfl, hal⟩

set_option maxRecDepth 100000 in
set_option maxHeartbeats 2000000 in
theorem lifted_Check (os : Os) (started : os.Started) (H : Type) (enc : TypeId × Value → H) :
    ReturnsInHanded {} Try.checked os 3 .any (Rows.factsCheckSpecSpec.pre6 enc Try.prog Try.f3 Rows.factsCheckSpecRow.domain false) (Rows.factsCheckSpecSpec.post enc Try.prog Try.f3 false true false false) := by
  refine returnsInHanded_of_change (C := Try.checked) row_own started (by kernel_rfl) Try.func3
    (ChangeSpec.witness6 (enc := enc) (C := Try.checked) false ⟨#[], #[.slice none 0 0, .agg #[.int .i64 0, .int .i64 0, .int .i64 0, .int .i64 0, .int .i64 0, .int .i64 0, .int .i64 0, .int .i64 0]], []⟩ 8 (by kernel_rfl) (by kernel_rfl) (by kernel_rfl) (by kernel_rfl)) ?_
  intro W base args ds gs before hval0 hW _ _
  have hval : ∀ (j : Nat) t v, Try.f3.params[j]? = some t → args[j]? = some v → Value.okWide Try.prog W .any base t v := hval0
  have hW' := hW
  obtain ⟨p, q, hA0, hV, rfl, _, _⟩ := hW
  have hA : DataW.TrodAll enc Try.prog W 0 (fun _ => true) true Try.f3.params.toList args.toList ds p := hA0
  rw [Try.params3] at hA hval
  obtain ⟨v0, v1, d0, d1, p0, p1, rfl, rfl, rfl, h0, h1⟩ := trodAll_two hA
  obtain ⟨rfl, rfl⟩ := trodVars_none hV
  obtain ⟨a0, n0, c0, l, rfl, h0', hok⟩ := open_facts (hval 0 22 v0 rfl rfl) h0
  obtain ⟨f, rfl, hokf⟩ := open_fact (hval 1 28 v1 rfl rfl) h1
  refine (lawCheck_any a0 n0 c0 l f W h0').mono fun e W' ⟨he, hb⟩ => ?_
  subst he
  exact ⟨_, rfl, law_post hW' rfl rfl (by kernel_rfl) rfl hb⟩
set_option maxHeartbeats 2000000 in
theorem closed_Check : joinedFacts Try.prog 3 Try.f3 Rows.factsCheckSpecSpec Rows.factsCheckSpecRow = true := by
  unfold joinedFacts
  refine bt (bt (bt (bt (bt (bt (bt (bt (bt (bt (bt (bt (bt (bt (bt (bt (bt (bt (bt (bt (bt (bt (bt (bt (bt (bt (bt (bt (bt (bt (bt ?a0 ?a1) ?a2) ?a3) ?a4) ?a5) ?a6) ?a7) ?a8) ?a9) ?a10) ?a11) ?a12) ?a13) ?a14) ?a15) ?a16) ?a17) ?a18) ?a19) ?a20) ?a21) ?a22) ?a23) ?a24) ?a25) ?a26) ?a27) ?a28) ?a29) ?a30) ?a31
  case a25 => exact prog_enter
  case a26 => exact prog_lifts
  case a27 => exact prog_make
  all_goals as_aux_lemma => kernel_rfl
theorem factsCheckSpec_holds : Rows.FactsCheckSpecSaid :=
  OpenClaim.holds_of_wide 3 Try.f3 rfl rfl rfl rfl rfl rfl rfl ⟨rfl, rfl, rfl, rfl, rfl⟩ rfl rfl rfl rfl rfl (by kernel_rfl) Try.func3 closed_Check
    (of_decide_eq_true (by kernel_rfl)) (by unfold Func.isWrapper; rw [if_neg (of_decide_eq_false (by kernel_rfl))]; exact ⟨rfl, rfl⟩)
    (fun os started H enc _ => lifted_Check os started H enc)
#print axioms factsCheckSpec_holds
end Go.Proofs.Ytfhekhjojdhmhaa
