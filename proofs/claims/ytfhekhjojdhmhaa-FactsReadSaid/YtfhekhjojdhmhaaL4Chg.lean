/- Changed, Alike and Upto agree with the reference (law04.FactsChangedSpec), at every input. -/
import Derived.Test.YtfhekhjojdhmhaaSane4
import Derived.Test.YtfhekhjojdhmhaaRow4
import Derived.Test.YtfhekhjojdhmhaaHeadF
import Derived.WalkKit
import Derived.WalkSpells
import Derived.WalkLawsBesides
import Derived.Deep.LoopGhost
import Derived.Deep.QuietTactic
import Derived.BigQuiet
import Derived.StillTailTactics
import Derived.Lib.Hide
import Derived.Outline
import Derived.Lib.QuietBelow
namespace Go.Proofs.Ytfhekhjojdhmhaa
open Go.ChangeShapes Go.WideShapes Go.ChangeAt Go.RowKit Go.Deep

theorem RetDL.out {w : World} {E : TypeId} {ds : List Dif} {e : Ending} {w' : World} (h : RetDL w E ds e w') : ∃ a n c, e = .returned (.slice a n c) ∧ DL w' a n c ds ∧ Below w.heap.size w w' := by
  obtain ⟨v, us, rfl, hO, hD, hB⟩ := h
  obtain ⟨a, c, rfl, hS⟩ := hO.sl encD_len
  exact ⟨a, _, c, rfl, ⟨us, hS, hD⟩, hB⟩
theorem sameD_true (a0 a1 : Option Addr) (n0 c0 n1 c1 : Nat) (l : List Dif) (w : World) (h0 : DL w a0 n0 c0 l) (h1 : DL w a1 n1 c1 l) :
    Calls Try.prog 23 #[.slice a0 n0 c0, .slice a1 n1 c1] w fun e w' => e = .returned (.bool true) ∧ Below w.heap.size w w' := by
  refine (sameDiffers_any a0 a1 n0 c0 n1 c1 l l w h0 h1).mono ?_
  rintro e w' ⟨rfl, q, rfl⟩
  exact ⟨by simp, Below.drewN0 _ _⟩

set_option maxRecDepth 20000 in
set_option maxHeartbeats 4000000 in
theorem lawChg_any (a0 a1 : Option Addr) (n0 c0 n1 c1 : Nat) (l : List Fact) (reads : List Rd) (before after : Int) (W : World) (h0 : SL encF 8 W a0 n0 c0 l) (h1 : SL encR 5 W a1 n1 c1 reads) (hok : ∀ x ∈ l, okF x) :
    Calls Try.prog 5 #[.slice a0 n0 c0, .slice a1 n1 c1, .int .i64 before, .int .i64 after] W fun e w' => e = .returned (.bool true) ∧ Below W.heap.size W w' := by
  have HOK := Lib.hid hok
  clear hok
  by_cases h14 : n0 ≤ 14
  · have t0 : ¬ (14 : Int) < (n0 : Int) := by omega
    by_cases h6 : n1 ≤ 6
    · have t1 : ¬ (6 : Int) < (n1 : Int) := by omega
      go_enter Try.func5, Try.ntmps5
      go_wp2_with fail
      refine (sane04_any _).mono ?_
      rintro e w1 ⟨rfl, hB1⟩
      replace h0 := h0.below hB1
      replace h1 := h1.below hB1
      go_wp2_with fail
      refine (changed_any a0 n0 c0 l before after w1 h0 (by omega) (fun f hf => (HOK.out f hf).key)).mono ?_
      rintro e w2 hr
      obtain ⟨xa, xn, xc, rfl, hX, hB⟩ := hr.out
      replace h0 := h0.below hB
      replace h1 := h1.below hB
      replace hB1 := hB1.on hB
      clear hB hr
      go_wp2_with fail
      refine (rchanged_any a0 n0 c0 l before after w2 h0 (by omega)).mono ?_
      rintro e w3 hr
      obtain ⟨ya, yn, yc, rfl, hY, hB⟩ := hr.out
      replace h0 := h0.below hB
      replace h1 := h1.below hB
      replace hX := hX.below hB
      replace hB1 := hB1.on hB
      clear hB hr
      go_wp2_with fail
      refine (sameD_true _ _ _ _ _ _ _ w3 hX hY).mono ?_
      rintro e w4 ⟨rfl, hB⟩
      replace h0 := h0.below hB
      replace h1 := h1.below hB
      replace hB1 := hB1.on hB
      clear hB hX hY
      go_wp2_with fail
      refine (alike_any a0 a1 n0 c0 n1 c1 l reads before after w4 h0 h1).mono ?_
      rintro e w5 ⟨rfl, hB⟩
      replace h0 := h0.below hB
      replace h1 := h1.below hB
      replace hB1 := hB1.on hB
      clear hB
      go_wp2_with fail
      refine (ralike_any a0 a1 n0 c0 n1 c1 l reads before after w5 h0 h1).mono ?_
      rintro e w6 ⟨rfl, hB⟩
      replace h0 := h0.below hB
      replace hB1 := hB1.on hB
      clear hB h1
      go_wp2_with fail
      refine (upto_any a0 n0 c0 l before w6 h0 (by omega)).mono ?_
      rintro e w7 ⟨xv, rfl, hO, hB⟩
      obtain ⟨xa, xc, rfl, hX⟩ := hO.sl encF_len
      replace h0 := h0.below hB
      replace hB1 := hB1.on hB
      clear hB hO
      go_wp2_with fail
      refine (rupto_any a0 n0 c0 l before w7 h0 (by omega)).mono ?_
      rintro e w8 ⟨xv, rfl, hO, hB⟩
      obtain ⟨ya, yc, rfl, hY⟩ := hO.sl encF_len
      replace hX := hX.below hB
      replace hB1 := hB1.on hB
      clear hB hO h0
      go_wp2_with fail
      refine (same_true _ _ _ _ _ _ _ w8 hX hY).mono ?_
      rintro e w9 ⟨rfl, hB⟩
      replace hB1 := hB1.on hB
      go_wp2_with fail
      go_ret
      exact ⟨rfl, hB1⟩
    · have t1 : (6 : Int) < (n1 : Int) := by omega
      go_enter Try.func5, Try.ntmps5
      go_wp2_with fail
      refine (sane04_any _).mono ?_
      rintro e w1 ⟨rfl, hB1⟩
      go_wp2_with fail
      go_ret
      exact ⟨rfl, hB1⟩
  · have t0 : (14 : Int) < (n0 : Int) := by omega
    go_enter Try.func5, Try.ntmps5
    go_wp2_with fail
    refine (sane04_any _).mono ?_
    rintro e w1 ⟨rfl, hB1⟩
    go_wp2_with fail
    go_ret
    exact ⟨rfl, hB1⟩

set_option maxRecDepth 100000 in
set_option maxHeartbeats 2000000 in
theorem lifted_Chg (os : Os) (started : os.Started) (H : Type) (enc : TypeId × Value → H) :
    ReturnsInHanded {} Try.checked os 5 .any (Rows.factsChangedSpecSpec.pre6 enc Try.prog Try.f5 Rows.factsChangedSpecRow.domain false) (Rows.factsChangedSpecSpec.post enc Try.prog Try.f5 false true false false) := by
  refine returnsInHanded_of_change (C := Try.checked) row_own started (by kernel_rfl) Try.func5
    (ChangeSpec.witness6 (enc := enc) (C := Try.checked) false ⟨#[], #[.slice none 0 0, .slice none 0 0, .int .i64 0, .int .i64 0], []⟩ 8 (by kernel_rfl) (by kernel_rfl) (by kernel_rfl) (by kernel_rfl)) ?_
  intro W base args ds gs before hval0 hW _ _
  have hval : ∀ (j : Nat) t v, Try.f5.params[j]? = some t → args[j]? = some v → Value.okWide Try.prog W .any base t v := hval0
  have hW' := hW
  obtain ⟨p, q, hA0, hV, rfl, _, _⟩ := hW
  have hA : DataW.TrodAll enc Try.prog W 0 (fun _ => true) true Try.f5.params.toList args.toList ds p := hA0
  rw [Try.params5] at hA hval
  obtain ⟨v0, v1, v2, v3, d0, d1, d2, d3, p0, p1, p2, p3, rfl, rfl, rfl, h0, h1, h2, h3⟩ := trodAll_four hA
  obtain ⟨rfl, rfl⟩ := trodVars_none hV
  obtain ⟨a0, n0, c0, l, rfl, h0', hok⟩ := open_facts (hval 0 22 v0 rfl rfl) h0
  obtain ⟨a1, n1, c1, reads, rfl, h1', hokr⟩ := open_reads (hval 1 44 v1 rfl rfl) h1
  obtain ⟨before', rfl, rfl, rfl, _⟩ := open_int Try.underlying3 (hval 2 3 v2 rfl rfl) h2
  obtain ⟨after', rfl, rfl, rfl, _⟩ := open_int Try.underlying3 (hval 3 3 v3 rfl rfl) h3
  refine (lawChg_any a0 a1 n0 c0 n1 c1 l reads before' after' W h0' h1' hok).mono fun e W' ⟨he, hb⟩ => ?_
  subst he
  exact ⟨_, rfl, law_post hW' rfl rfl (by kernel_rfl) rfl hb⟩
set_option maxHeartbeats 2000000 in
theorem closed_Chg : joinedFacts Try.prog 5 Try.f5 Rows.factsChangedSpecSpec Rows.factsChangedSpecRow = true := by
  unfold joinedFacts
  refine bt (bt (bt (bt (bt (bt (bt (bt (bt (bt (bt (bt (bt (bt (bt (bt (bt (bt (bt (bt (bt (bt (bt (bt (bt (bt (bt (bt (bt (bt (bt ?a0 ?a1) ?a2) ?a3) ?a4) ?a5) ?a6) ?a7) ?a8) ?a9) ?a10) ?a11) ?a12) ?a13) ?a14) ?a15) ?a16) ?a17) ?a18) ?a19) ?a20) ?a21) ?a22) ?a23) ?a24) ?a25) ?a26) ?a27) ?a28) ?a29) ?a30) ?a31
  case a25 => exact prog_enter
  case a26 => exact prog_lifts
  case a27 => exact prog_make
  all_goals as_aux_lemma => kernel_rfl
theorem factsChangedSpec_holds : Rows.FactsChangedSpecSaid :=
  OpenClaim.holds_of_wide 5 Try.f5 rfl rfl rfl rfl rfl rfl rfl ⟨rfl, rfl, rfl, rfl, rfl⟩ rfl rfl rfl rfl rfl (by kernel_rfl) Try.func5 closed_Chg
    (of_decide_eq_true (by kernel_rfl)) (by unfold Func.isWrapper; rw [if_neg (of_decide_eq_false (by kernel_rfl))]; exact ⟨rfl, rfl⟩)
    (fun os started H enc _ => lifted_Chg os started H enc)
#print axioms factsChangedSpec_holds
end Go.Proofs.Ytfhekhjojdhmhaa
