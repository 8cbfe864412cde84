/- Check, Compose and Inverse agree with the reference (law11.PermsSpec), at every input. -/
import Derived.Test.YtkekkbbdhdamjaaLawP
import Derived.Deep.RegionHeld3
import Derived.WalkKit
import Derived.WalkSpells
import Derived.WalkLawsBesides
import Derived.Deep.LoopGhost
import Derived.Deep.QuietTactic
import Derived.BigQuiet
import Derived.StillTailTactics
import Derived.Lib.Hide
import Derived.Outline
import Derived.Lib.QuietBelow
namespace Go.Proofs.Ytkekkbbdhdamjaa
open Go.ChangeShapes Go.WideShapes Go.ChangeAt Go.RowKit Go.Deep

set_option maxRecDepth 20000 in
set_option maxHeartbeats 4000000 in
theorem lawSpec_any (a0 a1 : Option Addr) (n0 c0 n1 c1 : Nat) (l m : List Int) (n : Int) (W : World) (h0 : Ints W a0 n0 c0 l) (h1 : Ints W a1 n1 c1 m) :
    Calls Try.prog 3 #[.slice a0 n0 c0, .slice a1 n1 c1, .int .i64 n] W fun e w' => e = .returned (.bool true) ∧ Below W.heap.size W w' := by
  by_cases ha : n0 ≤ 300
  · have t0 : ¬ (300 : Int) < (n0 : Int) := by omega
    by_cases hb : n1 ≤ 300
    · have t1 : ¬ (300 : Int) < (n1 : Int) := by omega
      go_enter Try.func3, Try.ntmps3
      go_wp2_with fail
      refine (sane11_any _).mono ?_
      rintro e w1 ⟨rfl, hB1⟩
      go_wp2_with fail
      refine (compose_any a0 a1 n0 c0 n1 c1 l m w1 (h0.below hB1) (h1.below hB1)).mono ?_
      rintro e w2 hr
      obtain ⟨xa, xn, xc, rfl, hX, hA⟩ := hr.out
      replace hB1 := hB1.on hA
      clear hA hr
      go_wp2_with fail
      refine (rcompose_any a0 a1 n0 c0 n1 c1 l m w2 (h0.below hB1) (h1.below hB1)).mono ?_
      rintro e w3 hr
      obtain ⟨ya, yn, yc, rfl, hY, hA⟩ := hr.out
      replace hB1 := hB1.on hA
      replace hX := hX.below hA
      clear hA hr
      go_wp2_with fail
      refine (inverse_any a0 n0 c0 l w3 (h0.below hB1)).mono ?_
      rintro e w4 hr
      obtain ⟨pa, pn, pc, rfl, hP, hA⟩ := hr.out
      replace hB1 := hB1.on hA
      replace hX := hX.below hA
      replace hY := hY.below hA
      clear hA hr
      go_wp2_with fail
      refine (rinverse_any a0 n0 c0 l w4 (h0.below hB1)).mono ?_
      rintro e w5 hr
      obtain ⟨qa, qn, qc, rfl, hQ, hA⟩ := hr.out
      replace hB1 := hB1.on hA
      replace hX := hX.below hA
      replace hY := hY.below hA
      replace hP := hP.below hA
      clear hA hr
      go_wp2_with fail
      refine (check_any a0 n0 c0 l n w5 (h0.below hB1)).mono ?_
      rintro e w6 ⟨rfl, hA⟩
      replace hB1 := hB1.on hA
      replace hX := hX.below hA
      replace hY := hY.below hA
      replace hP := hP.below hA
      replace hQ := hQ.below hA
      clear hA
      go_wp2_with fail
      refine (rcheck_any a0 n0 c0 l n w6 (h0.below hB1)).mono ?_
      rintro e w7 ⟨rfl, hA⟩
      replace hB1 := hB1.on hA
      replace hX := hX.below hA
      replace hY := hY.below hA
      replace hP := hP.below hA
      replace hQ := hQ.below hA
      clear hA
      go_wp2_with fail
      refine (check_any a0 n0 c0 l n0 w7 (h0.below hB1)).mono ?_
      rintro e w8 ⟨rfl, hA⟩
      replace hB1 := hB1.on hA
      replace hX := hX.below hA
      replace hY := hY.below hA
      replace hP := hP.below hA
      replace hQ := hQ.below hA
      clear hA
      go_wp2_with fail
      refine (rcheck_any a0 n0 c0 l n0 w8 (h0.below hB1)).mono ?_
      rintro e w9 ⟨rfl, hA⟩
      replace hB1 := hB1.on hA
      replace hX := hX.below hA
      replace hY := hY.below hA
      replace hP := hP.below hA
      replace hQ := hQ.below hA
      clear hA
      go_wp2_with fail
      refine (same_true xa ya xn xc yn yc _ w9 hX hY).mono ?_
      rintro e w10 ⟨rfl, hA⟩
      replace hB1 := hB1.on hA
      replace hP := hP.below hA
      replace hQ := hQ.below hA
      clear hA
      go_wp2_with fail
      refine (same_true pa qa pn pc qn qc _ w10 hP hQ).mono ?_
      rintro e w11 ⟨rfl, hA⟩
      replace hB1 := hB1.on hA
      clear hA
      go_wp2_with fail
      go_ret
      exact ⟨rfl, hB1⟩
    · have t1 : (300 : Int) < (n1 : Int) := by omega
      go_enter Try.func3, Try.ntmps3
      go_wp2_with fail
      refine (sane11_any _).mono ?_
      rintro e w1 ⟨rfl, hB1⟩
      go_wp2_with fail
      go_ret
      exact ⟨rfl, hB1⟩
  · have t0 : (300 : Int) < (n0 : Int) := by omega
    go_enter Try.func3, Try.ntmps3
    go_wp2_with fail
    refine (sane11_any _).mono ?_
    rintro e w1 ⟨rfl, hB1⟩
    go_wp2_with fail
    go_ret
    exact ⟨rfl, hB1⟩
set_option maxRecDepth 100000 in
set_option maxHeartbeats 2000000 in
theorem lifted (os : Os) (started : os.Started) (H : Type) (enc : TypeId × Value → H) :
    ReturnsInHanded {} Try.checked os 3 .any (Rows.permsSpecSpec.pre6 enc Try.prog Try.f3 Rows.permsSpecRow.domain false) (Rows.permsSpecSpec.post enc Try.prog Try.f3 false true false false) := by
  refine returnsInHanded_of_change (C := Try.checked) row_own started (by kernel_rfl) Try.func3
    (ChangeSpec.witness6 (enc := enc) (C := Try.checked) false ⟨#[], #[.slice none 0 0, .slice none 0 0, .int .i64 0], []⟩ 8 (by kernel_rfl) (by kernel_rfl) (by kernel_rfl) (by kernel_rfl)) ?_
  intro W base args ds gs before hval0 hW _ _
  have hval : ∀ (j : Nat) t v, Try.f3.params[j]? = some t → args[j]? = some v → Value.okWide Try.prog W .any base t v := hval0
  have hW' := hW
  obtain ⟨p, q, hA0, hV, rfl, _, _⟩ := hW
  have hA : DataW.TrodAll enc Try.prog W 0 (fun _ => true) true Try.f3.params.toList args.toList ds p := hA0
  rw [Try.params3] at hA hval
  obtain ⟨v0, v1, v2, d0, d1, d2, p0, p1, p2, rfl, rfl, rfl, h0, h1, h2⟩ := trodAll_three hA
  obtain ⟨rfl, rfl⟩ := trodVars_none hV
  obtain ⟨a0, n0, c0, l0, rfl, h0', _⟩ := open_L (hval 0 22 v0 rfl rfl) h0
  obtain ⟨a1, n1, c1, l1, rfl, h1', _⟩ := open_L (hval 1 22 v1 rfl rfl) h1
  obtain ⟨n, rfl, rfl, rfl, _⟩ := open_int Try.underlying3 (hval 2 3 v2 rfl rfl) h2
  refine (lawSpec_any a0 a1 n0 c0 n1 c1 l0 l1 n W h0' h1').mono fun e W' ⟨he, hb⟩ => ?_
  subst he
  exact ⟨_, rfl, law_post hW' rfl rfl (by kernel_rfl) rfl hb⟩
set_option maxHeartbeats 2000000 in
theorem permsSpec_closed : joinedFacts Try.prog 3 Try.f3 Rows.permsSpecSpec Rows.permsSpecRow = true := by
  unfold joinedFacts
  refine bt (bt (bt (bt (bt (bt (bt (bt (bt (bt (bt (bt (bt (bt (bt (bt (bt (bt (bt (bt (bt (bt (bt (bt (bt (bt (bt (bt (bt (bt (bt ?a0 ?a1) ?a2) ?a3) ?a4) ?a5) ?a6) ?a7) ?a8) ?a9) ?a10) ?a11) ?a12) ?a13) ?a14) ?a15) ?a16) ?a17) ?a18) ?a19) ?a20) ?a21) ?a22) ?a23) ?a24) ?a25) ?a26) ?a27) ?a28) ?a29) ?a30) ?a31
  case a25 => exact prog_enter
  case a26 => exact prog_lifts
  case a27 => exact prog_make
  all_goals as_aux_lemma => kernel_rfl
theorem permsSpec_holds : Rows.PermsSpecSaid :=
  OpenClaim.holds_of_wide 3 Try.f3 rfl rfl rfl rfl rfl rfl rfl ⟨rfl, rfl, rfl, rfl, rfl⟩ rfl rfl rfl rfl rfl (by kernel_rfl) Try.func3 permsSpec_closed
    (of_decide_eq_true (by kernel_rfl)) (by unfold Func.isWrapper; rw [if_neg (of_decide_eq_false (by kernel_rfl))]; exact ⟨rfl, rfl⟩)
    (fun os started H enc _ => lifted os started H enc)
#print axioms permsSpec_holds
end Go.Proofs.Ytkekkbbdhdamjaa
