/- Closure and Orbits agree with the reference (law11.PermsClosureSpec), at every input. -/
import Derived.Test.YtkekkbbdhdamjaaLawP
import Derived.Test.YtkekkbbdhdamjaaROr
import Derived.WalkKit
import Derived.WalkSpells
import Derived.WalkLawsBesides
import Derived.Deep.LoopGhost
import Derived.Deep.QuietTactic
import Derived.BigQuiet
import Derived.StillTailTactics
import Derived.Lib.Hide
import Derived.Outline
import Derived.Lib.QuietBelow
namespace Go.Proofs.Ytkekkbbdhdamjaa
open Go.ChangeShapes Go.WideShapes Go.ChangeAt Go.RowKit Go.Deep

theorem sameAll_true (a0 a1 : Option Addr) (n0 c0 n1 c1 : Nat) (l : List (List Int)) (w : World) (h0 : Rows w a0 n0 c0 l) (h1 : Rows w a1 n1 c1 l) :
    Calls Try.prog 23 #[.slice a0 n0 c0, .slice a1 n1 c1] w fun e w' => e = .returned (.bool true) ∧ Below w.heap.size w w' := by
  refine (sameAll_any a0 a1 n0 c0 n1 c1 l l w h0 h1).mono ?_
  rintro e w' ⟨rfl, q, rfl⟩
  exact ⟨by simp, Below.drewN0 _ _⟩
set_option maxRecDepth 20000 in
set_option maxHeartbeats 4000000 in
theorem lawClo_any (n : Int) (a0 : Option Addr) (m c : Nat) (gens : List (List Int)) (W : World) (h0 : Rows W a0 m c gens) :
    Calls Try.prog 4 #[.int .i64 n, .slice a0 m c] W fun e w' => e = .returned (.bool true) ∧ Below W.heap.size W w' := by
  cases hf : fewB n gens
  · have HF := Lib.hid hf
    clear hf
    go_enter Try.func4, Try.ntmps4
    go_wp2_with fail
    refine (sane11_any _).mono ?_
    rintro e w1 ⟨rfl, hB1⟩
    go_wp2_with fail
    have hc := few_any n a0 m c gens w1 (h0.below hB1)
    rw [HF.out] at hc
    refine hc.mono ?_
    rintro e w2 ⟨rfl, rfl⟩
    clear hc
    go_wp2_with fail
    go_ret
    exact ⟨rfl, hB1⟩
  · have HF := Lib.hid hf
    clear hf
    obtain ⟨ce, hce⟩ : ∃ ce, closE n gens = ce := ⟨_, rfl⟩
    obtain ⟨ve, hve⟩ : ∃ ve, validE n gens = ve := ⟨_, rfl⟩
    have HE := Lib.hid (And.intro hce hve)
    clear hce hve
    go_enter Try.func4, Try.ntmps4
    go_wp2_with fail
    refine (sane11_any _).mono ?_
    rintro e w1 ⟨rfl, hB1⟩
    go_wp2_with fail
    have hc := few_any n a0 m c gens w1 (h0.below hB1)
    rw [HF.out] at hc
    refine hc.mono ?_
    rintro e w2 ⟨rfl, rfl⟩
    clear hc
    go_wp2_with fail
    refine (closure_any n a0 m c gens w2 (h0.below hB1)).mono ?_
    rintro e w3 ⟨la, ln, lc, rfl, hL, hA⟩
    rw [HE.out.1]
    replace hB1 := hB1.on hA
    clear hA
    go_wp2_with fail
    refine (rclosure_any n a0 m c gens w3 (h0.below hB1)).mono ?_
    rintro e w4 ⟨ma, mn, mc, rfl, hM, hA⟩
    rw [HE.out.1]
    replace hL := hL.below hA
    replace hB1 := hB1.on hA
    clear hA
    go_wp2_with fail
    refine (orbits_any n a0 m c gens w4 (h0.below hB1)).mono ?_
    rintro e w5 ⟨oa, on, oc, rfl, hO, hA⟩
    rw [HE.out.2]
    replace hL := hL.below hA
    replace hM := hM.below hA
    replace hB1 := hB1.on hA
    clear hA
    go_wp2_with fail
    refine (rorbits_any n a0 m c gens w5 (h0.below hB1)).mono ?_
    rintro e w6 ⟨pa, pn, pc, rfl, hP, hA⟩
    rw [HE.out.2]
    replace hL := hL.below hA
    replace hM := hM.below hA
    replace hO := hO.below hA
    replace hB1 := hB1.on hA
    clear hA
    go_wp2_with fail
    refine (sameAll_true la ma ln lc mn mc _ w6 hL hM).mono ?_
    rintro e w7 ⟨rfl, hA⟩
    replace hO := hO.below hA
    replace hP := hP.below hA
    replace hB1 := hB1.on hA
    clear hA
    go_wp2_with fail
    refine (sameAll_true oa pa on oc pn pc _ w7 hO hP).mono ?_
    rintro e w8 ⟨rfl, hA⟩
    replace hB1 := hB1.on hA
    clear hA
    go_wp2_with fail
    go_ret
    exact ⟨rfl, hB1⟩

set_option maxRecDepth 100000 in
set_option maxHeartbeats 2000000 in
theorem lifted (os : Os) (started : os.Started) (H : Type) (enc : TypeId × Value → H) :
    ReturnsInHanded {} Try.checked os 4 .any (Rows.permsClosureSpecSpec.pre6 enc Try.prog Try.f4 Rows.permsClosureSpecRow.domain false) (Rows.permsClosureSpecSpec.post enc Try.prog Try.f4 false true false false) := by
  refine returnsInHanded_of_change (C := Try.checked) row_own started (by kernel_rfl) Try.func4
    (ChangeSpec.witness6 (enc := enc) (C := Try.checked) false ⟨#[], #[.int .i64 0, .slice none 0 0], []⟩ 8 (by kernel_rfl) (by kernel_rfl) (by kernel_rfl) (by kernel_rfl)) ?_
  intro W base args ds gs before hval0 hW _ _
  have hval : ∀ (j : Nat) t v, Try.f4.params[j]? = some t → args[j]? = some v → Value.okWide Try.prog W .any base t v := hval0
  have hW' := hW
  obtain ⟨p, q, hA0, hV, rfl, _, _⟩ := hW
  have hA : DataW.TrodAll enc Try.prog W 0 (fun _ => true) true Try.f4.params.toList args.toList ds p := hA0
  rw [Try.params4] at hA hval
  obtain ⟨v0, v1, d0, d1, p0, p1, rfl, rfl, rfl, h0, h1⟩ := trodAll_two hA
  obtain ⟨rfl, rfl⟩ := trodVars_none hV
  obtain ⟨n, rfl, rfl, rfl, _⟩ := open_int Try.underlying3 (hval 0 3 v0 rfl rfl) h0
  obtain ⟨a1, n1, c1, ll1, rfl, h1', _⟩ := open_LL (hval 1 31 v1 rfl rfl) h1
  refine (lawClo_any n a1 n1 c1 ll1 W h1').mono fun e W' ⟨he, hb⟩ => ?_
  subst he
  exact ⟨_, rfl, law_post hW' rfl rfl (by kernel_rfl) rfl hb⟩
set_option maxHeartbeats 2000000 in
theorem permsClosureSpec_closed : joinedFacts Try.prog 4 Try.f4 Rows.permsClosureSpecSpec Rows.permsClosureSpecRow = true := by
  unfold joinedFacts
  refine bt (bt (bt (bt (bt (bt (bt (bt (bt (bt (bt (bt (bt (bt (bt (bt (bt (bt (bt (bt (bt (bt (bt (bt (bt (bt (bt (bt (bt (bt (bt ?a0 ?a1) ?a2) ?a3) ?a4) ?a5) ?a6) ?a7) ?a8) ?a9) ?a10) ?a11) ?a12) ?a13) ?a14) ?a15) ?a16) ?a17) ?a18) ?a19) ?a20) ?a21) ?a22) ?a23) ?a24) ?a25) ?a26) ?a27) ?a28) ?a29) ?a30) ?a31
  case a25 => exact prog_enter
  case a26 => exact prog_lifts
  case a27 => exact prog_make
  all_goals as_aux_lemma => kernel_rfl
theorem permsClosureSpec_holds : Rows.PermsClosureSpecSaid :=
  OpenClaim.holds_of_wide 4 Try.f4 rfl rfl rfl rfl rfl rfl rfl ⟨rfl, rfl, rfl, rfl, rfl⟩ rfl rfl rfl rfl rfl (by kernel_rfl) Try.func4 permsClosureSpec_closed
    (of_decide_eq_true (by kernel_rfl)) (by unfold Func.isWrapper; rw [if_neg (of_decide_eq_false (by kernel_rfl))]; exact ⟨rfl, rfl⟩)
    (fun os started H enc _ => lifted os started H enc)
#print axioms permsClosureSpec_holds
end Go.Proofs.Ytkekkbbdhdamjaa
