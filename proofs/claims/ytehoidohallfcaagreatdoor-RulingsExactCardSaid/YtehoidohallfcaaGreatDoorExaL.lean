/- RulingsExact: lifted to the row: at every input that the row names the law returns true. -/
import Derived.Test.YtehoidohallfcaaGreatDoorLExa
import Derived.Test.YtehoidohallfcaaGreatDoorShp54
import Derived.JoinedOf
namespace Go.Proofs.YtehoidohallfcaaGreatDoor
open Go.ChangeShapes Go.WideShapes Go.ChangeAt Go.RowKit Go.Deep
set_option maxRecDepth 100000 in
set_option maxHeartbeats 4000000 in
theorem exa_lifted (os : Os) (started : os.Started) (H : Type) (enc : TypeId × Value → H) :
    ReturnsInHanded {} Tryz.checked os 8 .any (fun w args => (Rows.rulingsExactSpec.pre enc Tryz.prog Tryz.f8 [] false w args ∧ laidMetH Tryz.prog LL w) ∧ sizedMet enc Tryz.prog Tryz.f8 (OpenSpec.ofChange Rows.rulingsExactSpec) false w args) (Rows.rulingsExactSpec.post enc Tryz.prog Tryz.f8 false true false false) := by
  refine returnsInHanded_of_change_and (C := Tryz.checked) (X := fun w _ => laidMetH Tryz.prog LL w) (fun _ _ _ hh h => h.of_heap hh) row_own started (by as_aux_lemma => kernel_rfl) Tryz.func8
    (ChangeSpec.witness_shaped (enc := enc) (C := Tryz.checked) (os := os) (X := fun w _ => laidMetH Tryz.prog LL w) false (World.doorLaid Tryz.prog 400 os) #[.agg #[.int .i64 0, .int .i64 0, .slice none 0 0, .slice none 0 0, .slice none 0 0, .slice none 0 0], .slice none 0 0, .slice none 0 0, .int .i64 0] 8 rfl (door_shaped os _) (by as_aux_lemma => kernel_rfl) (by as_aux_lemma => kernel_rfl) (by as_aux_lemma => kernel_rfl) (door_met os _)) ?_
  intro W base args ds gs before hval0 hW _ _ hL _
  have hval : ∀ (j : Nat) t v, Tryz.f8.params[j]? = some t → args[j]? = some v → Value.okWide Tryz.prog W .any base t v := hval0
  have hW' := hW
  obtain ⟨p, q, hA0, hV, rfl, _, _⟩ := hW
  have hA : DataW.TrodAll enc Tryz.prog W 0 (fun _ => true) true Tryz.f8.params.toList args.toList ds p := hA0
  rw [Tryz.params8] at hA hval
  obtain ⟨rfl, rfl⟩ := trodVars_none hV
  have hTab : Tab W := tab_of_laid hL
  obtain ⟨v0, v1, v2, v3, d0, d1, d2, d3, p0, p1, p2, p3, rfl, rfl, rfl, h0, h1, h2, h3⟩ := trodAll_four hA
  (obtain ⟨S, rfl, hS0⟩ := open_sheet (hval 0 25 _ rfl rfl) h0)
  (obtain ⟨a1, n1, c1, l1, rfl, hR1⟩ := open_rss (hval 1 26 _ rfl rfl) h1)
  (obtain ⟨a2, n2, c2, l2, rfl, hF2, hG2⟩ := open_fts (hval 2 27 _ rfl rfl) h2)
  (obtain ⟨z3, rfl, rfl, rfl, _⟩ := open_int Tryz.underlying3 (hval 3 3 _ rfl rfl) h3)
  refine (lawExact_any S a1 n1 c1 l1 a2 n2 c2 l2 z3 W hTab hS0 hR1 hF2 hG2).mono fun e W' ⟨he, hb⟩ => ?_
  subst he
  exact ⟨_, rfl, law_post hW' rfl rfl (by as_aux_lemma => kernel_rfl) rfl hb⟩
end Go.Proofs.YtehoidohallfcaaGreatDoor

