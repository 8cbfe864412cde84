/- RulingsChangesSpec: lifted to the row: at every input that the row names the law returns true. -/
import Derived.Test.YtehoidohallfcaaGreatDoorLChs
import Derived.Test.YtehoidohallfcaaGreatDoorRowR
import Derived.Test.YtehoidohallfcaaGreatDoorDoX
import Derived.Test.YtehoidohallfcaaGreatDoorChsX
import Derived.Test.YtehoidohallfcaaGreatDoorCards
namespace Go.Proofs.YtehoidohallfcaaGreatDoor
open Go.ChangeShapes Go.WideShapes Go.ChangeAt Go.RowKit Go.Deep
set_option maxRecDepth 100000 in
set_option maxHeartbeats 4000000 in
theorem chs_lifted (os : Os) (started : os.Started) (H : Type) (enc : TypeId × Value → H) :
 ReturnsInHanded {} Tryz.checked os 4 .any (fun w args => (Rows.rulingsChangesSpecSpec.pre enc Tryz.prog Tryz.f4 [] false w args ∧ laidMetH Tryz.prog LL w) ∧ sizedMet enc Tryz.prog Tryz.f4 (OpenSpec.ofChange Rows.rulingsChangesSpecSpec) false w args) (Rows.rulingsChangesSpecSpec.post enc Tryz.prog Tryz.f4 false true false false) := by
 refine returnsInHanded_of_change_and (C := Tryz.checked) (X := fun w _ => laidMetH Tryz.prog LL w) (fun _ _ _ hh h => h.of_heap hh) row_own started (by as_aux_lemma => kernel_rfl) Tryz.func4
  (ChangeSpec.witness_shaped (enc := enc) (C := Tryz.checked) (os := os) (X := fun w _ => laidMetH Tryz.prog LL w) false (World.doorLaid Tryz.prog 400 os) #[.agg #[.int .i64 0, .int .i64 0, .slice none 0 0, .slice none 0 0, .slice none 0 0, .slice none 0 0], .slice none 0 0, .slice none 0 0, .int .i64 0, .int .i64 0] 8 rfl (door_shaped os _) (by as_aux_lemma => kernel_rfl) (by as_aux_lemma => kernel_rfl) (by as_aux_lemma => kernel_rfl) (door_met os _)) ?_
 intro W base args ds gs before hval0 hW _ _ hL _
 have hval : ∀ (j : Nat) t v, Tryz.f4.params[j]? = some t → args[j]? = some v → Value.okWide Tryz.prog W .any base t v := hval0
 have hW' := hW
 obtain ⟨p, q, hA0, hV, rfl, _, _⟩ := hW
 have hA : DataW.TrodAll enc Tryz.prog W 0 (fun _ => true) true Tryz.f4.params.toList args.toList ds p := hA0
 rw [Tryz.params4] at hA hval
 obtain ⟨rfl, rfl⟩ := trodVars_none hV
 have hTab : Tab W := tab_of_laid hL
 obtain ⟨v0, v1, v2, v3, v4, d0, d1, d2, d3, d4, p0, p1, p2, p3, p4, rfl, rfl, rfl, h0, h1, h2, h3, h4⟩ := trodAll_five hA
 (obtain ⟨S, rfl, hS0, hW0⟩ := open_sheetR (hval 0 25 _ rfl rfl) h0)
 (obtain ⟨a1, n1, c1, l1, rfl, hR1⟩ := open_rss (hval 1 26 _ rfl rfl) h1)
 (obtain ⟨a2, n2, c2, l2, rfl, hF2, hG2⟩ := open_fts (hval 2 27 _ rfl rfl) h2)
 (obtain ⟨z3, rfl, rfl, rfl, _⟩ := open_int Tryz.underlying3 (hval 3 3 _ rfl rfl) h3)
 (obtain ⟨z4, rfl, rfl, rfl, _⟩ := open_int Tryz.underlying3 (hval 4 3 _ rfl rfl) h4)
 refine (lawChangesSpec_any S a1 n1 c1 l1 a2 n2 c2 l2 z3 z4 W hTab hS0 hW0 hR1 hF2 hG2).mono fun e W' ⟨he, hb⟩ => ?_
 subst he
 exact ⟨_, rfl, law_post hW' rfl rfl (by as_aux_lemma => kernel_rfl) rfl hb⟩
open Go.ChangeShapes Go.WideShapes Go.ChangeAt Go.RowKit Go.Deep
theorem chs_holds : Rows.RulingsChangesSpecSaid :=
 OpenClaim.holds_of_wide 4 Tryz.f4 rfl rfl rfl rfl rfl rfl rfl ⟨rfl, rfl, rfl, rfl, rfl⟩ rfl rfl rfl rfl rfl (by as_aux_lemma => kernel_rfl) Tryz.func4 chs_closed
  (of_decide_eq_true (by as_aux_lemma => kernel_rfl)) (by unfold Func.isWrapper; rw [if_neg (of_decide_eq_false (by as_aux_lemma => kernel_rfl))]; exact ⟨rfl, rfl⟩)
  (fun os started H enc _ => chs_lifted os started H enc)
open Go
theorem noOwn : Tryz.pinned.checked.prog.headLifts.contains "ownunsafe" = false := by kernel_rfl
theorem chs_tie : Rows.rulingsChangesSpecRow.laidByTextAt .later Tryz.pinned [.data, .data, .data, .data, .data] true := OpenClaim.laidByTextAt_later rfl rfl tie noOwn
theorem card_main : Tryz.pinned.checked.prog.mainIs = some (true, "944011c6dae1c6462c2d86ce3845212ac4123212bd88fd8d2b6cd3388951f39f".toList) := by kernel_rfl
theorem card_looks : true = Tryz.prog.looks [] := by kernel_rfl
theorem card_wants : ([25, 26, 27, 3].all fun u => !Tryz.prog.wantsStandIn u) = true := by kernel_rfl
theorem chs_wf : Rows.rulingsChangesSpecRow.wfByText (OpenSpec.ofChange Rows.rulingsChangesSpecSpec) = true := by kernel_rfl
theorem chs_named : Tryz.prog.funcNamed "gridwright/gridwrightlaw54.RulingsChangesSpec" = some 4 := by kernel_rfl
theorem chs_goes : false = Rows.rulingsChangesSpecRow.goesBy Tryz.pinned.checked.prog := by
 show false = (((Tryz.prog.funcNamed "gridwright/gridwrightlaw54.RulingsChangesSpec").any Tryz.prog.goes) || false)
 rw [chs_named, Option.any_some, prog_goes]
 rfl
theorem chs_card : Rows.RulingsChangesSpecCardSaid :=
 Claim7.holds_tied_plain_at .later [] [.data, .data, .data, .data, .data] true (true, "944011c6dae1c6462c2d86ce3845212ac4123212bd88fd8d2b6cd3388951f39f") true
  chs_holds (fun _ h => by cases h) chs_wf (fun _ h => by cases h) chs_tie rfl ⟨rfl, rfl⟩ card_main rfl
  (fun f fn hf hfn => by
   obtain rfl : f = 4 := Option.some.inj (chs_named.symm.trans hf) |>.symm
   obtain rfl : fn = Tryz.f4 := (Option.some.inj (Tryz.func4.symm.trans hfn)).symm
   exact ⟨card_looks, fun j t ht => by
    rw [Tryz.params4] at ht
    have hm : t ∈ [25, 26, 27, 3] := by
     have := Array.mem_of_getElem? ht
     simp at this ⊢
     omega
    exact (show Tryz.prog.wantsStandIn t = false by simpa using List.all_eq_true.1 card_wants t hm)⟩)
  chs_goes
#print axioms chs_card
end Go.Proofs.YtehoidohallfcaaGreatDoor
