/- RulingsOrder: lifted to the row: at every input that the row names the law returns true. -/
import Derived.Test.YtehoidohallfcaaGreatDoorLOrd
import Derived.Test.YtehoidohallfcaaGreatDoorShp54
import Derived.JoinedOf
namespace Go.Proofs.YtehoidohallfcaaGreatDoor
open Go.ChangeShapes Go.WideShapes Go.ChangeAt Go.RowKit Go.Deep
section
variable {H : Type} {enc : TypeId × Value → H} {W : World} {v : Value} {d : DataW H} {p : List MemPlace} {base : Nat}
theorem cells_u8 : Tryz.prog.cellsOf 5 = 1 := by kernel_rfl
theorem wf_u8 {x : Int} (h : (Lit.int .u8 x).wf = true) : 0 ≤ x ∧ x < 256 := by
  have e1 : IntKind.u8.min = 0 := rfl
  have e2 : IntKind.u8.max = 255 := rfl
  have : 0 ≤ x ∧ x ≤ 255 := by simpa [Lit.wf, e1, e2] using h
  omega
set_option maxRecDepth 100000 in
theorem leaf_u8 {n : Nat} {cs : List Value} {x : DataW H × List MemPlace} (h : DataW.trod enc Tryz.prog W 0 (fun _ => true) true n 5 cs = some x) : ∃ f : Nat, cs = encB f ∧ f < 256 := by
  obtain ⟨z, h1, _, h2⟩ := DataW.trod_int Tryz.underlying5 h
  obtain ⟨h3, h4⟩ := wf_u8 h2
  refine ⟨z.toNat, ?_, by omega⟩
  rw [h1]
  unfold encB
  rw [Int.toNat_of_nonneg h3]
set_option maxRecDepth 100000 in
theorem open_u8s (hval : Value.okWide Tryz.prog W .any base 46 v) (hd : DataW.Trod enc Tryz.prog W 0 (fun _ => true) true 46 v d p) : ∃ a n c l, v = .slice a n c ∧ SL encB 1 W a n c l ∧ ∀ x ∈ l, x < 256 := by
  obtain ⟨a0, n0, c0, rfl⟩ := okWide_slice Tryz.underlying46 hval
  obtain ⟨fuel, hf⟩ := hd
  obtain ⟨a, n, c, l, e, h, hg⟩ := leaf_SL (ok := fun f : Nat => f < 256) encB_len (by decide) Tryz.underlying46 cells_u8 leaf_u8 hf
  simp [Value.cells] at e
  obtain ⟨rfl, rfl, rfl⟩ := e
  exact ⟨_, _, _, l, rfl, h, hg⟩
end
set_option maxRecDepth 100000 in
set_option maxHeartbeats 4000000 in
theorem ord_lifted (os : Os) (started : os.Started) (H : Type) (enc : TypeId × Value → H) :
    ReturnsInHanded {} Tryz.checked os 5 .any (fun w args => (Rows.rulingsOrderSpec.pre enc Tryz.prog Tryz.f5 [] false w args ∧ laidMetH Tryz.prog LL w) ∧ sizedMet enc Tryz.prog Tryz.f5 (OpenSpec.ofChange Rows.rulingsOrderSpec) false w args) (Rows.rulingsOrderSpec.post enc Tryz.prog Tryz.f5 false true false false) := by
  refine returnsInHanded_of_change_and (C := Tryz.checked) (X := fun w _ => laidMetH Tryz.prog LL w) (fun _ _ _ hh h => h.of_heap hh) row_own started (by as_aux_lemma => kernel_rfl) Tryz.func5
    (ChangeSpec.witness_shaped (enc := enc) (C := Tryz.checked) (os := os) (X := fun w _ => laidMetH Tryz.prog LL w) false (World.doorLaid Tryz.prog 400 os) #[.agg #[.int .i64 0, .int .i64 0, .slice none 0 0, .slice none 0 0, .slice none 0 0, .slice none 0 0], .slice none 0 0, .slice none 0 0, .int .i64 0, .slice none 0 0] 8 rfl (door_shaped os _) (by as_aux_lemma => kernel_rfl) (by as_aux_lemma => kernel_rfl) (by as_aux_lemma => kernel_rfl) (door_met os _)) ?_
  intro W base args ds gs before hval0 hW _ _ hL _
  have hval : ∀ (j : Nat) t v, Tryz.f5.params[j]? = some t → args[j]? = some v → Value.okWide Tryz.prog W .any base t v := hval0
  have hW' := hW
  obtain ⟨p, q, hA0, hV, rfl, _, _⟩ := hW
  have hA : DataW.TrodAll enc Tryz.prog W 0 (fun _ => true) true Tryz.f5.params.toList args.toList ds p := hA0
  rw [Tryz.params5] at hA hval
  obtain ⟨rfl, rfl⟩ := trodVars_none hV
  have hTab : Tab W := tab_of_laid hL
  obtain ⟨v0, v1, v2, v3, v4, d0, d1, d2, d3, d4, p0, p1, p2, p3, p4, rfl, rfl, rfl, h0, h1, h2, h3, h4⟩ := trodAll_five hA
  (obtain ⟨S, rfl, hS0⟩ := open_sheet (hval 0 25 _ rfl rfl) h0)
  (obtain ⟨a1, n1, c1, l1, rfl, hR1⟩ := open_rss (hval 1 26 _ rfl rfl) h1)
  (obtain ⟨a2, n2, c2, l2, rfl, hF2, hG2⟩ := open_fts (hval 2 27 _ rfl rfl) h2)
  (obtain ⟨z3, rfl, rfl, rfl, _⟩ := open_int Tryz.underlying3 (hval 3 3 _ rfl rfl) h3)
  obtain ⟨a4, n4, c4, l4, rfl, hB4, hG4⟩ := open_u8s (hval 4 46 _ rfl rfl) h4
  refine (lawOrder_any S a1 n1 c1 l1 a2 n2 c2 l2 z3 a4 n4 c4 l4 W hTab hS0 hR1 hF2 hG2 hB4 hG4).mono fun e W' ⟨he, hb⟩ => ?_
  subst he
  exact ⟨_, rfl, law_post hW' rfl rfl (by as_aux_lemma => kernel_rfl) rfl hb⟩
end Go.Proofs.YtehoidohallfcaaGreatDoor

