/- At and Points agree with the reference (law04.FactsAtSpec), at every input. -/
import Derived.Test.YtfhekhjojdhmhaaSane4
import Derived.Test.YtfhekhjojdhmhaaRow4
import Derived.Test.YtfhekhjojdhmhaaHeadF
import Derived.Test.YtfhekhjojdhmhaaL4Pts
import Derived.Test.YtfhekhjojdhmhaaL4Key
import Derived.WalkKit
import Derived.WalkSpells
import Derived.WalkLawsBesides
import Derived.Deep.LoopGhost
import Derived.Deep.QuietTactic
import Derived.BigQuiet
import Derived.StillTailTactics
import Derived.Lib.Hide
import Derived.Outline
import Derived.Lib.QuietBelow
namespace Go.Proofs.Ytfhekhjojdhmhaa
open Go.RowKit

set_option maxRecDepth 20000 in
set_option maxHeartbeats 4000000 in
theorem lawAt_any (a0 : Option Addr) (n0 c0 : Nat) (l : List Fact) (k : Key) (fr til kn : Int) (W : World) (h0 : SL encF 8 W a0 n0 c0 l) :
    Calls Try.prog 4 #[.slice a0 n0 c0, keyV k, .int .i64 fr, .int .i64 til, .int .i64 kn] W fun e w' => e = .returned (.bool true) ∧ Below W.heap.size W w' := by
  have hal : Below W.heap.size W (W.alloc (.cells #[.int .i64 k.kd, .int .i64 k.sb, .int .i64 k.ob] 24)) := (Below.refl _ _).alloc (Nat.le_refl _) _
  have HBX := Box.new W #[.int .i64 k.kd, .int .i64 k.sb, .int .i64 k.ob] 24
  obtain ⟨w0, hw0⟩ : ∃ w0, (W.alloc (.cells #[.int .i64 k.kd, .int .i64 k.sb, .int .i64 k.ob] 24)) = w0 := ⟨_, rfl⟩
  rw [hw0] at hal HBX
  have HW := Lib.hid hw0
  have h0W := h0.below hal
  cases hf : decide (l.length ≤ 30)
  · skip
    have HF := Lib.hid hf
    clear hf hw0
    go_enter Try.func4, Try.ntmps4
    go_wp2_with fail
    rw [HW.out]
    refine (sane04_any _).mono ?_
    rintro e w1 ⟨rfl, hB1⟩
    go_wp2_with fail
    have hc := few04_any _ _ c0 l w1 (h0W.below hB1)
    rw [HF.out] at hc
    refine hc.mono ?_
    rintro e w2 ⟨rfl, rfl⟩
    clear hc
    replace HBX := HBX.below hB1
    replace hal := hal.on hB1
    clear h0W hB1
    go_wp2_with fail
    go_ret
    exact ⟨rfl, hal⟩
  · have hn : n0 ≤ 30 := by have := of_decide_eq_true hf; rw [h0.len] at this; exact this
    have HF := Lib.hid hf
    clear hf hw0
    obtain ⟨i3k, hi3, hz30, hz31, hz32⟩ := info3k
    by_cases hp : 0 < n0
    · have t0 : (0 : Int) < (n0 : Int) := by omega
      obtain ⟨b0, o0, rfl, hb0⟩ := h0.at' hp
      obtain ⟨x, hx⟩ := h0.get (i := 0) (by omega)
      obtain ⟨y, hy⟩ := h0.get (i := n0 - 1) (by omega)
      go_enter Try.func4, Try.ntmps4
      go_wp2_with fail
      rw [HW.out]
      refine (sane04_any _).mono ?_
      rintro e w1 ⟨rfl, hB1⟩
      go_wp2_with fail
      have hc := few04_any _ _ c0 l w1 (h0W.below hB1)
      rw [HF.out] at hc
      refine hc.mono ?_
      rintro e w2 ⟨rfl, rfl⟩
      clear hc
      replace HBX := HBX.below hB1
      replace hal := hal.on hB1
      clear h0W hB1
      obtain ⟨q0, q1, q2⟩ := Box3 HBX
      go_wp2_with fail
      have t6 : (n0 : Int) - 1 < n0 := by omega
      have t7 : ((n0 : Int) - 1).toNat = n0 - 1 := by omega
      have t8 : (0 : Int) ≤ (n0 : Int) - 1 := by omega
      have t10 : (1 : Int) ≤ (n0 : Int) := by omega
      have hw1 : IntKind.i64.wrap ((n0 : Int) - 1) = (n0 : Int) - 1 := by rw [IntKind.wrap_i64]; omega
      have hown := ownsRow_mono' (own_one w2 k) (base' := W.heap.size) hal.size
      obtain ⟨wk, hwk, hbk⟩ : ∃ wk, w2.alloc (.cells #[.int .i64 k.kd, .int .i64 k.sb, .int .i64 k.ob] 24) = wk ∧ Below w2.heap.size w2 wk := ⟨_, rfl, (Below.refl _ _).alloc (Nat.le_refl _) _⟩
      rw [hwk] at hown ⊢
      have hws := hal.size
      have hks := hbk.size
      replace hal := hal.on hbk
      clear hwk q0 q1 q2 HBX hbk
      have HS := Lib.hid (fun (w' : World) (hw' : Below W.heap.size W w') => (show At3 w' b0 o0 x.key ∧ At3 w' b0 (o0 + (n0 - 1) * 8) y.key ∧ Below W.heap.size W w' from ⟨by have := (h0.below hw').fact hx; rw [Nat.zero_mul, Nat.add_zero] at this; exact ⟨this.1, this.2.1, this.2.2.1⟩, by have := (h0.below hw').fact hy; exact ⟨this.1, this.2.1, this.2.2.1⟩, hw'⟩))
      clear hx hy
      go_region_held3 (fun w' => (w'.cell? ⟨b0, o0, none⟩ = some (.int .i64 x.kd) ∧ w'.cell? ⟨b0, o0 + 1, none⟩ = some (.int .i64 x.sb) ∧ w'.cell? ⟨b0, o0 + 2, none⟩ = some (.int .i64 x.ob)) ∧ (w'.cell? ⟨b0, o0 + (n0 - 1) * 8, none⟩ = some (.int .i64 y.kd) ∧ w'.cell? ⟨b0, o0 + (n0 - 1) * 8 + 1, none⟩ = some (.int .i64 y.sb) ∧ w'.cell? ⟨b0, o0 + (n0 - 1) * 8 + 2, none⟩ = some (.int .i64 y.ob)) ∧ Below W.heap.size W w')
        (first | exact HS.out _ hal | exact HS.out _ hal.drew | exact HS.out _ (hal.alloc (by omega) _) | exact HS.out _ (hal.alloc (by omega) _).drew | exact HS.out _ (((hal.alloc (by omega) _).drew).grown hgrow (by simp; omega) (fun q e => (World.ownsRow.lt hown q e).1)) | exact HS.out _ (((hal.alloc (by omega) _)).grown hgrow (by simp; omega) (fun q e => (World.ownsRow.lt hown q e).1)))
        (first | ((refine step_append_own2 rfl _ _ 37 rfl W.heap.size 24 i3k _ 3 24 Try.underlying37 hi3 hz30 hz31 hz32 rfl (by decide) _ 1 (encK k) (by first | exact hown | exact ownsRow_below' hown (by first | exact ((Below.refl _ _).alloc (Nat.le_refl _) _).drew | exact ((Below.refl _ _).drew).alloc (Nat.le_refl _) _ | exact (Below.refl _ _).alloc (Nat.le_refl _) _)) rfl ⟨_, 0, none⟩ 2 2 (encK x.key ++ encK y.key) rfl rfl (by first | exact new_any rfl | exact new_anyd rfl) (by intro u hu; simp [encK] at hu; rcases hu with rfl | rfl | rfl | rfl | rfl | rfl <;> rfl) (by decide) (by decide) (by simp; omega) ?_; intro v' w5 hown' hgrow hfr)))
      have hal5 : Below W.heap.size W w5 := (‹_ ∧ _ ∧ Below W.heap.size W w5›).2.2
      obtain ⟨ka, kc, hv3, hKS⟩ := (own3 hown').sl encK_len
      replace hv3 : v' = .slice ka 3 kc := hv3
      subst hv3
      replace hKS : SL encK 3 w5 ka 3 kc [k, x.key, y.key] := hKS
      clear hown hown' hgrow hfr hal HS t6 t7 t8 t10 hw1 hws hks
      go_wp2_with fail
      go_loopw [12] (fun i wr => ∃ j : Nat, i = .int .i64 j ∧ j ≤ 3 ∧ Below w5.heap.size w5 wr) (fun i _ => 3 - (intOf i).toNat)
      case atStart => exact ⟨0, rfl, by omega, Below.refl _ _⟩
      case round =>
        obtain ⟨j, rfl, hj, hB⟩ := hrel
        by_cases hlt : j < 3
        · have s1 : (j : Int) < 3 := by omega
          have s0 : (0 : Int) ≤ (j : Int) := by omega
          obtain ⟨kb, ko, rfl, hkb⟩ := hKS.at' (by omega)
          obtain ⟨kk, hkk⟩ := hKS.get hlt
          obtain ⟨e0, e1, e2⟩ := (hKS.below hB).keyC hkk
          go_wp2_with fail
          refine (at_any _ _ c0 l kk fr kn wr (h0.below (hal5.on hB))).mono ?_
          rintro e w6 ⟨rfl, hb⟩
          replace hB := hB.on hb
          clear hb e0 e1 e2
          obtain ⟨e0, e1, e2⟩ := (hKS.below hB).keyC hkk
          go_wp2_with fail
          refine (rat_any _ _ c0 l kk fr kn w6 (h0.below (hal5.on hB))).mono ?_
          rintro e w7 ⟨rfl, hb⟩
          replace hB := hB.on hb
          clear hb e0 e1 e2
          have hA3 : At3 w7 kb (ko + j * 3) kk := (hKS.below hB).keyC hkk
          obtain ⟨av, hav⟩ : ∃ av, atV l kk fr kn = av := ⟨_, rfl⟩
          obtain ⟨ao, hao⟩ : ∃ ao, atOk l kk fr kn = ao := ⟨_, rfl⟩
          rw [hav, hao]
          have s2 : (av != av) = false := by simp
          have s3 : (ao != ao) = false := by simp
          have HP := Lib.hid (fun (V : World) (hV : Below w7.heap.size w7 V) => (points_any _ _ c0 l kk fr til kn V (h0.below ((hal5.on hB).on hV))).mono (fun e w' h => RetPts.of h))
          have HR := Lib.hid (fun (V : World) (hV : Below w7.heap.size w7 V) => (rpoints_any _ _ c0 l kk fr til kn V (h0.below ((hal5.on hB).on hV))).mono (fun e w' h => RetPts.of h))
          clear hav hao hkk
          go_wp2_with fail
          go_region_held3 (fun w' => (w'.cell? ⟨kb, ko + j * 3, none⟩ = some (.int .i64 kk.kd) ∧ w'.cell? ⟨kb, ko + j * 3 + 1, none⟩ = some (.int .i64 kk.sb) ∧ w'.cell? ⟨kb, ko + j * 3 + 2, none⟩ = some (.int .i64 kk.ob)) ∧ Below w7.heap.size w7 w')
            (first | exact ⟨hA3, (Below.refl _ _).drew⟩ | exact keep3K (by assumption) (by assumption) | exact keep3K (by assumption) (Below.drewN0 _ _))
            (first | (go_at_call 21; refine (HP.out _ (by go_split_ands; assumption)).mono ?_; rintro e w' ⟨pa, pn, pc, rfl, hS1, hb⟩) | (go_at_call 22; refine (HR.out _ (by go_split_ands; assumption)).mono ?_; rintro e w' ⟨pa', pn', pc', rfl, hS2, hb⟩) | (go_at_call 20; refine (samePts_true _ _ _ _ _ _ _ _ (by first | assumption | exact SL.below (by assumption) (by assumption)) (by first | assumption | exact SL.below (by assumption) (by assumption))).mono ?_; rintro e w' ⟨rfl, q, rfl⟩))
          have hF : Below w5.heap.size w5 (w'.drewN q) := hB.on (‹_ ∧ Below w7.heap.size w7 (w'.drewN q)›).2
          go_wp2_with fail
          go_roundw
          case rel => exact ⟨j + 1, by go_num, by omega, hF⟩
          case measure => simp [intOf]; omega
        · obtain rfl : j = 3 := by omega
          go_wp2_with fail
          go_ret
          exact ⟨rfl, hal5.on hB⟩
    · obtain rfl : n0 = 0 := by omega
      go_enter Try.func4, Try.ntmps4
      go_wp2_with fail
      rw [HW.out]
      refine (sane04_any _).mono ?_
      rintro e w1 ⟨rfl, hB1⟩
      go_wp2_with fail
      have hc := few04_any _ _ c0 l w1 (h0W.below hB1)
      rw [HF.out] at hc
      refine hc.mono ?_
      rintro e w2 ⟨rfl, rfl⟩
      clear hc
      replace HBX := HBX.below hB1
      replace hal := hal.on hB1
      clear h0W hB1
      obtain ⟨q0, q1, q2⟩ := Box3 HBX
      clear HBX
      go_wp2_with fail
      have hal5 := hal.alloc hal.size (.cells #[.int .i64 k.kd, .int .i64 k.sb, .int .i64 k.ob] 24)
      have hKS : SL encK 3 (w2.alloc (.cells #[.int .i64 k.kd, .int .i64 k.sb, .int .i64 k.ob] 24)) (some ⟨w2.heap.size, 0, none⟩) 1 1 [k] := SL.box encK_len [k] (Box.new _ _ _) rfl rfl (by decide)
      obtain ⟨w5, hw5⟩ : ∃ w5, w2.alloc (.cells #[.int .i64 k.kd, .int .i64 k.sb, .int .i64 k.ob] 24) = w5 := ⟨_, rfl⟩
      rw [hw5] at hal5 hKS ⊢
      obtain ⟨ka, hka⟩ : ∃ ka, some (⟨w2.heap.size, 0, none⟩ : Addr) = ka := ⟨_, rfl⟩
      rw [hka] at hKS ⊢
      clear hka hw5 q0 q1 q2 hal
      go_loopw [12] (fun i wr => ∃ j : Nat, i = .int .i64 j ∧ j ≤ 1 ∧ Below w5.heap.size w5 wr) (fun i _ => 1 - (intOf i).toNat)
      case atStart => exact ⟨0, rfl, by omega, Below.refl _ _⟩
      case round =>
        obtain ⟨j, rfl, hj, hB⟩ := hrel
        by_cases hlt : j < 1
        · have s1 : (j : Int) < 1 := by omega
          have s0 : (0 : Int) ≤ (j : Int) := by omega
          obtain ⟨kb, ko, rfl, hkb⟩ := hKS.at' (by omega)
          obtain ⟨kk, hkk⟩ := hKS.get hlt
          obtain ⟨e0, e1, e2⟩ := (hKS.below hB).keyC hkk
          go_wp2_with fail
          refine (at_any _ _ c0 l kk fr kn wr (h0.below (hal5.on hB))).mono ?_
          rintro e w6 ⟨rfl, hb⟩
          replace hB := hB.on hb
          clear hb e0 e1 e2
          obtain ⟨e0, e1, e2⟩ := (hKS.below hB).keyC hkk
          go_wp2_with fail
          refine (rat_any _ _ c0 l kk fr kn w6 (h0.below (hal5.on hB))).mono ?_
          rintro e w7 ⟨rfl, hb⟩
          replace hB := hB.on hb
          clear hb e0 e1 e2
          have hA3 : At3 w7 kb (ko + j * 3) kk := (hKS.below hB).keyC hkk
          obtain ⟨av, hav⟩ : ∃ av, atV l kk fr kn = av := ⟨_, rfl⟩
          obtain ⟨ao, hao⟩ : ∃ ao, atOk l kk fr kn = ao := ⟨_, rfl⟩
          rw [hav, hao]
          have s2 : (av != av) = false := by simp
          have s3 : (ao != ao) = false := by simp
          have HP := Lib.hid (fun (V : World) (hV : Below w7.heap.size w7 V) => (points_any _ _ c0 l kk fr til kn V (h0.below ((hal5.on hB).on hV))).mono (fun e w' h => RetPts.of h))
          have HR := Lib.hid (fun (V : World) (hV : Below w7.heap.size w7 V) => (rpoints_any _ _ c0 l kk fr til kn V (h0.below ((hal5.on hB).on hV))).mono (fun e w' h => RetPts.of h))
          clear hav hao hkk
          go_wp2_with fail
          go_region_held3 (fun w' => (w'.cell? ⟨kb, ko + j * 3, none⟩ = some (.int .i64 kk.kd) ∧ w'.cell? ⟨kb, ko + j * 3 + 1, none⟩ = some (.int .i64 kk.sb) ∧ w'.cell? ⟨kb, ko + j * 3 + 2, none⟩ = some (.int .i64 kk.ob)) ∧ Below w7.heap.size w7 w')
            (first | exact ⟨hA3, (Below.refl _ _).drew⟩ | exact keep3K (by assumption) (by assumption) | exact keep3K (by assumption) (Below.drewN0 _ _))
            (first | (go_at_call 21; refine (HP.out _ (by go_split_ands; assumption)).mono ?_; rintro e w' ⟨pa, pn, pc, rfl, hS1, hb⟩) | (go_at_call 22; refine (HR.out _ (by go_split_ands; assumption)).mono ?_; rintro e w' ⟨pa', pn', pc', rfl, hS2, hb⟩) | (go_at_call 20; refine (samePts_true _ _ _ _ _ _ _ _ (by first | assumption | exact SL.below (by assumption) (by assumption)) (by first | assumption | exact SL.below (by assumption) (by assumption))).mono ?_; rintro e w' ⟨rfl, q, rfl⟩))
          have hF : Below w5.heap.size w5 (w'.drewN q) := hB.on (‹_ ∧ Below w7.heap.size w7 (w'.drewN q)›).2
          go_wp2_with fail
          go_roundw
          case rel => exact ⟨j + 1, by go_num, by omega, hF⟩
          case measure => simp [intOf]; omega
        · obtain rfl : j = 1 := by omega
          go_wp2_with fail
          go_ret
          exact ⟨rfl, hal5.on hB⟩
end Go.Proofs.Ytfhekhjojdhmhaa
namespace Go.Proofs.Ytfhekhjojdhmhaa
open Go.ChangeShapes Go.WideShapes Go.ChangeAt Go.RowKit Go.Deep
set_option maxRecDepth 100000 in
set_option maxHeartbeats 2000000 in
theorem lifted_At (os : Os) (started : os.Started) (H : Type) (enc : TypeId × Value → H) :
    ReturnsInHanded {} Try.checked os 4 .any (Rows.factsAtSpecSpec.pre6 enc Try.prog Try.f4 Rows.factsAtSpecRow.domain false) (Rows.factsAtSpecSpec.post enc Try.prog Try.f4 false true false false) := by
  refine returnsInHanded_of_change (C := Try.checked) row_own started (by kernel_rfl) Try.func4
    (ChangeSpec.witness6 (enc := enc) (C := Try.checked) false ⟨#[], #[.slice none 0 0, .agg #[.int .i64 0, .int .i64 0, .int .i64 0], .int .i64 0, .int .i64 0, .int .i64 0], []⟩ 8 (by kernel_rfl) (by kernel_rfl) (by kernel_rfl) (by kernel_rfl)) ?_
  intro W base args ds gs before hval0 hW _ _
  have hval : ∀ (j : Nat) t v, Try.f4.params[j]? = some t → args[j]? = some v → Value.okWide Try.prog W .any base t v := hval0
  have hW' := hW
  obtain ⟨p, q, hA0, hV, rfl, _, _⟩ := hW
  have hA : DataW.TrodAll enc Try.prog W 0 (fun _ => true) true Try.f4.params.toList args.toList ds p := hA0
  rw [Try.params4] at hA hval
  obtain ⟨v0, v1, v2, v3, v4, d0, d1, d2, d3, d4, p0, p1, p2, p3, p4, rfl, rfl, rfl, h0, h1, h2, h3, h4⟩ := trodAll_five hA
  obtain ⟨rfl, rfl⟩ := trodVars_none hV
  obtain ⟨a0, n0, c0, l, rfl, h0', hok⟩ := open_facts (hval 0 22 v0 rfl rfl) h0
  obtain ⟨k, rfl, hokk⟩ := open_key (hval 1 24 v1 rfl rfl) h1
  obtain ⟨x2, rfl, rfl, rfl, _⟩ := open_int Try.underlying3 (hval 2 3 v2 rfl rfl) h2
  obtain ⟨x3, rfl, rfl, rfl, _⟩ := open_int Try.underlying3 (hval 3 3 v3 rfl rfl) h3
  obtain ⟨x4, rfl, rfl, rfl, _⟩ := open_int Try.underlying3 (hval 4 3 v4 rfl rfl) h4
  refine (lawAt_any a0 n0 c0 l k x2 x3 x4 W h0').mono fun e W' ⟨he, hb⟩ => ?_
  subst he
  exact ⟨_, rfl, law_post hW' rfl rfl (by kernel_rfl) rfl hb⟩
set_option maxHeartbeats 2000000 in
theorem closed_At : joinedFacts Try.prog 4 Try.f4 Rows.factsAtSpecSpec Rows.factsAtSpecRow = true := by
  unfold joinedFacts
  refine bt (bt (bt (bt (bt (bt (bt (bt (bt (bt (bt (bt (bt (bt (bt (bt (bt (bt (bt (bt (bt (bt (bt (bt (bt (bt (bt (bt (bt (bt (bt ?a0 ?a1) ?a2) ?a3) ?a4) ?a5) ?a6) ?a7) ?a8) ?a9) ?a10) ?a11) ?a12) ?a13) ?a14) ?a15) ?a16) ?a17) ?a18) ?a19) ?a20) ?a21) ?a22) ?a23) ?a24) ?a25) ?a26) ?a27) ?a28) ?a29) ?a30) ?a31
  case a25 => exact prog_enter
  case a26 => exact prog_lifts
  case a27 => exact prog_make
  all_goals as_aux_lemma => kernel_rfl
theorem factsAtSpec_holds : Rows.FactsAtSpecSaid :=
  OpenClaim.holds_of_wide 4 Try.f4 rfl rfl rfl rfl rfl rfl rfl ⟨rfl, rfl, rfl, rfl, rfl⟩ rfl rfl rfl rfl rfl (by kernel_rfl) Try.func4 closed_At
    (of_decide_eq_true (by kernel_rfl)) (by unfold Func.isWrapper; rw [if_neg (of_decide_eq_false (by kernel_rfl))]; exact ⟨rfl, rfl⟩)
    (fun os started H enc _ => lifted_At os started H enc)
#print axioms factsAtSpec_holds
end Go.Proofs.Ytfhekhjojdhmhaa
