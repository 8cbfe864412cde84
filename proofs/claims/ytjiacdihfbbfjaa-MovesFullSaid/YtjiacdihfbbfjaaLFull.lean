/- A square grid without holes has 8, 4, 2 or 1 moves, and the half turn is one of them (law14.MovesFull), at every input. -/
import Derived.Test.YtjiacdihfbbfjaaSane
import Derived.Test.YtjiacdihfbbfjaaRow
import Derived.Test.YtjiacdihfbbfjaaHeadF
import Derived.Test.YtjiacdihfbbfjaaLFullM
import Derived.WalkKit
import Derived.WalkSpells
import Derived.WalkLawsBesides
import Derived.Deep.LoopGhost
import Derived.Deep.QuietTactic
import Derived.BigQuiet
import Derived.StillTailTactics
import Derived.Lib.Hide
import Derived.Outline
import Derived.Lib.QuietBelow
namespace Go.Proofs.Ytjiacdihfbbfjaa
open Go.ChangeShapes Go.WideShapes Go.ChangeAt Go.RowKit Go.Deep

theorem turn_ints {w : World} {P N : Nat} {cs : Array Value} (h : Box w P cs 3) (hs : cs.size = N) (hc : ∀ i : Nat, i < N → cs[i]? = some (.int .i64 ((N : Int) - 1 - i))) (hN : N ≤ 256) : Ints w (some ⟨P, 0, none⟩) N N (turnL N) := by
  refine ⟨by unfold turnL; simp, Nat.le_refl _, by unfold maxLen; omega, fun _ => ⟨P, 0, rfl, h.lt⟩, fun b' o e i hi => ?_⟩
  obtain ⟨rfl, rfl⟩ : P = b' ∧ 0 = o := by simpa using e
  rw [Nat.zero_add, h.cell, hc i hi]
  unfold turnL; simp [hi]
set_option maxRecDepth 40000 in
set_option maxHeartbeats 4000000 in
theorem lawFull_any (a b : Int) (W : World) (ha : 0 ≤ a ∧ a ≤ 255) (hb : 0 ≤ b ∧ b ≤ 255) :
    Calls Try.prog 8 #[.int .u8 a, .int .u8 b] W fun e w' => e = .returned (.bool true) ∧ Below W.heap.size W w' := by
  obtain ⟨X, hX⟩ : ∃ X : Nat, 1 + a % 6 = (X : Int) := ⟨(1 + a % 6).toNat, by omega⟩
  obtain ⟨Y, hY⟩ : ∃ Y : Nat, 1 + b % 6 = (Y : Int) := ⟨(1 + b % 6).toNat, by omega⟩
  have bX : 1 ≤ X ∧ X ≤ 6 := by omega
  have bY : 1 ≤ Y ∧ Y ≤ 6 := by omega
  obtain ⟨N, hN⟩ : ∃ N, X * Y = N := ⟨_, rfl⟩
  have hXY : (X : Int) * (Y : Int) = (N : Int) := by rw [← hN]; simp
  have bN : N ≤ 36 := by rw [← hN]; exact Nat.mul_le_mul bX.2 bY.2
  have bN1 : 1 ≤ N := by rw [← hN]; exact Nat.mul_le_mul bX.1 bY.1
  obtain ⟨f1, f2, f3⟩ := full_at bX bY
  rw [hN] at f3
  have F1 := Lib.hid f1
  have F2 := Lib.hid f2
  have F3 := Lib.hid f3
  have HN := Lib.hid hN
  have hmk := make_ints N (by omega)
  have p0 : 0 ≤ (X : Int) * (Y : Int) := by omega
  have p1 : (X : Int) * (Y : Int) ≤ 36 := by omega
  clear f1 f2 f3 hN
  go_enter Try.func8, Try.ntmps8
  go_wp2_with fail
  refine (sane_any W).mono ?_
  rintro e w1 ⟨rfl, hB1⟩
  go_wp2_with fail
  refine (grid_any 1 X Y none 0 0 [] _ (Ints.nil _)).mono ?_
  rintro e w2 ⟨v2, rfl, ⟨ah, nh, ch, ac, nc, cc, rfl, hI1, hI2, _, _⟩, hB2⟩
  obtain ⟨g, hg⟩ : ∃ g, gridL 1 X Y [] = g := ⟨_, rfl⟩
  have hfew := gridL_few 1 X Y []
  rw [hg] at hI1 hI2 F1 F2 F3 hfew ⊢
  clear hg
  have hal : Below w2.heap.size w2 (w2.alloc (.cells #[.int .i64 g.shape, .int .i64 g.w, .int .i64 g.h, .slice ah nh ch, .slice ac nc cc] 24)) := (Below.refl _ _).alloc (Nat.le_refl _) _
  have hbx := Box.new w2 #[.int .i64 g.shape, .int .i64 g.w, .int .i64 g.h, .slice ah nh ch, .slice ac nc cc] 24
  have hv : GridV w2 (.agg #[.int .i64 g.shape, .int .i64 g.w, .int .i64 g.h, .slice ah nh ch, .slice ac nc cc]) g := ⟨_, _, _, _, _, _, rfl, hI1, hI2⟩
  have hB3 := hB1.on hB2
  clear hI1 hI2 hB1 hB2
  go_wp2_with fail
  refine (moves_lit (hv.below hal) ⟨hfew.1, by omega⟩ F1.out rfl).mono ?_
  rintro e w3 ⟨v3, rfl, hO, hB4⟩
  obtain ⟨a3, c3, rfl, hR⟩ := hO.rows
  obtain ⟨K, hK⟩ : ∃ K, (movesOut g).length = K := ⟨_, rfl⟩
  rw [hK] at hR F2 ⊢
  have hv3 := (hv.below hal).below hB4
  have hx3 := hbx.below hB4
  have hB5 := (hB3.on hal).on hB4
  clear hO hR hv hbx hal hB3 hB4 hK
  by_cases h1 : X = 1 <;> by_cases h2 : Y = 1 <;> by_cases h3 : X = Y
  all_goals try (exfalso; omega; done)
  all_goals
    obtain ⟨q, hq⟩ : ∃ q, wantN X Y = q := ⟨_, rfl⟩
    have hq' := hq
    unfold wantN at hq'
    simp [h1, h2, h3] at hq'
    first | (have t1 : ((X : Int) == 1) = true := (by simp; omega)) | (have t1 : ((X : Int) == 1) = false := (by simp; omega))
    first | (have t2 : ((Y : Int) == 1) = true := (by simp; omega)) | (have t2 : ((Y : Int) == 1) = false := (by simp; omega))
    first | (have t3 : ((X : Int) == (Y : Int)) = true := (by simp; omega)) | (have t3 : ((X : Int) == (Y : Int)) = false := (by simp; omega))
    have hKn := F2.out.trans (hq.trans hq'.symm)
    subst hKn
    clear h1 h2 h3 hq' hq F2
    have hPx := Box.new w3 (madeCells #[.int .i64 0] N) 3
    have hal3 : Below w3.heap.size w3 (w3.alloc (.cells (madeCells #[.int .i64 0] N) 3)) := (Below.refl _ _).alloc (Nat.le_refl _) _
    have hxl := hx3.lt
    go_wp2_with fail
    go_loopw [57] (fun c wr => ∃ k : Nat, k ≤ N ∧ c = .int .i64 k ∧ (∃ cs, Box wr w3.heap.size cs 3 ∧ cs.size = N ∧ ∀ i : Nat, i < k → cs[i]? = some (.int .i64 ((N : Int) - 1 - i))) ∧ Below w3.heap.size w3 wr) (fun c _ => N - (intOf c).toNat)
    case atStart => exact ⟨0, by omega, rfl, ⟨_, hPx, size_madeCells _ _, fun i hi => by omega⟩, hal3⟩
    case round =>
      clear hPx hal3
      obtain ⟨k, hk, rfl, ⟨cs, hP, hPs, hPc⟩, hBz⟩ := hrel
      by_cases hlt : k < N
      · have d5 := hP.cell k
        have f5 := hP.frozen k
        rw [Array.getElem?_eq_getElem (by omega)] at d5
        have HPC := Lib.hid hPc
        clear hPc
        go_wp2_with fail
        go_roundw
        case rel =>
          refine ⟨k + 1, by omega, by go_num, ⟨_, hP.set k _, by simp [hPs], fun i hi => ?_⟩, hBz.setCell (p := ⟨w3.heap.size, k, none⟩) (Nat.le_refl _) _⟩
          by_cases hik : i = k
          · subst hik; exact Array.getElem?_setIfInBounds_self_of_lt (by omega)
          · rw [Array.getElem?_setIfInBounds_ne (by omega)]; exact HPC.out i (by omega)
        case measure => simp [intOf]; omega
      · obtain rfl : N = k := by omega
        have hTI := turn_ints hP hPs hPc (by omega)
        have hx4 := hx3.below hBz
        have d0 : _ ∧ _ := ⟨hx4.cell 0, hx4.cell 1⟩
        have e0 := hx4.cell 0
        have e1 := hx4.cell 1
        have e2 := hx4.cell 2
        have e3 := hx4.cell 3
        have e4 := hx4.cell 4
        simp at e0 e1 e2 e3 e4
        clear d0 hPc hP
        go_wp2_with fail
        refine (is_lit (hv3.below hBz) hTI ⟨hfew.1, by omega⟩ F1.out F3.out).mono ?_
        rintro e w5 ⟨rfl, hB6⟩
        go_wp2_with fail
        go_ret
        exact ⟨by simp, (hB5.on hBz).on hB6⟩

set_option maxRecDepth 100000 in
theorem movesFull_lifted (os : Os) (started : os.Started) (H : Type) (enc : TypeId × Value → H) :
    ReturnsInHanded {} Try.checked os 8 .any (Rows.movesFullSpec.pre6 enc Try.prog Try.f8 Rows.movesFullRow.domain false) (Rows.movesFullSpec.post enc Try.prog Try.f8 false true false false) := by
  refine returnsInHanded_of_change (C := Try.checked) row_own started (by kernel_rfl) Try.func8
    (ChangeSpec.witness6 (enc := enc) (C := Try.checked) false ⟨#[], #[.int .u8 0, .int .u8 0], []⟩ 8 (by kernel_rfl) (by kernel_rfl) (by kernel_rfl) (by kernel_rfl)) ?_
  intro W base args ds gs before hval0 hW _ _
  have hval : ∀ (j : Nat) t v, Try.f8.params[j]? = some t → args[j]? = some v → Value.okWide Try.prog W .any base t v := hval0
  have hW' := hW
  obtain ⟨p, q, hA0, hV, rfl, _, _⟩ := hW
  have hA : DataW.TrodAll enc Try.prog W 0 (fun _ => true) true Try.f8.params.toList args.toList ds p := hA0
  rw [Try.params8] at hA hval
  obtain ⟨v0, v1, d0, d1, p0, p1, rfl, rfl, rfl, h0, h1⟩ := trodAll_two hA
  obtain ⟨rfl, rfl⟩ := trodVars_none hV
  obtain ⟨a, rfl, rfl, rfl, wa⟩ := open_int Try.underlying5 (hval 0 5 v0 rfl rfl) h0
  obtain ⟨b, rfl, rfl, rfl, wb⟩ := open_int Try.underlying5 (hval 1 5 v1 rfl rfl) h1
  have u8b : ∀ z : Int, (Lit.int .u8 z).wf = true → 0 ≤ z ∧ z ≤ 255 := fun z hz => by
    have e1 : IntKind.u8.min = 0 := rfl
    have e2 : IntKind.u8.max = 255 := rfl
    simpa [Lit.wf, e1, e2] using hz
  refine (lawFull_any a b W (u8b a wa) (u8b b wb)).mono fun e W' ⟨he, hb⟩ => ?_
  subst he
  exact ⟨_, rfl, law_post hW' rfl rfl (by kernel_rfl) rfl hb⟩

theorem movesFull_closed : joinedFacts Try.prog 8 Try.f8 Rows.movesFullSpec Rows.movesFullRow = true := by
  unfold joinedFacts
  refine bt (bt (bt (bt (bt (bt (bt (bt (bt (bt (bt (bt (bt (bt (bt (bt (bt (bt (bt (bt (bt (bt (bt (bt (bt (bt (bt (bt (bt (bt (bt ?a0 ?a1) ?a2) ?a3) ?a4) ?a5) ?a6) ?a7) ?a8) ?a9) ?a10) ?a11) ?a12) ?a13) ?a14) ?a15) ?a16) ?a17) ?a18) ?a19) ?a20) ?a21) ?a22) ?a23) ?a24) ?a25) ?a26) ?a27) ?a28) ?a29) ?a30) ?a31
  case a25 => exact prog_enter
  case a26 => exact prog_lifts
  case a27 => exact prog_make
  all_goals as_aux_lemma => kernel_rfl
theorem movesFull_holds : Rows.MovesFullSaid :=
  OpenClaim.holds_of_wide 8 Try.f8 rfl rfl rfl rfl rfl rfl rfl ⟨rfl, rfl, rfl, rfl, rfl⟩ rfl rfl rfl rfl rfl (by kernel_rfl) Try.func8 movesFull_closed
    (of_decide_eq_true (by kernel_rfl)) (by unfold Func.isWrapper; rw [if_neg (of_decide_eq_false (by kernel_rfl))]; exact ⟨rfl, rfl⟩)
    (fun os started H enc _ => movesFull_lifted os started H enc)
#print axioms movesFull_holds
end Go.Proofs.Ytjiacdihfbbfjaa
