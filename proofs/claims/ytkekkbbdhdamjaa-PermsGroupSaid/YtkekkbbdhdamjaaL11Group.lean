/- Composition is associative, the identity is neutral, inverses are inverse (law11.PermsGroup), at every input. -/
import Derived.Test.YtkekkbbdhdamjaaLawP
import Derived.WalkKit
import Derived.WalkSpells
import Derived.WalkLawsBesides
import Derived.Deep.LoopGhost
import Derived.Deep.QuietTactic
import Derived.BigQuiet
import Derived.StillTailTactics
import Derived.Lib.Hide
import Derived.Outline
import Derived.Lib.QuietBelow
namespace Go.Proofs.Ytkekkbbdhdamjaa
open Go.ChangeShapes Go.WideShapes Go.ChangeAt Go.RowKit Go.Deep

theorem comp_ok {a0 a1 : Option Addr} {n c0 c1 : Nat} {l m : List Int} {W w0 : World} (hl : okPerm l n) (hm : okPerm m n) (hn : n ≤ 256) (hW : Below w0.heap.size w0 W) (h0 : Ints W a0 n c0 l) (h1 : Ints W a1 n c1 m) :
    Calls Try.prog 11 #[.slice a0 n c0, .slice a1 n c1] W fun e w' => ∃ xa xc, e = .returned (.tuple #[.slice xa n xc, .int .i64 0]) ∧ Ints w' xa n xc (prodL l m) ∧ Below W.heap.size W w' ∧ Below w0.heap.size w0 w' := by
  refine (compose_any a0 a1 n c0 n c1 l m W h0 h1).mono ?_
  rintro e w' hr
  obtain ⟨xa, xn, xc, rfl, hX, hA⟩ := hr.out
  have hc : compB l m = true := by unfold compB; rw [hl.len, permB_iff.2 hl, permB_iff.2 hm]; simp [hn]
  have e1 : compL l m = prodL l m := by unfold compL; rw [if_pos hc]
  have e2 : compE l m = 0 := by unfold compE; rw [if_pos hc]
  rw [e1] at hX
  have : xn = n := by rw [← hX.len, (prod_ok hl hm).len]
  subst this
  exact ⟨xa, xc, by rw [e2], hX, hA, hW.on hA⟩
theorem inv_okW {a0 : Option Addr} {n c0 : Nat} {l : List Int} {W w0 : World} (hl : okPerm l n) (hn : n ≤ 256) (hW : Below w0.heap.size w0 W) (h0 : Ints W a0 n c0 l) :
    Calls Try.prog 13 #[.slice a0 n c0] W fun e w' => ∃ xa xc, e = .returned (.tuple #[.slice xa n xc, .int .i64 0]) ∧ Ints w' xa n xc (invP l n) ∧ Below W.heap.size W w' ∧ Below w0.heap.size w0 w' := by
  refine (inverse_any a0 n c0 l W h0).mono ?_
  rintro e w' hr
  obtain ⟨xa, xn, xc, rfl, hX, hA⟩ := hr.out
  have hc : invB l = true := by unfold invB; rw [hl.len, permB_iff.2 hl]; simp [hn]
  have e1 : invLL l = invP l n := by unfold invLL; rw [if_pos hc, hl.len]
  have e2 : invE l = 0 := by unfold invE; rw [if_pos hc]
  rw [e1] at hX
  have : xn = n := by rw [← hX.len, (inv_ok hl).len]
  subst this
  exact ⟨xa, xc, by rw [e2], hX, hA, hW.on hA⟩

set_option maxRecDepth 20000 in
set_option maxHeartbeats 4000000 in
theorem lawGroup_any (a0 a1 a2 : Option Addr) (n0 c0 n1 c1 n2 c2 : Nat) (l m k : List Int) (W : World) (h0 : Ints W a0 n0 c0 l) (h1 : Ints W a1 n1 c1 m) (h2 : Ints W a2 n2 c2 k) :
    Calls Try.prog 5 #[.slice a0 n0 c0, .slice a1 n1 c1, .slice a2 n2 c2] W fun e w' => e = .returned (.bool true) ∧ Below W.heap.size W w' := by
  by_cases hb : n0 ≤ 100
  rotate_left
  · have t0 : (100 : Int) < (n0 : Int) := by omega
    go_enter Try.func5, Try.ntmps5
    go_wp2_with fail
    refine (sane11_any _).mono ?_
    rintro e w1 ⟨rfl, hB1⟩
    go_wp2_with fail
    go_ret
    exact ⟨rfl, hB1⟩
  have t0 : ¬ (100 : Int) < (n0 : Int) := by omega
  cases p0 : permB l n0
  · have HF0 := Lib.hid p0
    clear p0
    go_enter Try.func5, Try.ntmps5
    go_wp2_with fail
    refine (sane11_any _).mono ?_
    rintro e w1 ⟨rfl, hB1⟩
    go_wp2_with fail
    have hc := is_any a0 n0 c0 l n0 w1 (h0.below hB1) (by omega)
    rw [HF0.out] at hc
    refine hc.mono ?_
    rintro e w2 ⟨rfl, hA⟩
    clear hc
    replace hB1 := hB1.on hA
    clear hA
    go_wp2_with fail
    go_ret
    exact ⟨rfl, hB1⟩
  cases p1 : permB m n0
  · have HF0 := Lib.hid p0
    have HF1 := Lib.hid p1
    clear p0 p1
    go_enter Try.func5, Try.ntmps5
    go_wp2_with fail
    refine (sane11_any _).mono ?_
    rintro e w1 ⟨rfl, hB1⟩
    go_wp2_with fail
    have hc := is_any a0 n0 c0 l n0 w1 (h0.below hB1) (by omega)
    rw [HF0.out] at hc
    refine hc.mono ?_
    rintro e w2 ⟨rfl, hA⟩
    clear hc
    replace hB1 := hB1.on hA
    clear hA
    go_wp2_with fail
    have hc := is_any a1 n1 c1 m n0 w2 (h1.below hB1) (by omega)
    rw [HF1.out] at hc
    refine hc.mono ?_
    rintro e w3 ⟨rfl, hA⟩
    clear hc
    replace hB1 := hB1.on hA
    clear hA
    go_wp2_with fail
    go_ret
    exact ⟨rfl, hB1⟩
  cases p2 : permB k n0
  · have HF0 := Lib.hid p0
    have HF1 := Lib.hid p1
    have HF2 := Lib.hid p2
    clear p0 p1 p2
    go_enter Try.func5, Try.ntmps5
    go_wp2_with fail
    refine (sane11_any _).mono ?_
    rintro e w1 ⟨rfl, hB1⟩
    go_wp2_with fail
    have hc := is_any a0 n0 c0 l n0 w1 (h0.below hB1) (by omega)
    rw [HF0.out] at hc
    refine hc.mono ?_
    rintro e w2 ⟨rfl, hA⟩
    clear hc
    replace hB1 := hB1.on hA
    clear hA
    go_wp2_with fail
    have hc := is_any a1 n1 c1 m n0 w2 (h1.below hB1) (by omega)
    rw [HF1.out] at hc
    refine hc.mono ?_
    rintro e w3 ⟨rfl, hA⟩
    clear hc
    replace hB1 := hB1.on hA
    clear hA
    go_wp2_with fail
    have hc := is_any a2 n2 c2 k n0 w3 (h2.below hB1) (by omega)
    rw [HF2.out] at hc
    refine hc.mono ?_
    rintro e w4 ⟨rfl, hA⟩
    clear hc
    replace hB1 := hB1.on hA
    clear hA
    go_wp2_with fail
    go_ret
    exact ⟨rfl, hB1⟩
  have o0 := permB_iff.1 p0
  have o1 := permB_iff.1 p1
  have o2 := permB_iff.1 p2
  obtain rfl : n0 = n1 := by rw [← h1.len, o1.len]
  obtain rfl : n0 = n2 := by rw [← h2.len, o2.len]
  have HO := Lib.hid (And.intro o0 (And.intro o1 o2))
  have HF0 := Lib.hid p0
  have HF1 := Lib.hid p1
  have HF2 := Lib.hid p2
  have hn : n0 ≤ 256 := by omega
  clear p0 p1 p2 o0 o1 o2
  go_enter Try.func5, Try.ntmps5
  go_wp2_with fail
  refine (sane11_any _).mono ?_
  rintro e w1 ⟨rfl, hB1⟩
  go_wp2_with fail
  have hc := is_any a0 n0 c0 l n0 w1 (h0.below hB1) (by omega)
  rw [HF0.out] at hc
  refine hc.mono ?_
  rintro e w2 ⟨rfl, hA⟩
  clear hc
  replace hB1 := hB1.on hA
  clear hA
  go_wp2_with fail
  have hc := is_any a1 n0 c1 m n0 w2 (h1.below hB1) (by omega)
  rw [HF1.out] at hc
  refine hc.mono ?_
  rintro e w3 ⟨rfl, hA⟩
  clear hc
  replace hB1 := hB1.on hA
  clear hA
  go_wp2_with fail
  have hc := is_any a2 n0 c2 k n0 w3 (h2.below hB1) (by omega)
  rw [HF2.out] at hc
  refine hc.mono ?_
  rintro e w4 ⟨rfl, hA⟩
  clear hc
  replace hB1 := hB1.on hA
  clear hA
  go_wp2_with fail
  refine (comp_ok HO.out.1 HO.out.2.1 hn hB1 (h0.below hB1) (h1.below hB1)).mono ?_
  rintro e w5 ⟨aba, abc, rfl, hAB, hA, hB1⟩
  clear hA
  go_wp2_with fail
  refine (comp_ok HO.out.2.1 HO.out.2.2 hn hB1 (h1.below hB1) (h2.below hB1)).mono ?_
  rintro e w6 ⟨bca, bcc, rfl, hBC, hA, hB1⟩
  replace hAB := hAB.below hA
  clear hA
  go_wp2_with fail
  refine (comp_ok (prod_ok HO.out.1 HO.out.2.1) HO.out.2.2 hn hB1 hAB (h2.below hB1)).mono ?_
  rintro e w7 ⟨xa, xc, rfl, hX, hA, hB1⟩
  replace hAB := hAB.below hA
  replace hBC := hBC.below hA
  clear hA
  go_wp2_with fail
  refine (comp_ok HO.out.1 (prod_ok HO.out.2.1 HO.out.2.2) hn hB1 (h0.below hB1) hBC).mono ?_
  rintro e w8 ⟨ya, yc, rfl, hY, hA, hB1⟩
  replace hAB := hAB.below hA
  replace hBC := hBC.below hA
  replace hX := hX.below hA
  clear hA
  go_wp2_with fail
  rw [← prod_assoc HO.out.1 HO.out.2.1 HO.out.2.2] at hY
  refine (same_true xa ya n0 xc n0 yc _ w8 hX hY).mono ?_
  rintro e w9 ⟨rfl, hA⟩
  replace hAB := hAB.below hA
  replace hB1 := hB1.on hA
  clear hA hX hY hBC
  go_wp2_with fail
  refine (ident_any n0 w9 (by omega)).mono ?_
  rintro e w10 ⟨v, rfl, hOI, hA⟩
  obtain ⟨ia, ic, rfl, hI⟩ := hOI.ints
  clear hOI
  rw [show (idP n0).length = n0 from mkP_len] at hI ⊢
  replace hAB := hAB.below hA
  replace hB1 := hB1.on hA
  clear hA
  go_wp2_with fail
  refine (inv_okW HO.out.1 hn hB1 (h0.below hB1)).mono ?_
  rintro e w11 ⟨pa, pc, rfl, hP, hA, hB1⟩
  replace hAB := hAB.below hA
  replace hI := hI.below hA
  clear hA
  go_wp2_with fail
  refine (inv_okW HO.out.2.1 hn hB1 (h1.below hB1)).mono ?_
  rintro e w12 ⟨qa, qc, rfl, hQ, hA, hB1⟩
  replace hAB := hAB.below hA
  replace hI := hI.below hA
  replace hP := hP.below hA
  clear hA
  go_wp2_with fail
  refine (comp_ok (inv_ok HO.out.1) HO.out.1 hn hB1 hP (h0.below hB1)).mono ?_
  rintro e w13 ⟨la, lc, rfl, hL, hA, hB1⟩
  replace hAB := hAB.below hA
  replace hI := hI.below hA
  replace hP := hP.below hA
  replace hQ := hQ.below hA
  clear hA
  go_wp2_with fail
  rw [inv_prod HO.out.1] at hL
  refine (comp_ok HO.out.1 (inv_ok HO.out.1) hn hB1 (h0.below hB1) hP).mono ?_
  rintro e w14 ⟨ra, rc, rfl, hR, hA, hB1⟩
  replace hAB := hAB.below hA
  replace hI := hI.below hA
  replace hP := hP.below hA
  replace hQ := hQ.below hA
  replace hL := hL.below hA
  clear hA
  go_wp2_with fail
  rw [prod_inv HO.out.1] at hR
  refine (same_true la ia n0 lc n0 ic _ w14 hL hI).mono ?_
  rintro e w15 ⟨rfl, hA⟩
  replace hAB := hAB.below hA
  replace hI := hI.below hA
  replace hP := hP.below hA
  replace hQ := hQ.below hA
  replace hR := hR.below hA
  replace hB1 := hB1.on hA
  clear hA hL
  go_wp2_with fail
  refine (same_true ra ia n0 rc n0 ic _ w15 hR hI).mono ?_
  rintro e w16 ⟨rfl, hA⟩
  replace hAB := hAB.below hA
  replace hI := hI.below hA
  replace hP := hP.below hA
  replace hQ := hQ.below hA
  replace hB1 := hB1.on hA
  clear hA hR
  go_wp2_with fail
  refine (comp_ok HO.out.1 (id_ok n0) hn hB1 (h0.below hB1) hI).mono ?_
  rintro e w17 ⟨sa, sc, rfl, hS, hA, hB1⟩
  replace hAB := hAB.below hA
  replace hI := hI.below hA
  replace hP := hP.below hA
  replace hQ := hQ.below hA
  clear hA
  go_wp2_with fail
  rw [prod_id HO.out.1] at hS
  refine (comp_ok (id_ok n0) HO.out.1 hn hB1 hI (h0.below hB1)).mono ?_
  rintro e w18 ⟨ta, tc, rfl, hT, hA, hB1⟩
  replace hAB := hAB.below hA
  replace hI := hI.below hA
  replace hP := hP.below hA
  replace hQ := hQ.below hA
  replace hS := hS.below hA
  clear hA
  go_wp2_with fail
  rw [id_prod HO.out.1] at hT
  refine (inv_okW (prod_ok HO.out.1 HO.out.2.1) hn hB1 hAB).mono ?_
  rintro e w19 ⟨ba, bc, rfl, hBk, hA, hB1⟩
  replace hAB := hAB.below hA
  replace hI := hI.below hA
  replace hP := hP.below hA
  replace hQ := hQ.below hA
  replace hS := hS.below hA
  replace hT := hT.below hA
  clear hA
  go_wp2_with fail
  refine (comp_ok (inv_ok HO.out.2.1) (inv_ok HO.out.1) hn hB1 hQ hP).mono ?_
  rintro e w20 ⟨ua, uc, rfl, hU, hA, hB1⟩
  replace hAB := hAB.below hA
  replace hI := hI.below hA
  replace hP := hP.below hA
  replace hQ := hQ.below hA
  replace hS := hS.below hA
  replace hT := hT.below hA
  replace hBk := hBk.below hA
  clear hA
  go_wp2_with fail
  rw [inv_of_prod HO.out.1 HO.out.2.1] at hBk
  refine (same_true sa a0 n0 sc n0 c0 _ w20 hS (h0.below hB1)).mono ?_
  rintro e w21 ⟨rfl, hA⟩
  replace hAB := hAB.below hA
  replace hI := hI.below hA
  replace hP := hP.below hA
  replace hQ := hQ.below hA
  replace hT := hT.below hA
  replace hBk := hBk.below hA
  replace hU := hU.below hA
  replace hB1 := hB1.on hA
  clear hA hS
  go_wp2_with fail
  refine (same_true ta a0 n0 tc n0 c0 _ w21 hT (h0.below hB1)).mono ?_
  rintro e w22 ⟨rfl, hA⟩
  replace hAB := hAB.below hA
  replace hI := hI.below hA
  replace hP := hP.below hA
  replace hQ := hQ.below hA
  replace hBk := hBk.below hA
  replace hU := hU.below hA
  replace hB1 := hB1.on hA
  clear hA hT
  go_wp2_with fail
  refine (same_true ba ua n0 bc n0 uc _ w22 hBk hU).mono ?_
  rintro e w23 ⟨rfl, hA⟩
  replace hAB := hAB.below hA
  replace hI := hI.below hA
  replace hP := hP.below hA
  replace hQ := hQ.below hA
  replace hB1 := hB1.on hA
  clear hA hBk hU
  go_wp2_with fail
  go_ret
  exact ⟨rfl, hB1⟩

set_option maxRecDepth 100000 in
set_option maxHeartbeats 2000000 in
theorem lifted (os : Os) (started : os.Started) (H : Type) (enc : TypeId × Value → H) :
    ReturnsInHanded {} Try.checked os 5 .any (Rows.permsGroupSpec.pre6 enc Try.prog Try.f5 Rows.permsGroupRow.domain false) (Rows.permsGroupSpec.post enc Try.prog Try.f5 false true false false) := by
  refine returnsInHanded_of_change (C := Try.checked) row_own started (by kernel_rfl) Try.func5
    (ChangeSpec.witness6 (enc := enc) (C := Try.checked) false ⟨#[], #[.slice none 0 0, .slice none 0 0, .slice none 0 0], []⟩ 8 (by kernel_rfl) (by kernel_rfl) (by kernel_rfl) (by kernel_rfl)) ?_
  intro W base args ds gs before hval0 hW _ _
  have hval : ∀ (j : Nat) t v, Try.f5.params[j]? = some t → args[j]? = some v → Value.okWide Try.prog W .any base t v := hval0
  have hW' := hW
  obtain ⟨p, q, hA0, hV, rfl, _, _⟩ := hW
  have hA : DataW.TrodAll enc Try.prog W 0 (fun _ => true) true Try.f5.params.toList args.toList ds p := hA0
  rw [Try.params5] at hA hval
  obtain ⟨v0, v1, v2, d0, d1, d2, p0, p1, p2, rfl, rfl, rfl, h0, h1, h2⟩ := trodAll_three hA
  obtain ⟨rfl, rfl⟩ := trodVars_none hV
  obtain ⟨a0, n0, c0, l0, rfl, h0', _⟩ := open_L (hval 0 22 v0 rfl rfl) h0
  obtain ⟨a1, n1, c1, l1, rfl, h1', _⟩ := open_L (hval 1 22 v1 rfl rfl) h1
  obtain ⟨a2, n2, c2, l2, rfl, h2', _⟩ := open_L (hval 2 22 v2 rfl rfl) h2
  refine (lawGroup_any a0 a1 a2 n0 c0 n1 c1 n2 c2 l0 l1 l2 W h0' h1' h2').mono fun e W' ⟨he, hb⟩ => ?_
  subst he
  exact ⟨_, rfl, law_post hW' rfl rfl (by kernel_rfl) rfl hb⟩
set_option maxHeartbeats 2000000 in
theorem permsGroup_closed : joinedFacts Try.prog 5 Try.f5 Rows.permsGroupSpec Rows.permsGroupRow = true := by
  unfold joinedFacts
  refine bt (bt (bt (bt (bt (bt (bt (bt (bt (bt (bt (bt (bt (bt (bt (bt (bt (bt (bt (bt (bt (bt (bt (bt (bt (bt (bt (bt (bt (bt (bt ?a0 ?a1) ?a2) ?a3) ?a4) ?a5) ?a6) ?a7) ?a8) ?a9) ?a10) ?a11) ?a12) ?a13) ?a14) ?a15) ?a16) ?a17) ?a18) ?a19) ?a20) ?a21) ?a22) ?a23) ?a24) ?a25) ?a26) ?a27) ?a28) ?a29) ?a30) ?a31
  case a25 => exact prog_enter
  case a26 => exact prog_lifts
  case a27 => exact prog_make
  all_goals as_aux_lemma => kernel_rfl
theorem permsGroup_holds : Rows.PermsGroupSaid :=
  OpenClaim.holds_of_wide 5 Try.f5 rfl rfl rfl rfl rfl rfl rfl ⟨rfl, rfl, rfl, rfl, rfl⟩ rfl rfl rfl rfl rfl (by kernel_rfl) Try.func5 permsGroup_closed
    (of_decide_eq_true (by kernel_rfl)) (by unfold Func.isWrapper; rw [if_neg (of_decide_eq_false (by kernel_rfl))]; exact ⟨rfl, rfl⟩)
    (fun os started H enc _ => lifted os started H enc)
#print axioms permsGroup_holds
end Go.Proofs.Ytkekkbbdhdamjaa
