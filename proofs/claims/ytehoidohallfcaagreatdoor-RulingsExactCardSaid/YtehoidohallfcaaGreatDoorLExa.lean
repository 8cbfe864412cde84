/- With exact times the ranking is that of the totals (law54.RulingsExact), at every input: the walk. -/
import Derived.Test.YtehoidohallfcaaGreatDoorSanB
import Derived.Test.YtehoidohallfcaaGreatDoorLwM
import Derived.Test.YtehoidohallfcaaGreatDoorExaX
import Derived.WalkKit
import Derived.WalkSpells
import Derived.WalkLawsBesides
import Derived.Deep.LoopGhost
import Derived.Deep.QuietTactic
import Derived.BigQuiet
import Derived.StillTailTactics
import Derived.Lib.Hide
import Derived.Outline
import Derived.Lib.QuietBelow
namespace Go.Proofs.YtehoidohallfcaaGreatDoor
open Go.RowKit
attribute [local go_sem] Oper.semAt_some

theorem exact_copy {w3 w4 : World} {v' : Value} {l : List Rs} {nl : Nat} (hown' : w4.ownsRow w3.heap.size 53 6 v' (0 + nl) ([] ++ l.flatMap encRs)) (hgrow : (w3.alloc (.cells #[] 53)).grownBy w4 (Value.slice (some ⟨w3.heap.size, 0, none⟩) 0 0).ownBlock) (hn : l.length = nl) :
    ∃ va vc, v' = .slice va nl vc ∧ OwnSL encRs 6 w4 w3.heap.size 53 (.slice va nl vc) (exK l 0) ∧ Below w3.heap.size w3 w4 := by
  rw [Nat.zero_add, List.nil_append] at hown'
  obtain ⟨va, vc, rfl, _, _⟩ := own_slice hown'
  refine ⟨va, vc, rfl, ?_, ((Below.refl _ _).alloc (Nat.le_refl _) _).grown hgrow (by simp) (fun k e => by simp [Value.ownBlock] at e; omega)⟩
  rw [exK_0]
  unfold OwnSL
  rw [hn]; exact hown'
theorem agE_0r {s : Sh} {l : List Rs} {fs : List (Ft Value)} {d : Int} (h : agE s l fs d = 0) : rankE s (resL fs d l) = 0 ∧ agR s l fs d = rankR s (resL fs d l) := by
  unfold agE at h
  by_cases h1 : ruE s l fs d = 0
  · rw [if_neg (fun x => x h1)] at h
    exact ⟨h, by unfold agR; rw [if_neg (fun x => x h1)]⟩
  · rw [if_pos h1] at h; exact absurd h h1
set_option maxRecDepth 20000 in
set_option maxHeartbeats 8000000 in
theorem lawExact_any (S : Sp) (al : Option Addr) (nl cl : Nat) (l : List Rs) (fa : Option Addr) (fn fc : Nat) (fs : List (Ft Value)) (d : Int) (W : World) (ht : Tab W) (hS : S.In W) (h0 : SL encRs 6 W al nl cl l) (hF : SL encFt 5 W fa fn fc fs) (hG : GrOk fs) :
    Calls Tryz.prog 8 #[.agg #[.int .i64 S.sh.cs, .int .i64 S.sh.ps, .slice S.la S.ln S.lc, .slice S.ca S.cn S.cc, .slice S.pa S.pn S.pc, .slice S.ra S.rn S.rc], .slice al nl cl, .slice fa fn fc, .int .i64 d] W fun e w' => RetB W (.bool true) e w' := by
  have hx1 := Box.new W #[.int .i64 S.sh.cs, .int .i64 S.sh.ps, .slice S.la S.ln S.lc, .slice S.ca S.cn S.cc, .slice S.pa S.pn S.pc, .slice S.ra S.rn S.rc] 25
  have hbb : Below W.heap.size W (W.alloc (.cells #[.int .i64 S.sh.cs, .int .i64 S.sh.ps, .slice S.la S.ln S.lc, .slice S.ca S.cn S.cc, .slice S.pa S.pn S.pc, .slice S.ra S.rn S.rc] 25)) := al0 _ _ _
  obtain ⟨w0, hw0⟩ : ∃ w0, W.alloc (.cells #[.int .i64 S.sh.cs, .int .i64 S.sh.ps, .slice S.la S.ln S.lc, .slice S.ca S.cn S.cc, .slice S.pa S.pn S.pc, .slice S.ra S.rn S.rc] 25) = w0 := ⟨_, rfl⟩
  rw [hw0] at hx1 hbb
  have HW0 := Lib.hid hw0
  have HL := Lib.hid h0.len
  have HSA := Lib.hid (sane_any w0 (ht.below hbb))
  clear hw0
  cases hf : (few53 S.sh l && decide (fs.length ≤ 20))
  · have HF := Lib.hid hf
    clear hf
    go_enter Tryz.func8, Tryz.ntmps8
    go_wp2_with fail
    rw [HW0.out]
    go_wp2_with fail
    refine HSA.out.mono ?_
    rintro e w1 ⟨rfl, hB1⟩
    have hx1 := hx1.below hB1
    have hbb := hbb.on hB1
    have HFW := Lib.hid (few54_any S al nl cl l fa fn fc fs w1 (hS.below hbb) (h0.below hbb) (hF.below hbb))
    rw [HF.out] at HFW
    obtain ⟨d0, d1, d2, d3, d4, d5⟩ := hx1.g6
    go_wp2_with fail
    refine HFW.out.mono ?_
    rintro e w2 ⟨rfl, hB2⟩
    have hbb := hbb.on hB2
    have hx1 := hx1.below hB2
    clear HFW hB1 hB2 d0 d1 d2 d3 d4 d5
    go_wp2_with fail
    go_ret
    exact ⟨rfl, hbb⟩
  have h4 : S.sh.cs ≤ 4 ∧ nl ≤ 12 := by
    unfold few53 at hf
    simp only [Bool.and_eq_true, decide_eq_true_eq] at hf
    have := HL.out
    omega
  have HF := Lib.hid hf
  have H4 := Lib.hid h4.1
  have hn12 := h4.2
  clear hf h4
  go_enter Tryz.func8, Tryz.ntmps8
  go_wp2_with fail
  rw [HW0.out]
  go_wp2_with fail
  refine HSA.out.mono ?_
  rintro e w1 ⟨rfl, hB1⟩
  have hx1 := hx1.below hB1
  have hbb := hbb.on hB1
  have HFW := Lib.hid (few54_any S al nl cl l fa fn fc fs w1 (hS.below hbb) (h0.below hbb) (hF.below hbb))
  rw [HF.out] at HFW
  obtain ⟨d0, d1, d2, d3, d4, d5⟩ := hx1.g6
  go_wp2_with fail
  refine HFW.out.mono ?_
  rintro e w2 ⟨rfl, hB2⟩
  have hbb := hbb.on hB2
  have hx1 := hx1.below hB2
  clear HFW hB1 hB2 d0 d1 d2 d3 d4 d5
  have HBB := Lib.hid hbb
  have HX1 := Lib.hid hx1
  have h02 := h0.below hbb
  obtain ⟨i26, hi26, hz260, hz261, hz262⟩ := info_parts info6
  have hnil : al = none → nl = 0 := fun e => by
    rcases Nat.eq_zero_or_pos nl with h | h
    · exact h
    · obtain ⟨b, o, e2, _⟩ := h0.at' h; rw [e] at e2; cases e2
  have HL6 : Hid ((l.flatMap encRs).length = nl * 6) := Lib.hid (by rw [flat_len encRs_len, HL.out])
  have HMF := Lib.hid (fun (w4 : World) (v' : Value) (h1 : w4.ownsRow w2.heap.size 53 6 v' (0 + nl) ([] ++ l.flatMap encRs)) (h2 : (w2.alloc (.cells #[] 53)).grownBy w4 (Value.slice (some ⟨w2.heap.size, 0, none⟩) 0 0).ownBlock) => exact_copy h1 h2 HL.out)
  have H02 := Lib.hid h02
  have HNIL := Lib.hid hnil
  have hmk := fun w => make_tA nl (by omega) w
  clear h02 hnil hbb hx1
  go_wp2_with (at_builtin; refine wpList_append_any rfl _ _ 26 rfl w2.heap.size 53 i26 _ 6 48 Tryz.underlying26 hi26 hz260 hz261 hz262 rfl (by decide) (.slice (some ⟨w2.heap.size, 0, none⟩) 0 0) 0 [] (World.ownsRow_made w2 #[] 0 (Nat.le_refl _) (by simp [maxLen]) rfl) rfl al nl cl (l.flatMap encRs) rfl HNIL.out HL6.out (fun a ha => (H02.out.below (al0 _ _ _)).flat encRs_len (by decide) a ha) (rs_one _) (by unfold maxLen; omega) (by omega) (by simp) ?_; intro v' w4 hown' hgrow hfr; obtain ⟨va, vc, rfl, hM4, hB4⟩ := HMF.out w4 v' hown' hgrow; clear hown' hgrow hfr)
  have HGB := Lib.hid (fun q e => (hM4.lt q e).2)
  have HOW := Lib.hid (hM4.below (al0 w4 (tA (List.replicate nl 0)) 3))
  have HBT := Lib.hid (Box.new w4 (tA (List.replicate nl 0)) 3)
  have HB4 := Lib.hid (hB4.on (al0 w4 (tA (List.replicate nl 0)) 3))
  have hs24 := hB4.size
  clear hM4 hB4 hi26 hz260 hz261 hz262 hmk HMF
  go_loopw [34] (fun i wr => ∃ k : Nat, i = .int .i64 k ∧ k ≤ nl ∧ OwnSL encRs 6 wr w2.heap.size 53 (.slice va nl vc) (exK l k) ∧ Box wr w4.heap.size (tA (loK l k)) 3 ∧ Below w2.heap.size w2 wr) (fun i _ => nl - (intOf i).toNat)
  case atStart => exact ⟨0, rfl, by omega, HOW.out, by rw [loK_0 l HL.out]; exact HBT.out, HB4.out⟩
  case round =>
    clear HOW HBT HB4
    obtain ⟨k, rfl, hk, hO, hT, hB⟩ := hrel
    have s0 : (0 : Int) ≤ (k : Int) := by omega
    by_cases hlt : k < nl
    · have s1 : (k : Int) < (nl : Int) := by omega
      obtain ⟨x, hx⟩ := h0.get hlt
      have hel := exK_len l (k := k) (by rw [HL.out]; omega)
      rw [HL.out] at hel
      have hO6 : wr.ownsRow w2.heap.size 53 6 (.slice va nl vc) nl ((exK l k).flatMap encRs) := by unfold OwnSL at hO; rwa [hel] at hO
      obtain ⟨g, rfl, hg1, hg2, hgf⟩ := own_spot hO6 (by omega)
      have hS6 : SL encRs 6 wr (some ⟨g, 0, none⟩) nl vc (exK l k) := by
        obtain ⟨a, c, e, hS⟩ := hO.sl encRs_len
        injection e with e1 e2 e3
        subst e1 e3
        rw [hel] at hS; exact hS
      have hne : g ≠ w4.heap.size := by have := HGB.out g rfl; omega
      obtain ⟨-, -, -, e3, e4, -⟩ := hS6.rs6 (exK_at hx)
      rw [Nat.zero_add] at e3 e4
      have f4 := hgf (k * 6 + 4)
      have hO2 := hO.set encRs_len hel (i := k) (j := 4) (x := x) (y := exOf x) (v := .int .i64 x.lo) (exK_at hx) (by omega) rfl
      rw [exK_set hx] at hO2
      have hT2 := (hT.setOther (a := ⟨g, k * 6 + 4, none⟩) (.int .i64 x.lo) (Ne.symm hne))
      have e3' : (wr.setCell ⟨g, k * 6 + 4, none⟩ (.int .i64 x.lo)).cell? ⟨g, k * 6 + 3, none⟩ = some (.int .i64 x.lo) := by
        obtain ⟨a, c, e, hS⟩ := hO2.sl encRs_len
        injection e with q1 q2 q3
        subst q1 q3
        have h9 : (exK l (k + 1))[k]? = some (exOf x) := by rw [← exK_set hx, List.getElem?_set_self (by rw [hel]; exact hlt)]
        have := (hS.rs6 h9).2.2.2.1
        rw [Nat.zero_add] at this; exact this
      have hll := loK_len l (k := k) (by rw [HL.out]; omega)
      rw [HL.out] at hll
      have ct : (wr.setCell ⟨g, k * 6 + 4, none⟩ (.int .i64 x.lo)).cell? ⟨w4.heap.size, k, none⟩ = some (.int .i64 ((loK l k).getD k 0)) := by rw [hT2.cell k, tA_get (by omega)]
      have ft := hT2.frozen k
      have lt2 := hT2.lt
      have hT3 := hT2.set k (.int .i64 x.lo)
      rw [tA_set, loK_set hx] at hT3
      have HT3 := Lib.hid hT3
      have HO3 := Lib.hid (hO2.setOther (p := ⟨w4.heap.size, k, none⟩) (.int .i64 x.lo) (by show (Value.slice (some ⟨g, 0, none⟩) nl vc).ownBlock ≠ some w4.heap.size; intro e; injection e with e; exact hne e))
      have HBn := Lib.hid ((hB.setCell (p := ⟨g, k * 6 + 4, none⟩) hg1 (.int .i64 x.lo)).setCell (p := ⟨w4.heap.size, k, none⟩) hs24 (.int .i64 x.lo))
      have mS := hS6.mx
      have cS := hS6.cap
      unfold maxLen at mS
      clear hO hO2 hO6 hT hT2 hT3 hS6 hB hx hel hll
      go_wp2_with fail
      go_roundw
      case rel => exact ⟨k + 1, by go_num, by omega, HO3.out, HT3.out, HBn.out⟩
      case measure => simp [intOf]; omega
    · obtain rfl : nl = k := by omega
      rw [exK_all l HL.out] at hO
      rw [loK_all l HL.out] at hT
      have hlx : (exL l).length = nl := by rw [exL_len, HL.out]
      have hs7 : SL encRs 6 wr va nl vc (exL l) := by
        obtain ⟨a, c, e, hS⟩ := hO.sl encRs_len
        injection e with e1 e2 e3
        subst e1 e3
        rw [hlx] at hS; exact hS
      have HE7 := Lib.hid hs7
      have HI7 := Lib.hid (box_ints hT (by rw [loL_len, HL.out]) (n := nl) (by omega))
      have HBW := Lib.hid (HBB.out.on hB)
      have HX7 := Lib.hid (HX1.out.below hB)
      have HLX := Lib.hid hlx
      clear hO hT hs7 hB hlx
      obtain ⟨E9, hE9⟩ : ∃ E9, agE S.sh (exL l) fs d = E9 := ⟨_, rfl⟩
      obtain ⟨d0, d1, d2, d3, d4, d5⟩ := HX7.out.g6
      have hRR := Lib.hid (again_any S va nl vc (exL l) fa fn fc fs d wr (ht.below HBW.out) (hS.below HBW.out) HE7.out (hF.below HBW.out) hG H4.out)
      rw [hE9] at hRR
      have HE9 := Lib.hid hE9
      clear hE9
      go_wp2_with fail
      refine hRR.out.mono ?_
      rintro e w10 ⟨P, hP, rfl, hPI, -, hB10⟩
      have hal := al0 w10 #[.slice P.ba P.bn P.bc, .slice P.wa P.wn P.wc, .slice P.ua P.un P.uc] 35
      have HXP := Lib.hid (Box.new w10 #[.slice P.ba P.bn P.bc, .slice P.wa P.wn P.wc, .slice P.ua P.un P.uc] 35)
      have HPI := Lib.hid (hPI.below hal)
      have HP := Lib.hid hP
      replace HBW := Lib.hid ((HBW.out.on hB10).on hal)
      replace HX7 := Lib.hid ((HX7.out.below hB10).below hal)
      replace HE7 := Lib.hid ((HE7.out.below hB10).below hal)
      replace HI7 := Lib.hid ((HI7.out.below hB10).below hal)
      clear hRR hB10 hPI hP hal d0 d1 d2 d3 d4 d5
      obtain ⟨d0, d1, d2, d3, d4, d5⟩ := HX7.out.g6
      have hRR := Lib.hid (results_any ptC S va nl vc (exL l) fa fn fc fs d _ (ht.below HBW.out) (hS.below HBW.out) HE7.out (hF.below HBW.out) hG)
      by_cases c9 : E9 = 0
      rotate_left
      · have g1 : (E9 != 0) = true := by simpa using c9
        clear c9
        go_wp2_with fail
        refine hRR.out.mono ?_
        rintro e w11 ⟨v11, rfl, -, hB11⟩
        clear hRR d0 d1 d2 d3 d4 d5
        go_wp2_with fail
        go_ret
        exact ⟨rfl, HBW.out.on hB11⟩
      subst c9
      have HLAW := Lib.hid (exact_law HE9.out)
      have HRL := Lib.hid (agR_len HE9.out)
      rw [HLAW.out.1, HLAW.out.2.1] at hRR
      go_wp2_with fail
      refine hRR.out.mono ?_
      rintro e w11 ⟨v11, rfl, hO11, hB11⟩
      obtain ⟨a11, c11, rfl, hs11⟩ := hO11.sl encRs_len
      rw [resL_len, HLX.out] at hs11 ⊢
      replace HBW := Lib.hid (HBW.out.on hB11)
      replace HX7 := Lib.hid (HX7.out.below hB11)
      replace HI7 := Lib.hid (HI7.out.below hB11)
      replace HXP := Lib.hid (HXP.out.below hB11)
      replace HPI := Lib.hid (HPI.out.below hB11)
      clear hRR hO11 hB11 d0 d1 d2 d3 d4 d5
      obtain ⟨d0, d1, d2, d3, d4, d5⟩ := HX7.out.g6
      have hRR := Lib.hid (exact_any S a11 nl c11 (resL fs d (exL l)) (some ⟨w4.heap.size, 0, none⟩) nl nl (loL l) w11 (ht.below HBW.out) (hS.below HBW.out) hs11 HI7.out)
      rw [HLAW.out.2.2.1] at hRR
      obtain ⟨R, hR⟩ : ∃ R, exR S.sh (resL fs d (exL l)) (loL l) = R := ⟨_, rfl⟩
      rw [hR] at hRR
      have HPR : Hid (P.r = ⟨rankL R, rankL R, []⟩) := Lib.hid (by rw [HP.out, HLAW.out.2.2.2, hR])
      have hRl : R.length = S.sh.cs.toNat := by
        have := HRL.out.1
        rw [HLAW.out.2.2.2, hR] at this
        rwa [rank_len] at this
      clear hs11 hR
      go_wp2_with fail
      refine hRR.out.mono ?_
      rintro e w12 ⟨v12, rfl, hO12, hB12⟩
      obtain ⟨pa, pc, rfl, hI12⟩ := hO12.ints
      replace HBW := Lib.hid (HBW.out.on hB12)
      replace HXP := Lib.hid (HXP.out.below hB12)
      replace HPI := Lib.hid (HPI.out.below hB12)
      have HRK := Lib.hid (rank_any pa R.length pc R w12 hI12 (by have := H4.out; omega))
      obtain ⟨rn, hrn⟩ : ∃ rn, R.length = rn := ⟨_, rfl⟩
      rw [hrn] at HRK ⊢
      clear hRR hO12 hB12 hI12 d0 d1 d2 d3 d4 d5 hrn
      go_wp2_with fail
      refine HRK.out.mono ?_
      rintro e w13 ⟨v13, rfl, hO13, hB13⟩
      obtain ⟨ka, kc, rfl, hI13⟩ := hO13.ints
      replace HBW := Lib.hid (HBW.out.on hB13)
      replace HXP := Lib.hid (HXP.out.below hB13)
      replace HPI := Lib.hid (HPI.out.below hB13)
      have hun : P.un = 0 := by rw [← HPI.out.und.len, HPR.out]; rfl
      obtain ⟨x0, x1, x2⟩ := HXP.out.g3
      rw [hun] at x2
      have hbe := HPI.out.best
      have hwo := HPI.out.worst
      rw [HPR.out] at hbe hwo
      have HBE := Lib.hid hbe
      have HWO := Lib.hid hwo
      have HI13 := Lib.hid hI13
      obtain ⟨kn, hkn⟩ : ∃ kn, (rankL R).length = kn := ⟨_, rfl⟩
      rw [hkn] at HI13 ⊢
      clear hO13 hB13 hI13 hbe hwo HRK hkn hun
      go_wp2_with fail
      refine (same13_any _ _ _ _ _ _ _ _ _ HBE.out HI13.out).mono ?_
      rintro e w' ⟨rfl, q1, rfl⟩
      rw [show decide (rankL R = rankL R) = true from decide_eq_true rfl]
      go_wp2_with fail
      refine (same13_any _ _ _ _ _ _ _ _ _ (HWO.out.drewN _) (HI13.out.drewN _)).mono ?_
      rintro e w' ⟨rfl, q2, rfl⟩
      rw [show decide (rankL R = rankL R) = true from decide_eq_true rfl]
      go_wp2_with fail
      go_ret
      exact ⟨rfl, below_drewN HBW.out _⟩
end Go.Proofs.YtehoidohallfcaaGreatDoor

