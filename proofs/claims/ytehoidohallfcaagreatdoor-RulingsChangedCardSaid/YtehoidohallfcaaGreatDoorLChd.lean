/- Changes lead from one ranking to the other (law54.RulingsChanged), at every input: the walk. -/
import Derived.Test.YtehoidohallfcaaGreatDoorSanB
import Derived.Test.YtehoidohallfcaaGreatDoorRuH
import Derived.Test.YtehoidohallfcaaGreatDoorChdM
import Derived.WalkKit
import Derived.WalkSpells
import Derived.WalkLawsBesides
import Derived.Deep.LoopGhost
import Derived.Deep.QuietTactic
import Derived.BigQuiet
import Derived.StillTailTactics
import Derived.Lib.Hide
import Derived.Outline
import Derived.Lib.QuietBelow
namespace Go.Proofs.YtehoidohallfcaaGreatDoor
open Go.RowKit
attribute [local go_sem] Oper.semAt_some

set_option maxRecDepth 20000 in
set_option maxHeartbeats 8000000 in
theorem lawChanged_any (S : Sp) (al : Option Addr) (nl cl : Nat) (l : List Rs) (fa : Option Addr) (fn fc : Nat) (fs : List (Ft Value)) (fr to' : Int) (W : World) (ht : Tab W) (hS : S.In W) (h0 : SL encRs 6 W al nl cl l) (hF : SL encFt 5 W fa fn fc fs) (hG : GrOk fs) :
    Calls Tryz.prog 7 #[.agg #[.int .i64 S.sh.cs, .int .i64 S.sh.ps, .slice S.la S.ln S.lc, .slice S.ca S.cn S.cc, .slice S.pa S.pn S.pc, .slice S.ra S.rn S.rc], .slice al nl cl, .slice fa fn fc, .int .i64 fr, .int .i64 to'] W fun e w' => RetB W (.bool true) e w' := by
  have hx1 := Box.new W #[.int .i64 S.sh.cs, .int .i64 S.sh.ps, .slice S.la S.ln S.lc, .slice S.ca S.cn S.cc, .slice S.pa S.pn S.pc, .slice S.ra S.rn S.rc] 25
  have hbb : Below W.heap.size W (W.alloc (.cells #[.int .i64 S.sh.cs, .int .i64 S.sh.ps, .slice S.la S.ln S.lc, .slice S.ca S.cn S.cc, .slice S.pa S.pn S.pc, .slice S.ra S.rn S.rc] 25)) := al0 _ _ _
  obtain ⟨w0, hw0⟩ : ∃ w0, W.alloc (.cells #[.int .i64 S.sh.cs, .int .i64 S.sh.ps, .slice S.la S.ln S.lc, .slice S.ca S.cn S.cc, .slice S.pa S.pn S.pc, .slice S.ra S.rn S.rc] 25) = w0 := ⟨_, rfl⟩
  rw [hw0] at hx1 hbb
  have HW0 := Lib.hid hw0
  have HL := Lib.hid h0.len
  have HFL := Lib.hid hF.len
  have HSA := Lib.hid (sane_any w0 (ht.below hbb))
  clear hw0
  cases hf : (few53 S.sh l && decide (fs.length ≤ 20))
  · have HF := Lib.hid hf
    clear hf
    go_enter Tryz.func7, Tryz.ntmps7
    go_wp2_with fail
    rw [HW0.out]
    go_wp2_with fail
    refine HSA.out.mono ?_
    rintro e w1 ⟨rfl, hB1⟩
    have hx1 := hx1.below hB1
    have hbb := hbb.on hB1
    have HFW := Lib.hid (few54_any S al nl cl l fa fn fc fs w1 (hS.below hbb) (h0.below hbb) (hF.below hbb))
    rw [HF.out] at HFW
    obtain ⟨d0, d1, d2, d3, d4, d5⟩ := hx1.g6
    go_wp2_with fail
    refine HFW.out.mono ?_
    rintro e w2 ⟨rfl, hB2⟩
    have hbb := hbb.on hB2
    have hx1 := hx1.below hB2
    clear HFW hB1 hB2 d0 d1 d2 d3 d4 d5
    go_wp2_with fail
    go_ret
    exact ⟨rfl, hbb⟩
  have h4 : S.sh.cs ≤ 4 := by
    unfold few53 at hf
    simp only [Bool.and_eq_true, decide_eq_true_eq] at hf
    omega
  have HF := Lib.hid hf
  have H4 := Lib.hid h4
  clear hf h4
  obtain ⟨E, hE⟩ : ∃ E, chE S.sh l fs fr to' = E := ⟨_, rfl⟩
  by_cases he : E = 0
  rotate_left
  · have HR : Hid (chR S.sh l fs fr to' = []) := Lib.hid (chR_bad (by rw [hE]; exact he))
    have HE := Lib.hid hE
    have g1 : (E != 0) = true := by simpa using he
    clear hE he
    go_enter Tryz.func7, Tryz.ntmps7
    go_wp2_with fail
    rw [HW0.out]
    go_wp2_with fail
    refine HSA.out.mono ?_
    rintro e w1 ⟨rfl, hB1⟩
    have hx1 := hx1.below hB1
    have hbb := hbb.on hB1
    have HFW := Lib.hid (few54_any S al nl cl l fa fn fc fs w1 (hS.below hbb) (h0.below hbb) (hF.below hbb))
    rw [HF.out] at HFW
    obtain ⟨d0, d1, d2, d3, d4, d5⟩ := hx1.g6
    go_wp2_with fail
    refine HFW.out.mono ?_
    rintro e w2 ⟨rfl, hB2⟩
    have hbb := hbb.on hB2
    have hx1 := hx1.below hB2
    clear HFW hB1 hB2 d0 d1 d2 d3 d4 d5
    obtain ⟨d0, d1, d2, d3, d4, d5⟩ := hx1.g6
    have hCC := Lib.hid (changes_any S al nl cl l fa fn fc fs fr to' w2 (ht.below hbb) (hS.below hbb) (h0.below hbb) (hF.below hbb) hG H4.out)
    rw [HE.out, HR.out] at hCC
    go_wp2_with fail
    refine hCC.out.mono ?_
    rintro e w3 ⟨v3, rfl, hO3, hB3⟩
    have hbb := hbb.on hB3
    have hx1 := hx1.below hB3
    obtain ⟨a3, c3, rfl, hs3⟩ := hO3.sl encCg_len
    clear hCC hB3 hO3 d0 d1 d2 d3 d4 d5
    clear hs3
    simp only [List.length_nil]
    go_wp2_with fail
    go_ret
    exact ⟨rfl, hbb⟩
  subst he
  have HE := Lib.hid hE
  have HZ := Lib.hid (chE_0 hE)
  have HR := Lib.hid (chR_0 hE)
  have HWY := Lib.hid (fun k => why_is (k := k) hE)
  have HLA := Lib.hid (agR_len HZ.out.1)
  have HLB := Lib.hid (agR_len HZ.out.2.1)
  clear hE
  obtain ⟨wy, hwy⟩ : ∃ wy, whyN fs fr to' = wy := ⟨_, rfl⟩
  rw [hwy] at HR HWY
  clear hwy
  go_enter Tryz.func7, Tryz.ntmps7
  go_wp2_with fail
  rw [HW0.out]
  go_wp2_with fail
  refine HSA.out.mono ?_
  rintro e w1 ⟨rfl, hB1⟩
  have hx1 := hx1.below hB1
  have hbb := hbb.on hB1
  have HFW := Lib.hid (few54_any S al nl cl l fa fn fc fs w1 (hS.below hbb) (h0.below hbb) (hF.below hbb))
  rw [HF.out] at HFW
  obtain ⟨d0, d1, d2, d3, d4, d5⟩ := hx1.g6
  go_wp2_with fail
  refine HFW.out.mono ?_
  rintro e w2 ⟨rfl, hB2⟩
  have hbb := hbb.on hB2
  have hx1 := hx1.below hB2
  clear HFW hB1 hB2 d0 d1 d2 d3 d4 d5
  obtain ⟨d0, d1, d2, d3, d4, d5⟩ := hx1.g6
  have hCC := Lib.hid (changes_any S al nl cl l fa fn fc fs fr to' w2 (ht.below hbb) (hS.below hbb) (h0.below hbb) (hF.below hbb) hG H4.out)
  rw [HE.out, HR.out] at hCC
  go_wp2_with fail
  refine hCC.out.mono ?_
  rintro e w3 ⟨v3, rfl, hO3, hB3⟩
  have hbb := hbb.on hB3
  have hx1 := hx1.below hB3
  obtain ⟨a3, c3, rfl, hs3⟩ := hO3.sl encCg_len
  clear hCC hB3 hO3 d0 d1 d2 d3 d4 d5
  obtain ⟨ar, har⟩ : ∃ ar, agR S.sh l fs fr = ar := ⟨_, rfl⟩
  obtain ⟨br, hbr⟩ : ∃ br, agR S.sh l fs to' = br := ⟨_, rfl⟩
  rw [har, hbr] at hs3 HWY ⊢
  rw [har] at HLA
  rw [hbr] at HLB
  obtain ⟨d0, d1, d2, d3, d4, d5⟩ := hx1.g6
  have hAA := Lib.hid (again_any S al nl cl l fa fn fc fs fr w3 (ht.below hbb) (hS.below hbb) (h0.below hbb) (hF.below hbb) hG H4.out)
  rw [HZ.out.1, har] at hAA
  have HAR := Lib.hid har
  have HBR := Lib.hid hbr
  clear har hbr
  have HS3 := Lib.hid hs3
  clear hs3
  obtain ⟨n3, hn3⟩ : ∃ n3, (cgTo ar br wy S.sh.cs.toNat).length = n3 := ⟨_, rfl⟩
  rw [hn3] at HS3 ⊢
  have HN3 := Lib.hid hn3
  clear hn3
  go_wp2_with fail
  refine hAA.out.mono ?_
  rintro e w4 ⟨⟨ar', ab, an, ac, aw, am, ad, au, aj, ak⟩, hA, rfl, ⟨ai1, ai2, -⟩, -, hB4⟩
  simp only at hA ai1 ai2
  subst hA
  clear hAA d0 d1 d2 d3 d4 d5
  have hbb := hbb.on hB4
  have hx1 := hx1.below hB4
  replace HS3 := Lib.hid (HS3.out.below hB4)
  obtain rfl : am = an := by rw [← ai1.len, ← ai2.len, HLA.out.1, HLA.out.2.1]
  have hal := al0 w4 #[.slice ab am ac, .slice aw am ad, .slice au aj ak] 35
  have hxA := Box.new w4 #[.slice ab am ac, .slice aw am ad, .slice au aj ak] 35
  have hAA := Lib.hid (again_any S al nl cl l fa fn fc fs to' (w4.alloc (.cells #[.slice ab am ac, .slice aw am ad, .slice au aj ak] 35)) (ht.below (hbb.on hal)) (hS.below (hbb.on hal)) (h0.below (hbb.on hal)) (hF.below (hbb.on hal)) hG H4.out)
  rw [HZ.out.2.1, HBR.out] at hAA
  obtain ⟨d0, d1, d2, d3, d4, d5⟩ := (hx1.below hal).g6
  go_wp2_with fail
  refine hAA.out.mono ?_
  rintro e w6 ⟨⟨br', bb, bn, bc, bw, bm, bd, bu, bj, bk⟩, hA, rfl, ⟨bi1, bi2, -⟩, -, hB6⟩
  simp only at hA bi1 bi2
  subst hA
  clear hAA d0 d1 d2 d3 d4 d5 hB4
  obtain rfl : bm = bn := by rw [← bi1.len, ← bi2.len, HLB.out.1, HLB.out.2.1]
  obtain rfl : bm = am := by rw [← bi1.len, ← ai1.len, HLB.out.1, HLA.out.1]
  have hcs : S.sh.cs = (bm : Int) := by
    have h1 := HLA.out.1
    have h2 := HLA.out.2.2
    have h3 := ai1.len
    omega
  have hal6 := al0 w6 #[.slice bb bm bc, .slice bw bm bd, .slice bu bj bk] 35
  have hxB := Box.new w6 #[.slice bb bm bc, .slice bw bm bd, .slice bu bj bk] 35
  have hb7 := (hal.on hB6).on hal6
  obtain ⟨d0, d1, d2, d3, d4, d5⟩ := (hx1.below hb7).g6
  obtain ⟨x0, x1, -⟩ := ((hxA.below hB6).below hal6).g3
  obtain ⟨y0, y1, -⟩ := hxB.g3
  rw [hcs] at d0 HS3 HN3 HWY
  rw [Int.toNat_natCast] at HS3 HN3 HWY
  have HCS := Lib.hid hcs
  have HXB := Lib.hid hxB
  have HXA := Lib.hid ((hxA.below hB6).below hal6)
  have HB7 := Lib.hid hb7
  have HL6 := Lib.hid hal6
  have HBB := Lib.hid hbb
  have HA1 := Lib.hid ai1
  have HA2 := Lib.hid ai2
  have HB1 := Lib.hid bi1
  have HB2 := Lib.hid bi2
  clear hcs hxB hxA hx1 hbb hb7 hal hal6 hB6 ai1 ai2 bi1 bi2
  go_wp2_with fail
  clear d0 d1 d2 d3 d4 d5 x0 x1 y0 y1
  replace HBB := Lib.hid (HBB.out.on HB7.out)
  replace HS3 := Lib.hid (HS3.out.below HB7.out)
  replace HA1 := Lib.hid (HA1.out.below HB7.out)
  replace HA2 := Lib.hid (HA2.out.below HB7.out)
  replace HB1 := Lib.hid (HB1.out.below HL6.out)
  replace HB2 := Lib.hid (HB2.out.below HL6.out)
  obtain ⟨w7, hw7⟩ : ∃ w7, w6.alloc (.cells #[.slice bb bm bc, .slice bw bm bd, .slice bu bj bk] 35) = w7 := ⟨_, rfl⟩
  rw [hw7] at HBB HS3 HA1 HA2 HB1 HB2 HXA HXB ⊢
  obtain ⟨pa, hpa⟩ : ∃ p, w4.heap.size = p := ⟨_, rfl⟩
  obtain ⟨pb, hpb⟩ : ∃ p, w6.heap.size = p := ⟨_, rfl⟩
  rw [hpa] at HXA ⊢
  rw [hpb] at HXB ⊢
  clear hw7 hpa hpb HB7 HL6
  have hbm : 0 < bm := by
    have h1 := HCS.out
    have h2 := HLA.out.2.2
    omega
  obtain ⟨b1, o1, rfl, hb1⟩ := HA1.out.at' hbm
  obtain ⟨b2, o2, rfl, hb2⟩ := HA2.out.at' hbm
  obtain ⟨b3, o3, rfl, hb3⟩ := HB1.out.at' hbm
  obtain ⟨b4, o4, rfl, hb4⟩ := HB2.out.at' hbm
  clear hb1 hb2 hb3 hb4
  go_loopw [18, 96] (fun a i wr => ∃ k : Nat, i = .int .i64 k ∧ k ≤ bm ∧ a = .int .i64 ((cgTo ar' br' wy k).length : Nat) ∧ Below w7.heap.size w7 wr) (fun _ i _ => bm - (intOf i).toNat)
  case atStart => exact ⟨0, rfl, by omega, rfl, Below.refl _ _⟩
  case round =>
    obtain ⟨k, rfl, hk, rfl, hBw⟩ := hrel
    by_cases hlt : k < bm
    rotate_left
    · obtain rfl : bm = k := by omega
      rw [HN3.out]
      have HBw := Lib.hid (HBB.out.on hBw)
      clear hBw
      go_wp2_with fail
      go_ret
      exact ⟨rfl, HBw.out⟩
    have i1 := HA1.out.below hBw
    have i2 := HA2.out.below hBw
    have i3 := HB1.out.below hBw
    have i4 := HB2.out.below hBw
    obtain ⟨p1, hp1⟩ := i1.has hlt
    obtain ⟨p2, hp2⟩ := i2.has hlt
    obtain ⟨q1, hq1⟩ := i3.has hlt
    obtain ⟨q2, hq2⟩ := i4.has hlt
    have e1 := i1.get hp1
    have e2 := i2.get hp2
    have e3 := i3.get hq1
    have e4 := i4.get hq2
    have m1 := i1.mx
    have m2 := i2.mx
    have m3 := i3.mx
    have m4 := i4.mx
    have k1 := i1.cap
    have k2 := i2.cap
    have k3 := i3.cap
    have k4 := i4.cap
    unfold maxLen at m1 m2 m3 m4
    obtain ⟨x0, x1, -⟩ := (HXA.out.below hBw).g3
    obtain ⟨y0, y1, -⟩ := (HXB.out.below hBw).g3
    have hcg := cgB_eq ar' br' k hp1 hp2 hq1 hq2 wy
    have s0 : (0 : Int) ≤ (k : Int) := by omega
    have s1 : (k : Int) < (bm : Int) := by omega
    have HBw := Lib.hid hBw
    clear i1 i2 i3 i4 hp1 hp2 hq1 hq2
    by_cases hpq : p1 = q1 ∧ p2 = q2
    · have HL0 : Hid ((cgTo ar' br' wy (k + 1)).length = (cgTo ar' br' wy k).length) := Lib.hid (cgTo_l0 _ _ _ (by rw [hcg.1, decide_eq_true hpq]; rfl))
      obtain ⟨rfl, rfl⟩ := hpq
      obtain ⟨N, hN⟩ : ∃ N, (cgTo ar' br' wy k).length = N := ⟨_, rfl⟩
      rw [hN] at HL0 ⊢
      have hz := hBw.size
      clear hcg hN hBw
      go_wp2_with (go_quiet (fail))
      go_roundw
      case rel => exact ⟨k + 1, by go_num, by omega, by rw [HL0.out], below_drewN HBw.out _⟩
      case measure => simp [intOf]; omega
    have hb : cgB ar' br' k = true := by rw [hcg.1, decide_eq_false hpq]; rfl
    have hxN := cgTo_at ar' br' wy hlt hb
    have hN3 := cgTo_lt ar' br' wy hlt hb
    have HL1 := Lib.hid (cgTo_l1 ar' br' wy hb)
    have hw := HWY.out k hlt hb
    obtain ⟨N, hN⟩ : ∃ N, (cgTo ar' br' wy k).length = N := ⟨_, rfl⟩
    rw [hcg.2] at hxN
    rw [hN] at hxN hN3 HL1 ⊢
    rw [HN3.out] at hN3
    rw [HFL.out] at hw
    obtain ⟨b5, o5, rfl, hb5⟩ := HS3.out.at' (by omega)
    have hS3 := HS3.out.below hBw
    obtain ⟨f0, f1, f2, f3, f4, f5⟩ := hS3.cg6 hxN
    have m5 := hS3.mx
    have k5 := hS3.cap
    unfold maxLen at m5
    have HW := Lib.hid hw.2
    have hwf := hw.1
    obtain ⟨b6, o6, rfl, hb6⟩ := hF.at' (by omega)
    have hEqA := fun w => eqIn_rng p1 p2 p1 p2 w
    have hEqB := fun w => eqIn_rng q1 q2 q1 q2 w
    rw [decide_eq_true ⟨rfl, rfl⟩] at hEqA hEqB
    have hgd := guard_rng
    have s2 : (N : Int) < (n3 : Int) := by omega
    have s3 : (0 : Int) ≤ (N : Int) := by omega
    have s4 : (wy : Int) < (fn : Int) := by omega
    have s5 : (0 : Int) ≤ (wy : Int) := by omega
    have mF := hF.mx
    have kF := hF.cap
    unfold maxLen at mF
    have hz := hBw.size
    have HXN := Lib.hid hxN
    clear hcg hN hxN hb hw hS3 hb5 hb6
    by_cases c1 : p1 = q1
    rotate_left
    · have n1 : (p1 == q1) = false := by simpa using c1
      clear hpq c1 hBw
      as_aux_lemma =>
        go_wp2_with (go_quiet (fail))
        go_loopw [20] (fun j w8 => ∃ j' : Nat, j = .int .i64 j' ∧ j' ≤ wy + 1 ∧ Below wr.heap.size wr w8) (fun j _ => wy + 1 - (intOf j).toNat)
        case atStart => exact ⟨0, rfl, by omega, (by repeat (first | (with_reducible exact Below.refl _ _) | (with_reducible assumption) | (with_reducible refine below_drewN ?_ _) | ((with_reducible refine Below.setCell ?_ ?_ _); rotate_left; focus (first | (simp; done) | (simp; omega) | omega)) | ((with_reducible refine Below.alloc ?_ ?_ _); rotate_left; focus (first | (simp; done) | (simp; omega) | omega)) | (with_reducible refine Below.drew ?_)))⟩
        case round =>
          clear e1 e2 e3 e4 x0 x1 y0 y1 f0 f1 f2 f3 f4 f5
          obtain ⟨j', rfl, hj, hB8⟩ := hrel
          have hB9 := HBw.out.on hB8
          have hS9 := HS3.out.below hB9
          obtain ⟨-, -, -, -, -, f5⟩ := hS9.cg6 HXN.out
          have v0 : (0 : Int) ≤ (j' : Int) := by omega
          have HB8 := Lib.hid hB8
          by_cases hjw : j' ≤ wy
          · obtain ⟨x, hx⟩ := hF.get (show j' < fn by omega)
            have hFr := hF.below (HBB.out.on hB9)
            obtain ⟨g0, g1, g2, g3, g4⟩ := hFr.ft5 hx
            have hbg := HW.out j' x hjw hx
            have v1 : (j' : Int) ≤ (wy : Int) := by omega
            have v2 : (j' : Int) < (fn : Int) := by omega
            unfold begB at hbg
            clear hx hFr hS9 hB9 hB8
            by_cases hjj : j' = wy
            · subst hjj
              have h3 : x.kd ≠ 3 ∧ fr < x.dy ∧ x.dy ≤ to' := by simpa [and_assoc] using hbg
              have n2 : (x.kd != 3) = true := by simpa using h3.1
              have n3 : decide (fr < x.dy) = true := by simpa using h3.2.1
              have n4 : decide (x.dy ≤ to') = true := by simpa using h3.2.2
              clear hbg h3
              go_wp2_with fail
              go_roundw
              case rel => exact ⟨j' + 1, by go_num, by omega, HB8.out⟩
              case measure => first | (simp [intOf]; done) | (simp [intOf]; omega)
            have n5 : ((j' : Int) == (wy : Int)) = false := by simp; omega
            by_cases c1 : x.kd = 3
            · have n2 : (x.kd != 3) = false := by simpa using c1
              clear hbg c1 hjj
              go_wp2_with fail
              go_roundw
              case rel => exact ⟨j' + 1, by go_num, by omega, HB8.out⟩
              case measure => first | (simp [intOf]; done) | (simp [intOf]; omega)
            have n2 : (x.kd != 3) = true := by simpa using c1
            by_cases c2 : fr < x.dy
            rotate_left
            · have n3 : decide (fr < x.dy) = false := by simpa using c2
              clear hbg c1 c2 hjj
              go_wp2_with fail
              go_roundw
              case rel => exact ⟨j' + 1, by go_num, by omega, HB8.out⟩
              case measure => first | (simp [intOf]; done) | (simp [intOf]; omega)
            have n3 : decide (fr < x.dy) = true := by simpa using c2
            have n4 : decide (x.dy ≤ to') = false := by
              cases e : decide (x.dy ≤ to')
              · rfl
              · rw [n3, e, decide_eq_true c1, decide_eq_false hjj] at hbg
                cases hbg
            clear hbg c1 c2 hjj
            go_wp2_with fail
            go_roundw
            case rel => exact ⟨j' + 1, by go_num, by omega, HB8.out⟩
            case measure => first | (simp [intOf]; done) | (simp [intOf]; omega)
          · have v1 : decide ((j' : Int) ≤ (wy : Int)) = false := by simp; omega
            have HB9 := Lib.hid hB9
            clear hS9 hB9 hB8
            go_wp2_with fail
            go_roundw
            case rel => exact ⟨k + 1, by go_num, by omega, by rw [HL1.out]; go_num, HB9.out⟩
            case measure => simp [intOf]; omega
    · have c2 : (p2 == q2) = false := by simpa [c1] using hpq
      subst c1
      clear hpq hBw
      as_aux_lemma =>
        go_wp2_with (go_quiet (fail))
        go_loopw [20] (fun j w8 => ∃ j' : Nat, j = .int .i64 j' ∧ j' ≤ wy + 1 ∧ Below wr.heap.size wr w8) (fun j _ => wy + 1 - (intOf j).toNat)
        case atStart => exact ⟨0, rfl, by omega, (by repeat (first | (with_reducible exact Below.refl _ _) | (with_reducible assumption) | (with_reducible refine below_drewN ?_ _) | ((with_reducible refine Below.setCell ?_ ?_ _); rotate_left; focus (first | (simp; done) | (simp; omega) | omega)) | ((with_reducible refine Below.alloc ?_ ?_ _); rotate_left; focus (first | (simp; done) | (simp; omega) | omega)) | (with_reducible refine Below.drew ?_)))⟩
        case round =>
          clear e1 e2 e3 e4 x0 x1 y0 y1 f0 f1 f2 f3 f4 f5
          obtain ⟨j', rfl, hj, hB8⟩ := hrel
          have hB9 := HBw.out.on hB8
          have hS9 := HS3.out.below hB9
          obtain ⟨-, -, -, -, -, f5⟩ := hS9.cg6 HXN.out
          have v0 : (0 : Int) ≤ (j' : Int) := by omega
          have HB8 := Lib.hid hB8
          by_cases hjw : j' ≤ wy
          · obtain ⟨x, hx⟩ := hF.get (show j' < fn by omega)
            have hFr := hF.below (HBB.out.on hB9)
            obtain ⟨g0, g1, g2, g3, g4⟩ := hFr.ft5 hx
            have hbg := HW.out j' x hjw hx
            have v1 : (j' : Int) ≤ (wy : Int) := by omega
            have v2 : (j' : Int) < (fn : Int) := by omega
            unfold begB at hbg
            clear hx hFr hS9 hB9 hB8
            by_cases hjj : j' = wy
            · subst hjj
              have h3 : x.kd ≠ 3 ∧ fr < x.dy ∧ x.dy ≤ to' := by simpa [and_assoc] using hbg
              have n2 : (x.kd != 3) = true := by simpa using h3.1
              have n3 : decide (fr < x.dy) = true := by simpa using h3.2.1
              have n4 : decide (x.dy ≤ to') = true := by simpa using h3.2.2
              clear hbg h3
              go_wp2_with fail
              go_roundw
              case rel => exact ⟨j' + 1, by go_num, by omega, HB8.out⟩
              case measure => first | (simp [intOf]; done) | (simp [intOf]; omega)
            have n5 : ((j' : Int) == (wy : Int)) = false := by simp; omega
            by_cases c1 : x.kd = 3
            · have n2 : (x.kd != 3) = false := by simpa using c1
              clear hbg c1 hjj
              go_wp2_with fail
              go_roundw
              case rel => exact ⟨j' + 1, by go_num, by omega, HB8.out⟩
              case measure => first | (simp [intOf]; done) | (simp [intOf]; omega)
            have n2 : (x.kd != 3) = true := by simpa using c1
            by_cases c2 : fr < x.dy
            rotate_left
            · have n3 : decide (fr < x.dy) = false := by simpa using c2
              clear hbg c1 c2 hjj
              go_wp2_with fail
              go_roundw
              case rel => exact ⟨j' + 1, by go_num, by omega, HB8.out⟩
              case measure => first | (simp [intOf]; done) | (simp [intOf]; omega)
            have n3 : decide (fr < x.dy) = true := by simpa using c2
            have n4 : decide (x.dy ≤ to') = false := by
              cases e : decide (x.dy ≤ to')
              · rfl
              · rw [n3, e, decide_eq_true c1, decide_eq_false hjj] at hbg
                cases hbg
            clear hbg c1 c2 hjj
            go_wp2_with fail
            go_roundw
            case rel => exact ⟨j' + 1, by go_num, by omega, HB8.out⟩
            case measure => first | (simp [intOf]; done) | (simp [intOf]; omega)
          · have v1 : decide ((j' : Int) ≤ (wy : Int)) = false := by simp; omega
            have HB9 := Lib.hid hB9
            clear hS9 hB9 hB8
            go_wp2_with fail
            go_roundw
            case rel => exact ⟨k + 1, by go_num, by omega, by rw [HL1.out]; go_num, HB9.out⟩
            case measure => simp [intOf]; omega
end Go.Proofs.YtehoidohallfcaaGreatDoor

