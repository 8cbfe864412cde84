/- Results by a later day (law54.RulingsLater), at every input: the walk. -/
import Derived.Test.YtehoidohallfcaaGreatDoorSanB
import Derived.Test.YtehoidohallfcaaGreatDoorLwM
import Derived.WalkKit
import Derived.WalkSpells
import Derived.WalkLawsBesides
import Derived.Deep.LoopGhost
import Derived.Deep.QuietTactic
import Derived.BigQuiet
import Derived.StillTailTactics
import Derived.Lib.Hide
import Derived.Outline
import Derived.Lib.QuietBelow
namespace Go.Proofs.YtehoidohallfcaaGreatDoor
open Go.RowKit

theorem region_two {c : Code} {P : Program} {Q : Exit → Act → World → Prop} {a : Act} {w : World} {R : Nat → Nat → World → Prop} {F : Nat → Nat → Act}
    (h : c.wp P (NormQ fun _ a' w' => ∃ p q, a' = F p q ∧ R p q w') a w) (hk : ∀ p q w', R p q w' → Q .normal (F p q) w') : c.wp P Q a w :=
  wp_mono h fun e a' w' ⟨he, p, q, ha, hr⟩ => by subst he ha; exact hk _ _ _ hr
def begsTo (fs : List (Ft Value)) (d e : Int) (k : Nat) : Bool := (fs.take k).any (begB d e)
theorem begsTo_step {fs : List (Ft Value)} {d e : Int} {k : Nat} {f : Ft Value} (h : fs[k]? = some f) : begsTo fs d e (k + 1) = (begsTo fs d e k || begB d e f) := by
  unfold begsTo; rw [takeF h, List.any_append]; simp
set_option maxRecDepth 20000 in
set_option maxHeartbeats 8000000 in
theorem lawLater_any (S : Sp) (al : Option Addr) (nl cl : Nat) (l : List Rs) (fa : Option Addr) (fn fc : Nat) (fs : List (Ft Value)) (fr to' : Int) (W : World) (ht : Tab W) (hS : S.In W) (h0 : SL encRs 6 W al nl cl l) (hF : SL encFt 5 W fa fn fc fs) (hG : GrOk fs) :
    Calls Tryz.prog 6 #[.agg #[.int .i64 S.sh.cs, .int .i64 S.sh.ps, .slice S.la S.ln S.lc, .slice S.ca S.cn S.cc, .slice S.pa S.pn S.pc, .slice S.ra S.rn S.rc], .slice al nl cl, .slice fa fn fc, .int .i64 fr, .int .i64 to'] W fun e w' => RetB W (.bool true) e w' := by
  have hx1 := Box.new W #[.int .i64 S.sh.cs, .int .i64 S.sh.ps, .slice S.la S.ln S.lc, .slice S.ca S.cn S.cc, .slice S.pa S.pn S.pc, .slice S.ra S.rn S.rc] 25
  have hbb : Below W.heap.size W (W.alloc (.cells #[.int .i64 S.sh.cs, .int .i64 S.sh.ps, .slice S.la S.ln S.lc, .slice S.ca S.cn S.cc, .slice S.pa S.pn S.pc, .slice S.ra S.rn S.rc] 25)) := al0 _ _ _
  obtain ⟨w0, hw0⟩ : ∃ w0, W.alloc (.cells #[.int .i64 S.sh.cs, .int .i64 S.sh.ps, .slice S.la S.ln S.lc, .slice S.ca S.cn S.cc, .slice S.pa S.pn S.pc, .slice S.ra S.rn S.rc] 25) = w0 := ⟨_, rfl⟩
  rw [hw0] at hx1 hbb
  have HW0 := Lib.hid hw0
  have HL := Lib.hid h0.len
  have HFL := Lib.hid hF.len
  have HSA := Lib.hid (sane_any w0 (ht.below hbb))
  clear hw0
  cases hf : (few53 S.sh l && decide (fs.length ≤ 20))
  · have HF := Lib.hid hf
    clear hf
    go_enter Tryz.func6, Tryz.ntmps6
    go_wp2_with fail
    rw [HW0.out]
    go_wp2_with fail
    refine HSA.out.mono ?_
    rintro e w1 ⟨rfl, hB1⟩
    have hx1 := hx1.below hB1
    have hbb := hbb.on hB1
    have HFW := Lib.hid (few54_any S al nl cl l fa fn fc fs w1 (hS.below hbb) (h0.below hbb) (hF.below hbb))
    rw [HF.out] at HFW
    obtain ⟨d0, d1, d2, d3, d4, d5⟩ := hx1.g6
    go_wp2_with fail
    refine HFW.out.mono ?_
    rintro e w2 ⟨rfl, hB2⟩
    have hbb := hbb.on hB2
    have hx1 := hx1.below hB2
    clear HFW hB1 hB2 d0 d1 d2 d3 d4 d5
    go_wp2_with fail
    go_ret
    exact ⟨rfl, hbb⟩
  have h4 : S.sh.cs ≤ 4 := by
    unfold few53 at hf
    simp only [Bool.and_eq_true, decide_eq_true_eq] at hf
    omega
  have hl12 : nl ≤ 12 := by
    unfold few53 at hf
    simp only [Bool.and_eq_true, decide_eq_true_eq] at hf
    have := HL.out; omega
  have hf20 : fn ≤ 20 := by
    simp only [Bool.and_eq_true, decide_eq_true_eq] at hf
    have := HFL.out; omega
  have HF := Lib.hid hf
  clear hf
  by_cases ho : to' < fr
  · have n1 : decide (to' < fr) = true := by simpa using ho
    clear ho
    go_enter Tryz.func6, Tryz.ntmps6
    go_wp2_with fail
    rw [HW0.out]
    go_wp2_with fail
    refine HSA.out.mono ?_
    rintro e w1 ⟨rfl, hB1⟩
    have hx1 := hx1.below hB1
    have hbb := hbb.on hB1
    have HFW := Lib.hid (few54_any S al nl cl l fa fn fc fs w1 (hS.below hbb) (h0.below hbb) (hF.below hbb))
    rw [HF.out] at HFW
    obtain ⟨d0, d1, d2, d3, d4, d5⟩ := hx1.g6
    go_wp2_with fail
    refine HFW.out.mono ?_
    rintro e w2 ⟨rfl, hB2⟩
    have hbb := hbb.on hB2
    have hx1 := hx1.below hB2
    clear HFW hB1 hB2 d0 d1 d2 d3 d4 d5
    go_wp2_with fail
    go_ret
    exact ⟨rfl, hbb⟩
  have n1 : decide (to' < fr) = false := by simpa using ho
  have HLE : Hid (fr ≤ to') := Lib.hid (by omega)
  clear ho
  obtain ⟨E1, hE1⟩ : ∃ E, ruE S.sh l fs fr = E := ⟨_, rfl⟩
  obtain ⟨E2, hE2⟩ : ∃ E, ruE S.sh l fs to' = E := ⟨_, rfl⟩
  have HE1 := Lib.hid hE1
  have HE2 := Lib.hid hE2
  by_cases c1 : E1 = 0
  rotate_left
  · have g1 : (E1 != 0) = true := by simpa using c1
    clear hE1 hE2 c1
    go_enter Tryz.func6, Tryz.ntmps6
    go_wp2_with fail
    rw [HW0.out]
    go_wp2_with fail
    refine HSA.out.mono ?_
    rintro e w1 ⟨rfl, hB1⟩
    have hx1 := hx1.below hB1
    have hbb := hbb.on hB1
    have HFW := Lib.hid (few54_any S al nl cl l fa fn fc fs w1 (hS.below hbb) (h0.below hbb) (hF.below hbb))
    rw [HF.out] at HFW
    obtain ⟨d0, d1, d2, d3, d4, d5⟩ := hx1.g6
    go_wp2_with fail
    refine HFW.out.mono ?_
    rintro e w2 ⟨rfl, hB2⟩
    have hbb := hbb.on hB2
    have hx1 := hx1.below hB2
    clear HFW hB1 hB2 d0 d1 d2 d3 d4 d5
    obtain ⟨d0, d1, d2, d3, d4, d5⟩ := hx1.g6
    have hRR := Lib.hid (results_any ptC S al nl cl l fa fn fc fs fr w2 (ht.below hbb) (hS.below hbb) (h0.below hbb) (hF.below hbb) hG)
    rw [HE1.out] at hRR
    go_wp2_with fail
    refine hRR.out.mono ?_
    rintro e w3 ⟨v3, rfl, hO3, hB3⟩
    have hbb := hbb.on hB3
    have hx1 := hx1.below hB3
    clear hRR d0 d1 d2 d3 d4 d5
    clear hB3
    obtain ⟨d0, d1, d2, d3, d4, d5⟩ := hx1.g6
    have hRR := Lib.hid (results_any ptC S al nl cl l fa fn fc fs to' w3 (ht.below hbb) (hS.below hbb) (h0.below hbb) (hF.below hbb) hG)
    rw [HE2.out] at hRR
    go_wp2_with fail
    refine hRR.out.mono ?_
    rintro e w4 ⟨v4, rfl, hO4, hB3⟩
    have hbb := hbb.on hB3
    have hx1 := hx1.below hB3
    clear hRR d0 d1 d2 d3 d4 d5
    go_wp2_with fail
    go_ret
    exact ⟨rfl, hbb⟩
  subst c1
  by_cases c2 : E2 = 0
  rotate_left
  · have g2 : (E2 != 0) = true := by simpa using c2
    clear hE1 hE2 c2
    go_enter Tryz.func6, Tryz.ntmps6
    go_wp2_with fail
    rw [HW0.out]
    go_wp2_with fail
    refine HSA.out.mono ?_
    rintro e w1 ⟨rfl, hB1⟩
    have hx1 := hx1.below hB1
    have hbb := hbb.on hB1
    have HFW := Lib.hid (few54_any S al nl cl l fa fn fc fs w1 (hS.below hbb) (h0.below hbb) (hF.below hbb))
    rw [HF.out] at HFW
    obtain ⟨d0, d1, d2, d3, d4, d5⟩ := hx1.g6
    go_wp2_with fail
    refine HFW.out.mono ?_
    rintro e w2 ⟨rfl, hB2⟩
    have hbb := hbb.on hB2
    have hx1 := hx1.below hB2
    clear HFW hB1 hB2 d0 d1 d2 d3 d4 d5
    obtain ⟨d0, d1, d2, d3, d4, d5⟩ := hx1.g6
    have hRR := Lib.hid (results_any ptC S al nl cl l fa fn fc fs fr w2 (ht.below hbb) (hS.below hbb) (h0.below hbb) (hF.below hbb) hG)
    rw [HE1.out] at hRR
    go_wp2_with fail
    refine hRR.out.mono ?_
    rintro e w3 ⟨v3, rfl, hO3, hB3⟩
    have hbb := hbb.on hB3
    have hx1 := hx1.below hB3
    clear hRR d0 d1 d2 d3 d4 d5
    clear hB3
    obtain ⟨d0, d1, d2, d3, d4, d5⟩ := hx1.g6
    have hRR := Lib.hid (results_any ptC S al nl cl l fa fn fc fs to' w3 (ht.below hbb) (hS.below hbb) (h0.below hbb) (hF.below hbb) hG)
    rw [HE2.out] at hRR
    go_wp2_with fail
    refine hRR.out.mono ?_
    rintro e w4 ⟨v4, rfl, hO4, hB3⟩
    have hbb := hbb.on hB3
    have hx1 := hx1.below hB3
    clear hRR d0 d1 d2 d3 d4 d5
    go_wp2_with fail
    go_ret
    exact ⟨rfl, hbb⟩
  subst c2
  clear hE1 hE2
  go_enter Tryz.func6, Tryz.ntmps6
  go_wp2_with fail
  rw [HW0.out]
  go_wp2_with fail
  refine HSA.out.mono ?_
  rintro e w1 ⟨rfl, hB1⟩
  have hx1 := hx1.below hB1
  have hbb := hbb.on hB1
  have HFW := Lib.hid (few54_any S al nl cl l fa fn fc fs w1 (hS.below hbb) (h0.below hbb) (hF.below hbb))
  rw [HF.out] at HFW
  obtain ⟨d0, d1, d2, d3, d4, d5⟩ := hx1.g6
  go_wp2_with fail
  refine HFW.out.mono ?_
  rintro e w2 ⟨rfl, hB2⟩
  have hbb := hbb.on hB2
  have hx1 := hx1.below hB2
  clear HFW hB1 hB2 d0 d1 d2 d3 d4 d5
  obtain ⟨d0, d1, d2, d3, d4, d5⟩ := hx1.g6
  have hRR := Lib.hid (results_any ptC S al nl cl l fa fn fc fs fr w2 (ht.below hbb) (hS.below hbb) (h0.below hbb) (hF.below hbb) hG)
  rw [HE1.out, ruR_0 HE1.out] at hRR
  go_wp2_with fail
  refine hRR.out.mono ?_
  rintro e w3 ⟨v3, rfl, hO3, hB3⟩
  have hbb := hbb.on hB3
  have hx1 := hx1.below hB3
  clear hRR d0 d1 d2 d3 d4 d5
  clear hB3
  obtain ⟨d0, d1, d2, d3, d4, d5⟩ := hx1.g6
  have hRR := Lib.hid (results_any ptC S al nl cl l fa fn fc fs to' w3 (ht.below hbb) (hS.below hbb) (h0.below hbb) (hF.below hbb) hG)
  rw [HE2.out, ruR_0 HE2.out] at hRR
  go_wp2_with fail
  refine hRR.out.mono ?_
  rintro e w4 ⟨v4, rfl, hO4, hB3⟩
  have hbb := hbb.on hB3
  have hx1 := hx1.below hB3
  clear hRR d0 d1 d2 d3 d4 d5
  obtain ⟨a3, c3, rfl, hs3⟩ := hO3.sl encRs_len
  obtain ⟨a4, c4, rfl, hs4⟩ := hO4.sl encRs_len
  have hs3 := hs3.below hB3
  rw [resL_len, HL.out] at hs3 hs4 ⊢
  rw [resL_len, HL.out]
  have hla := later_again (s := S.sh) (l := l) HLE.out HE2.out
  obtain ⟨d0, d1, d2, d3, d4, d5⟩ := hx1.g6
  have hRR := Lib.hid (results_any ptC S a3 nl c3 (resL fs fr l) fa fn fc fs to' w4 (ht.below hbb) (hS.below hbb) hs3 (hF.below hbb) hG)
  rw [hla.1, hla.2.1] at hRR
  have HS3 := Lib.hid hs3
  have HS4 := Lib.hid hs4
  clear hs3 hs4 hla hO3 hO4 hB3
  go_wp2_with fail
  refine hRR.out.mono ?_
  rintro e w5 ⟨v5, rfl, hO5, hB5⟩
  have hbb := hbb.on hB5
  have hx1 := hx1.below hB5
  obtain ⟨a5, c5, rfl, hs5⟩ := hO5.sl encRs_len
  rw [resL_len, HL.out] at hs5 ⊢
  replace HS3 := Lib.hid (HS3.out.below hB5)
  replace HS4 := Lib.hid (HS4.out.below hB5)
  have t0 : ((nl : Int) != (nl : Int)) = false := by simp
  clear hRR d0 d1 d2 d3 d4 d5 hB5 hO5
  go_wp2_with fail
  refine (sameRs_any _ _ _ _ _ _ _ _ w5 HS4.out hs5).mono ?_
  rintro e w' ⟨rfl, q, rfl⟩
  rw [show decide (resL fs to' l = resL fs to' l) = true from decide_eq_true rfl]
  obtain ⟨w6, hw6⟩ : ∃ w6, w5.drewN q = w6 := ⟨_, rfl⟩
  have hb6 : Below w5.heap.size w5 w6 := by rw [← hw6]; exact below_drewN (Below.refl _ _) _
  rw [hw6]
  have HBB := Lib.hid (hbb.on hb6)
  have HX1 := Lib.hid (hx1.below hb6)
  replace HS3 := Lib.hid (HS3.out.below hb6)
  replace HS4 := Lib.hid (HS4.out.below hb6)
  clear hw6 hb6 hs5 hbb hx1
  go_wp2_with fail
  go_loopw [17, 91] (fun b i wr => ∃ k : Nat, i = .int .i64 k ∧ k ≤ fn ∧ b = .bool (begsTo fs fr to' k) ∧ Below w6.heap.size w6 wr) (fun _ i _ => fn - (intOf i).toNat)
  case atStart => exact ⟨0, rfl, by omega, rfl, Below.refl _ _⟩
  case round =>
    obtain ⟨k, rfl, hk, rfl, hB⟩ := hrel
    by_cases hlt : k < fn
    · obtain ⟨b0, o0, rfl, hb0⟩ := hF.at' (by omega)
      obtain ⟨x, hx⟩ := hF.get hlt
      have hFr := hF.below (HBB.out.on hB)
      obtain ⟨e0, e1, e2, e3, e4⟩ := hFr.ft5 hx
      obtain ⟨ga, gn, gc, hg⟩ := hG x (List.mem_of_getElem? hx)
      rw [hg] at e4
      have HST := Lib.hid (begsTo_step (d := fr) (e := to') hx)
      have hm0 := hF.mx
      have hc0 := hF.cap
      unfold maxLen at hm0
      have s0 : (0 : Int) ≤ (k : Int) := by omega
      have s1 : (k : Int) < (fn : Int) := by omega
      obtain ⟨q0, q1, q2, q3, q4⟩ := (Box.new wr #[.int .i64 x.pz, .int .i64 x.kd, .int .i64 x.un, .int .i64 x.dy, .slice ga gn gc] 48).g5
      have HBn := Lib.hid (hB.on (al0 wr #[.int .i64 x.pz, .int .i64 x.kd, .int .i64 x.un, .int .i64 x.dy, .slice ga gn gc] 48))
      clear hx hg hFr hB
      cases hq : begsTo fs fr to' k
      rotate_left
      · have HN : Hid (begsTo fs fr to' (k + 1) = true) := Lib.hid (by rw [HST.out, hq]; rfl)
        clear hq
        go_wp2_with fail
        go_roundw
        case rel => exact ⟨k + 1, by go_num, by omega, by rw [HN.out], HBn.out⟩
        case measure => simp [intOf]; omega
      rw [hq] at HST
      clear hq
      by_cases c1 : x.kd = 3
      · have n2 : (x.kd != 3) = false := by simpa using c1
        have HN : Hid (begsTo fs fr to' (k + 1) = false) := Lib.hid (by rw [HST.out]; unfold begB; simp [c1])
        clear c1
        go_wp2_with fail
        go_roundw
        case rel => exact ⟨k + 1, by go_num, by omega, by rw [HN.out], HBn.out⟩
        case measure => simp [intOf]; omega
      have n2 : (x.kd != 3) = true := by simpa using c1
      by_cases c2 : fr < x.dy
      rotate_left
      · have n3 : decide (fr < x.dy) = false := by simpa using c2
        have HN : Hid (begsTo fs fr to' (k + 1) = false) := Lib.hid (by rw [HST.out]; unfold begB; simp [n3])
        clear c1 c2
        go_wp2_with fail
        go_roundw
        case rel => exact ⟨k + 1, by go_num, by omega, by rw [HN.out], HBn.out⟩
        case measure => simp [intOf]; omega
      have n3 : decide (fr < x.dy) = true := by simpa using c2
      have HN : Hid (begsTo fs fr to' (k + 1) = decide (x.dy ≤ to')) := Lib.hid (by rw [HST.out]; unfold begB; simp [n3, c1])
      clear c1 c2
      go_wp2_with fail
      go_roundw
      case rel => exact ⟨k + 1, by go_num, by omega, by rw [HN.out], HBn.out⟩
      case measure => simp [intOf]; omega
    · obtain rfl : fn = k := by omega
      have HBG : Hid (begsTo fs fr to' fn = fs.any (begB fr to')) := Lib.hid (by unfold begsTo; rw [List.take_of_length_le (by rw [HFL.out]; exact Nat.le_refl _)])
      obtain ⟨bg, hbg⟩ : ∃ bg, begsTo fs fr to' fn = bg := ⟨_, rfl⟩
      rw [hbg] at HBG ⊢
      have HB7 := Lib.hid hB
      obtain ⟨w7, hw7⟩ : ∃ w7, w7 = wr := ⟨_, rfl⟩
      rw [← hw7] at HB7 ⊢
      clear hB hw7 hbg
      go_wp2_with fail
      go_loopw [116] (fun i wr => ∃ k : Nat, i = .int .i64 k ∧ k ≤ nl ∧ Below w7.heap.size w7 wr) (fun i _ => nl - (intOf i).toNat)
      case atStart => exact ⟨0, rfl, by omega, Below.refl _ _⟩
      case round =>
        obtain ⟨k, rfl, hk, hB⟩ := hrel
        by_cases hlt : k < nl
        · obtain ⟨b1, o1, rfl, hb1⟩ := h0.at' (by omega)
          have hBB := HBB.out.on (HB7.out.on hB)
          have hS3 := (HS3.out.below HB7.out).below hB
          have hS4 := (HS4.out.below HB7.out).below hB
          have h0r := h0.below hBB
          obtain ⟨b3, o3, rfl, hb3⟩ := hS3.at' (by omega)
          obtain ⟨b4, o4, rfl, hb4⟩ := hS4.at' (by omega)
          obtain ⟨x, hx⟩ := h0.get hlt
          obtain ⟨e0, e1, e2, e3, e4, e5⟩ := h0r.rs6 hx
          obtain ⟨f0, f1, f2, f3, f4, f5⟩ := hS4.rs6 (resL_get hx)
          obtain ⟨-, -, -, -, -, g5⟩ := hS3.rs6 (resL_get hx)
          simp only at f0 f1 f2 f3 f4 f5 g5
          have hRT := Lib.hid (later_right (fs := fs) HLE.out x)
          obtain ⟨yr, hyr⟩ : ∃ yr, (x.rt && !fltB fs x.pz to') = yr := ⟨_, rfl⟩
          obtain ⟨ar, har⟩ : ∃ ar, (x.rt && !fltB fs x.pz fr) = ar := ⟨_, rfl⟩
          obtain ⟨xr, hxr⟩ : ∃ xr, x.rt = xr := ⟨_, rfl⟩
          rw [hyr] at f5 hRT
          rw [har] at g5 hRT
          rw [hxr] at e5 hRT
          have m1 := h0.mx
          have m3 := hS3.mx
          have m4 := hS4.mx
          have k1 := h0.cap
          have k3 := hS3.cap
          have k4 := hS4.cap
          unfold maxLen at m1 m3 m4
          have s0 : (0 : Int) ≤ (k : Int) := by omega
          have s1 : (k : Int) < (nl : Int) := by omega
          have HB := Lib.hid hB
          have hEq := fun w => eqIn_rs { x with rt := false } { x with rt := false } w
          rw [decide_eq_true rfl] at hEq
          simp only at hEq
          have hgd := guard_rs
          have hb3r : b3 < wr.heap.size := hb3
          clear hx hyr har hxr hS3 hS4 h0r hBB hB
          go_wp2_with fail
          apply region_two (R := fun p q w' => Box w' p #[.int .i64 x.cm, .int .i64 x.pz, .int .i64 x.tr, .int .i64 x.lo, .int .i64 x.hi, .bool xr] 53 ∧ Box w' q #[.int .i64 x.cm, .int .i64 x.pz, .int .i64 x.tr, .int .i64 x.lo, .int .i64 x.hi, .bool yr] 53 ∧ p ≠ q ∧ wr.heap.size ≤ p ∧ wr.heap.size ≤ q ∧ Below wr.heap.size wr w')
          · refine wp_region_held_drew (S := fun w' => w'.cell? ⟨b1, o1 + k * 6, none⟩ = some (.int .i64 x.cm) ∧ w'.cell? ⟨b1, o1 + k * 6 + 1, none⟩ = some (.int .i64 x.pz) ∧ w'.cell? ⟨b1, o1 + k * 6 + 2, none⟩ = some (.int .i64 x.tr) ∧ w'.cell? ⟨b1, o1 + k * 6 + 3, none⟩ = some (.int .i64 x.lo) ∧ w'.cell? ⟨b1, o1 + k * 6 + 4, none⟩ = some (.int .i64 x.hi) ∧ w'.cell? ⟨b1, o1 + k * 6 + 5, none⟩ = some (.bool xr) ∧ w'.cell? ⟨b4, o4 + k * 6, none⟩ = some (.int .i64 x.cm) ∧ w'.cell? ⟨b4, o4 + k * 6 + 1, none⟩ = some (.int .i64 x.pz) ∧ w'.cell? ⟨b4, o4 + k * 6 + 2, none⟩ = some (.int .i64 x.tr) ∧ w'.cell? ⟨b4, o4 + k * 6 + 3, none⟩ = some (.int .i64 x.lo) ∧ w'.cell? ⟨b4, o4 + k * 6 + 4, none⟩ = some (.int .i64 x.hi) ∧ w'.cell? ⟨b4, o4 + k * 6 + 5, none⟩ = some (.bool yr)) (by kernel_rfl) ⟨e0, e1, e2, e3, e4, e5, f0, f1, f2, f3, f4, f5⟩ (fun hS => ?_)
            refine wpAnyH_take (i := 0) (v := ?_) rfl (by kernel_rfl) (by kernel_rfl) (by kernel_rfl) NormQ.hq (Or.inl ⟨by rfl, ?_⟩) (by assumption) ?_
            rotate_left
            focus
              intro w hSw
              (try dsimp only at hSw)
              (try go_split_ands)
              go_simp
              try with_reducible rfl
            (try simp only [Act.put, List.getElem_toArray, List.getElem_cons_zero, List.setIfInBounds_toArray, List.set_cons_zero, List.set_cons_succ])
            refine wpAnyH_take (i := 1) (v := ?_) rfl (by kernel_rfl) (by kernel_rfl) (by kernel_rfl) NormQ.hq (Or.inl ⟨by rfl, ?_⟩) (by assumption) ?_
            rotate_left
            focus
              intro w hSw
              (try dsimp only at hSw)
              (try go_split_ands)
              go_simp
              try with_reducible rfl
            (try simp only [Act.put, List.getElem_toArray, List.getElem_cons_succ, List.getElem_cons_zero, List.setIfInBounds_toArray, List.set_cons_zero, List.set_cons_succ])
            refine wpAnyH_take (i := 2) (v := ?_) rfl (by kernel_rfl) (by kernel_rfl) (by kernel_rfl) NormQ.hq (Or.inl ⟨by rfl, ?_⟩) (by assumption) ?_
            rotate_left
            focus
              intro w hSw
              (try dsimp only at hSw)
              (try go_split_ands)
              go_simp
              try with_reducible rfl
            (try simp only [Act.put, List.getElem_toArray, List.getElem_cons_succ, List.getElem_cons_zero, List.setIfInBounds_toArray, List.set_cons_zero, List.set_cons_succ])
            refine wpAnyH_take (i := 3) (v := ?_) rfl (by kernel_rfl) (by kernel_rfl) (by kernel_rfl) NormQ.hq (Or.inl ⟨by rfl, ?_⟩) (by assumption) ?_
            rotate_left
            focus
              intro w hSw
              (try dsimp only at hSw)
              (try go_split_ands)
              go_simp
              try with_reducible rfl
            (try simp only [Act.put, List.getElem_toArray, List.getElem_cons_succ, List.getElem_cons_zero, List.setIfInBounds_toArray, List.set_cons_zero, List.set_cons_succ])
            refine wpAnyH_take (i := 4) (v := ?_) rfl (by kernel_rfl) (by kernel_rfl) (by kernel_rfl) NormQ.hq (Or.inl ⟨by rfl, ?_⟩) (by assumption) ?_
            rotate_left
            focus
              intro w hSw
              (try dsimp only at hSw)
              (try go_split_ands)
              go_simp
              try with_reducible rfl
            (try simp only [Act.put, List.getElem_toArray, List.getElem_cons_succ, List.getElem_cons_zero, List.setIfInBounds_toArray, List.set_cons_zero, List.set_cons_succ])
            refine wpAnyH_take (i := 5) (v := ?_) rfl (by kernel_rfl) (by kernel_rfl) (by kernel_rfl) NormQ.hq (Or.inl ⟨by rfl, ?_⟩) (by assumption) ?_
            rotate_left
            focus
              intro w hSw
              (try dsimp only at hSw)
              (try go_split_ands)
              go_simp
              try with_reducible rfl
            (try simp only [Act.put, List.getElem_toArray, List.getElem_cons_succ, List.getElem_cons_zero, List.setIfInBounds_toArray, List.set_cons_zero, List.set_cons_succ])
            refine wpAnyH_take (i := 6) (v := ?_) rfl (by kernel_rfl) (by kernel_rfl) (by kernel_rfl) NormQ.hq (Or.inl ⟨by rfl, ?_⟩) (by assumption) ?_
            rotate_left
            focus
              intro w hSw
              (try dsimp only at hSw)
              (try go_split_ands)
              go_simp
              try with_reducible rfl
            (try simp only [Act.put, List.getElem_toArray, List.getElem_cons_succ, List.getElem_cons_zero, List.setIfInBounds_toArray, List.set_cons_zero, List.set_cons_succ])
            refine wpAnyH_take (i := 7) (v := ?_) rfl (by kernel_rfl) (by kernel_rfl) (by kernel_rfl) NormQ.hq (Or.inl ⟨by rfl, ?_⟩) (by assumption) ?_
            rotate_left
            focus
              intro w hSw
              (try dsimp only at hSw)
              (try go_split_ands)
              go_simp
              try with_reducible rfl
            (try simp only [Act.put, List.getElem_toArray, List.getElem_cons_succ, List.getElem_cons_zero, List.setIfInBounds_toArray, List.set_cons_zero, List.set_cons_succ])
            refine wpAnyH_ready (rs := [8, 9]) (by kernel_rfl) (by simp) (AllReadyH.cons rfl (fun K hK => ?_) (AllReadyH.cons rfl (fun K hK => ?_) AllReadyH.nil))
            · skip
              go_simp
              refine hK.out _ _ (⟨cell_alloc e0 _, cell_alloc e1 _, cell_alloc e2 _, cell_alloc e3 _, cell_alloc e4 _, cell_alloc e5 _, cell_alloc f0 _, cell_alloc f1 _, cell_alloc f2 _, cell_alloc f3 _, cell_alloc f4 _, cell_alloc f5 _⟩) (fun hS => ?_)
              clear hK K
              (try simp only [Act.put, List.getElem_toArray, List.getElem_cons_succ, List.getElem_cons_zero, List.setIfInBounds_toArray, List.set_cons_zero, List.set_cons_succ])
              refine wpAnyH_ready (rs := [9]) (by kernel_rfl) (by simp) (AllReadyH.cons rfl (fun K hK => ?_) AllReadyH.nil)
              go_simp
              refine hK.out _ _ (⟨cell_alloc (cell_alloc e0 _) _, cell_alloc (cell_alloc e1 _) _, cell_alloc (cell_alloc e2 _) _, cell_alloc (cell_alloc e3 _) _, cell_alloc (cell_alloc e4 _) _, cell_alloc (cell_alloc e5 _) _, cell_alloc (cell_alloc f0 _) _, cell_alloc (cell_alloc f1 _) _, cell_alloc (cell_alloc f2 _) _, cell_alloc (cell_alloc f3 _) _, cell_alloc (cell_alloc f4 _) _, cell_alloc (cell_alloc f5 _) _⟩) (fun hS => ?_)
              clear hK K
              (try simp only [Act.put, List.getElem_toArray, List.getElem_cons_succ, List.getElem_cons_zero, List.setIfInBounds_toArray, List.set_cons_zero, List.set_cons_succ])
              refine wpAnyH_ready (rs := [10]) (by kernel_rfl) (by simp) (AllReadyH.cons rfl (fun K hK => ?_) AllReadyH.nil)
              go_simp
              refine hK.out _ _ (⟨cell_alloc (cell_alloc e0 _) _, cell_alloc (cell_alloc e1 _) _, cell_alloc (cell_alloc e2 _) _, cell_alloc (cell_alloc e3 _) _, cell_alloc (cell_alloc e4 _) _, cell_alloc (cell_alloc e5 _) _, cell_alloc (cell_alloc f0 _) _, cell_alloc (cell_alloc f1 _) _, cell_alloc (cell_alloc f2 _) _, cell_alloc (cell_alloc f3 _) _, cell_alloc (cell_alloc f4 _) _, cell_alloc (cell_alloc f5 _) _⟩) (fun hS => ?_)
              clear hK K
              (try simp only [Act.put, List.getElem_toArray, List.getElem_cons_succ, List.getElem_cons_zero, List.setIfInBounds_toArray, List.set_cons_zero, List.set_cons_succ])
              refine wpAnyH_ready (rs := [11]) (by kernel_rfl) (by simp) (AllReadyH.cons rfl (fun K hK => ?_) AllReadyH.nil)
              go_simp
              refine hK.out _ _ (⟨cell_alloc (cell_alloc e0 _) _, cell_alloc (cell_alloc e1 _) _, cell_alloc (cell_alloc e2 _) _, cell_alloc (cell_alloc e3 _) _, cell_alloc (cell_alloc e4 _) _, cell_alloc (cell_alloc e5 _) _, cell_alloc (cell_alloc f0 _) _, cell_alloc (cell_alloc f1 _) _, cell_alloc (cell_alloc f2 _) _, cell_alloc (cell_alloc f3 _) _, cell_alloc (cell_alloc f4 _) _, cell_alloc (cell_alloc f5 _) _⟩) (fun hS => ?_)
              clear hK K
              (try simp only [Act.put, List.getElem_toArray, List.getElem_cons_succ, List.getElem_cons_zero, List.setIfInBounds_toArray, List.set_cons_zero, List.set_cons_succ])
              refine wpAnyH_done (by kernel_rfl) ?_ _
              have hq1 := (Box.new wr #[.int .i64 x.cm, .int .i64 x.pz, .int .i64 x.tr, .int .i64 x.lo, .int .i64 x.hi, .bool xr] 53).alloc (.cells #[.int .i64 x.cm, .int .i64 x.pz, .int .i64 x.tr, .int .i64 x.lo, .int .i64 x.hi, .bool yr] 53)
              have hq2 := Box.new (wr.alloc (.cells #[.int .i64 x.cm, .int .i64 x.pz, .int .i64 x.tr, .int .i64 x.lo, .int .i64 x.hi, .bool xr] 53)) #[.int .i64 x.cm, .int .i64 x.pz, .int .i64 x.tr, .int .i64 x.lo, .int .i64 x.hi, .bool yr] 53
              have hq3 : Below wr.heap.size wr _ := ((al0 wr #[.int .i64 x.cm, .int .i64 x.pz, .int .i64 x.tr, .int .i64 x.lo, .int .i64 x.hi, .bool xr] 53).alloc (by simp) (.cells #[.int .i64 x.cm, .int .i64 x.pz, .int .i64 x.tr, .int .i64 x.lo, .int .i64 x.hi, .bool yr] 53)).drew
              rw [World.size_alloc] at hq2
              obtain ⟨p, hp⟩ : ∃ p, wr.heap.size = p := ⟨_, rfl⟩
              obtain ⟨q, hq⟩ : ∃ q, wr.heap.size + 1 = q := ⟨_, rfl⟩
              have hpq : p ≠ q := by omega
              have hle : wr.heap.size ≤ p ∧ wr.heap.size ≤ q := by omega
              rw [hq] at hq2 ⊢
              rw [hp] at hq1 ⊢
              exact ⟨rfl, p, q, rfl, hq1, hq2, hpq, by omega, by omega, by rw [← hp]; exact hq3⟩
            · skip
              go_simp
              refine hK.out _ _ (⟨cell_alloc e0 _, cell_alloc e1 _, cell_alloc e2 _, cell_alloc e3 _, cell_alloc e4 _, cell_alloc e5 _, cell_alloc f0 _, cell_alloc f1 _, cell_alloc f2 _, cell_alloc f3 _, cell_alloc f4 _, cell_alloc f5 _⟩) (fun hS => ?_)
              clear hK K
              (try simp only [Act.put, List.getElem_toArray, List.getElem_cons_succ, List.getElem_cons_zero, List.setIfInBounds_toArray, List.set_cons_zero, List.set_cons_succ])
              refine wpAnyH_ready (rs := [8]) (by kernel_rfl) (by simp) (AllReadyH.cons rfl (fun K hK => ?_) AllReadyH.nil)
              go_simp
              refine hK.out _ _ (⟨cell_alloc (cell_alloc e0 _) _, cell_alloc (cell_alloc e1 _) _, cell_alloc (cell_alloc e2 _) _, cell_alloc (cell_alloc e3 _) _, cell_alloc (cell_alloc e4 _) _, cell_alloc (cell_alloc e5 _) _, cell_alloc (cell_alloc f0 _) _, cell_alloc (cell_alloc f1 _) _, cell_alloc (cell_alloc f2 _) _, cell_alloc (cell_alloc f3 _) _, cell_alloc (cell_alloc f4 _) _, cell_alloc (cell_alloc f5 _) _⟩) (fun hS => ?_)
              clear hK K
              (try simp only [Act.put, List.getElem_toArray, List.getElem_cons_succ, List.getElem_cons_zero, List.setIfInBounds_toArray, List.set_cons_zero, List.set_cons_succ])
              refine wpAnyH_ready (rs := [10]) (by kernel_rfl) (by simp) (AllReadyH.cons rfl (fun K hK => ?_) AllReadyH.nil)
              go_simp
              refine hK.out _ _ (⟨cell_alloc (cell_alloc e0 _) _, cell_alloc (cell_alloc e1 _) _, cell_alloc (cell_alloc e2 _) _, cell_alloc (cell_alloc e3 _) _, cell_alloc (cell_alloc e4 _) _, cell_alloc (cell_alloc e5 _) _, cell_alloc (cell_alloc f0 _) _, cell_alloc (cell_alloc f1 _) _, cell_alloc (cell_alloc f2 _) _, cell_alloc (cell_alloc f3 _) _, cell_alloc (cell_alloc f4 _) _, cell_alloc (cell_alloc f5 _) _⟩) (fun hS => ?_)
              clear hK K
              (try simp only [Act.put, List.getElem_toArray, List.getElem_cons_succ, List.getElem_cons_zero, List.setIfInBounds_toArray, List.set_cons_zero, List.set_cons_succ])
              refine wpAnyH_ready (rs := [11]) (by kernel_rfl) (by simp) (AllReadyH.cons rfl (fun K hK => ?_) AllReadyH.nil)
              go_simp
              refine hK.out _ _ (⟨cell_alloc (cell_alloc e0 _) _, cell_alloc (cell_alloc e1 _) _, cell_alloc (cell_alloc e2 _) _, cell_alloc (cell_alloc e3 _) _, cell_alloc (cell_alloc e4 _) _, cell_alloc (cell_alloc e5 _) _, cell_alloc (cell_alloc f0 _) _, cell_alloc (cell_alloc f1 _) _, cell_alloc (cell_alloc f2 _) _, cell_alloc (cell_alloc f3 _) _, cell_alloc (cell_alloc f4 _) _, cell_alloc (cell_alloc f5 _) _⟩) (fun hS => ?_)
              clear hK K
              (try simp only [Act.put, List.getElem_toArray, List.getElem_cons_succ, List.getElem_cons_zero, List.setIfInBounds_toArray, List.set_cons_zero, List.set_cons_succ])
              refine wpAnyH_done (by kernel_rfl) ?_ _
              have hq1 := (Box.new wr #[.int .i64 x.cm, .int .i64 x.pz, .int .i64 x.tr, .int .i64 x.lo, .int .i64 x.hi, .bool yr] 53).alloc (.cells #[.int .i64 x.cm, .int .i64 x.pz, .int .i64 x.tr, .int .i64 x.lo, .int .i64 x.hi, .bool xr] 53)
              have hq2 := Box.new (wr.alloc (.cells #[.int .i64 x.cm, .int .i64 x.pz, .int .i64 x.tr, .int .i64 x.lo, .int .i64 x.hi, .bool yr] 53)) #[.int .i64 x.cm, .int .i64 x.pz, .int .i64 x.tr, .int .i64 x.lo, .int .i64 x.hi, .bool xr] 53
              have hq3 : Below wr.heap.size wr _ := ((al0 wr #[.int .i64 x.cm, .int .i64 x.pz, .int .i64 x.tr, .int .i64 x.lo, .int .i64 x.hi, .bool yr] 53).alloc (by simp) (.cells #[.int .i64 x.cm, .int .i64 x.pz, .int .i64 x.tr, .int .i64 x.lo, .int .i64 x.hi, .bool xr] 53)).drew
              rw [World.size_alloc] at hq2
              obtain ⟨q, hp⟩ : ∃ p, wr.heap.size = p := ⟨_, rfl⟩
              obtain ⟨p, hq⟩ : ∃ q, wr.heap.size + 1 = q := ⟨_, rfl⟩
              have hpq : p ≠ q := by omega
              have hle : wr.heap.size ≤ p ∧ wr.heap.size ≤ q := by omega
              rw [hq] at hq2 ⊢
              rw [hp] at hq1 ⊢
              exact ⟨rfl, p, q, rfl, hq2, hq1, hpq, by omega, by omega, by rw [← hp]; exact hq3⟩
          rintro p q w8 ⟨hq1, hq2, hpq, hp1, hq1', hq3⟩
          obtain ⟨u0, u1, u2, u3, u4, u5⟩ := hq1.g6
          obtain ⟨v0, v1, v2, v3, v4, v5⟩ := hq2.g6
          have lp := hq1.lt
          have lq := hq2.lt
          have zp := hq1.frozen 5
          have zq := hq2.frozen 5
          have g5' := (hq3.cell (p := ⟨b3, o3 + k * 6 + 5, none⟩) (World.block_lt_of_cell? _ _ g5)).trans g5
          have hX1 : Box ((w8.setCell ⟨p, 5, none⟩ (.bool false)).setCell ⟨q, 5, none⟩ (.bool false)) p #[.int .i64 x.cm, .int .i64 x.pz, .int .i64 x.tr, .int .i64 x.lo, .int .i64 x.hi, .bool false] 53 := by
            have := (hq1.set 5 (.bool false)).setOther (a := ⟨q, 5, none⟩) (.bool false) hpq
            simpa using this
          have hX2 : Box ((w8.setCell ⟨p, 5, none⟩ (.bool false)).setCell ⟨q, 5, none⟩ (.bool false)) q #[.int .i64 x.cm, .int .i64 x.pz, .int .i64 x.tr, .int .i64 x.lo, .int .i64 x.hi, .bool false] 53 := by
            have := (hq2.setOther (a := ⟨p, 5, none⟩) (.bool false) (Ne.symm hpq)).set 5 (.bool false)
            simpa using this
          obtain ⟨r0, r1, r2, r3, r4, r5⟩ := hX1.g6
          obtain ⟨z0, z1, z2, z3, z4, z5⟩ := hX2.g6
          have v5' : (w8.setCell ⟨p, 5, none⟩ (.bool false)).cell? ⟨q, 5, none⟩ = some (.bool yr) := by
            have := (hq2.setOther (a := ⟨p, 5, none⟩) (.bool false) (Ne.symm hpq)).cell 5
            simpa using this
          have zq' : (w8.setCell ⟨p, 5, none⟩ (.bool false)).frozen? ⟨q, 5, none⟩ = false := (hq2.setOther (a := ⟨p, 5, none⟩) (.bool false) (Ne.symm hpq)).frozen 5
          have HBn : Hid (Below w7.heap.size w7 ((w8.setCell ⟨p, 5, none⟩ (.bool false)).setCell ⟨q, 5, none⟩ (.bool false))) := Lib.hid (((HB.out.on hq3).setCell (by have := HB.out.size; show w7.heap.size ≤ p; omega) _).setCell (by have := HB.out.size; show w7.heap.size ≤ q; omega) _)
          clear hq1 hq2 hq3 hX1 hX2 e0 e1 e2 e3 e4 e5 f0 f1 f2 f3 f4 f5 g5 HB
          cases xr
          · cases yr
            · cases ar
              · go_wp2_with fail
                go_roundw
                case rel => exact ⟨k + 1, by go_num, by omega, HBn.out⟩
                case measure => simp [intOf]; omega
              · exact absurd hRT.out.2 (by decide)
            · cases ar
              · exact absurd hRT.out.1 (by decide)
              · exact absurd hRT.out.2 (by decide)
          · cases yr
            · cases ar
              · go_wp2_with fail
                go_roundw
                case rel => exact ⟨k + 1, by go_num, by omega, HBn.out⟩
                case measure => simp [intOf]; omega
              · go_wp2_with fail
                go_roundw
                case rel => exact ⟨k + 1, by go_num, by omega, HBn.out⟩
                case measure => simp [intOf]; omega
            · cases ar
              · exact absurd hRT.out.1 (by decide)
              · go_wp2_with fail
                go_roundw
                case rel => exact ⟨k + 1, by go_num, by omega, HBn.out⟩
                case measure => simp [intOf]; omega
        · obtain rfl : nl = k := by omega
          obtain ⟨d0, d1, d2, d3, d4, d5⟩ := ((HX1.out.below HB7.out).below hB).g6
          have hBB := HBB.out.on (HB7.out.on hB)
          have hCH := Lib.hid (changes_any S al nl cl l fa fn fc fs fr to' wr (ht.below hBB) (hS.below hBB) (h0.below hBB) (hF.below hBB) hG h4)
          have HS3' := Lib.hid ((HS3.out.below HB7.out).below hB)
          have HS4' := Lib.hid ((HS4.out.below HB7.out).below hB)
          clear hB
          cases bg
          rotate_left
          · go_wp2_with fail
            refine hCH.out.mono ?_
            rintro e w9 ⟨v9, rfl, -, hB9⟩
            go_wp2_with fail
            go_ret
            exact ⟨rfl, hBB.on hB9⟩
          · have HSA2 := Lib.hid (later_same (s := S.sh) (l := l) HLE.out HE1.out HBG.out.symm)
            have HCR := Lib.hid (later_ch (s := S.sh) (l := l) HLE.out HE1.out HE2.out HBG.out.symm)
            rw [HCR.out] at hCH
            obtain ⟨E9, hE9⟩ : ∃ E9, chE S.sh l fs fr to' = E9 := ⟨_, rfl⟩
            rw [hE9] at hCH
            clear hE9
            go_wp2_with fail
            refine hCH.out.mono ?_
            rintro e w9 ⟨v9, rfl, hO9, hB9⟩
            obtain ⟨a9, c9, rfl, -⟩ := hO9.sl encCg_len
            have hs3 := HS3'.out.below hB9
            have hs4 := HS4'.out.below hB9
            have hb9 := hBB.on hB9
            clear hO9 hCH
            go_wp2_with fail
            refine (sameRs_any _ _ _ _ _ _ _ _ w9 hs3 hs4).mono ?_
            rintro e w' ⟨rfl, q, rfl⟩
            rw [decide_eq_true HSA2.out]
            by_cases c9 : E9 = 0
            · subst c9
              go_wp2_with fail
              go_ret
              exact ⟨rfl, below_drewN hb9 _⟩
            · have g9 : (E9 != 0) = true := by simpa using c9
              clear c9
              go_wp2_with fail
              go_ret
              exact ⟨rfl, below_drewN hb9 _⟩
end Go.Proofs.YtehoidohallfcaaGreatDoor
