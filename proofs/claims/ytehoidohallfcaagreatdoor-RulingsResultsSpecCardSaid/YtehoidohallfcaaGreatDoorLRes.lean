/- Results and Again match the specification (law54.RulingsResultsSpec), at every input: the walk. -/
import Derived.Test.YtehoidohallfcaaGreatDoorRaD
import Derived.Test.YtehoidohallfcaaGreatDoorRdYv
namespace Go.Proofs.YtehoidohallfcaaGreatDoor
open Go.RowKit
theorem rkSame_self (r : Rk) : rkSame r r = true := by unfold rkSame; simp
set_option maxRecDepth 20000 in
set_option maxHeartbeats 8000000 in
theorem lawResults_any (S : Sp) (al : Option Addr) (nl cl : Nat) (l : List Rs) (fa : Option Addr) (fn fc : Nat) (fs : List (Ft Value)) (d : Int) (W : World) (ht : Tab W) (hS : S.In W) (hwr : WdR S.sh.pg) (h0 : SL encRs 6 W al nl cl l) (hF : SL encFt 5 W fa fn fc fs) (hG : GrOk fs) :
 Calls Tryz.prog 3 #[.agg #[.int .i64 S.sh.cs, .int .i64 S.sh.ps, .slice S.la S.ln S.lc, .slice S.ca S.cn S.cc, .slice S.pa S.pn S.pc, .slice S.ra S.rn S.rc], .slice al nl cl, .slice fa fn fc, .int .i64 d] W fun e w' => RetB W (.bool true) e w' := by
 have hx1 := Box.new W #[.int .i64 S.sh.cs, .int .i64 S.sh.ps, .slice S.la S.ln S.lc, .slice S.ca S.cn S.cc, .slice S.pa S.pn S.pc, .slice S.ra S.rn S.rc] 25
 have hbb : Below W.heap.size W (W.alloc (.cells #[.int .i64 S.sh.cs, .int .i64 S.sh.ps, .slice S.la S.ln S.lc, .slice S.ca S.cn S.cc, .slice S.pa S.pn S.pc, .slice S.ra S.rn S.rc] 25)) := al0 _ _ _
 obtain ⟨w0, hw0⟩ : ∃ w0, W.alloc (.cells #[.int .i64 S.sh.cs, .int .i64 S.sh.ps, .slice S.la S.ln S.lc, .slice S.ca S.cn S.cc, .slice S.pa S.pn S.pc, .slice S.ra S.rn S.rc] 25) = w0 := ⟨_, rfl⟩
 rw [hw0] at hx1 hbb
 have HW0 := Lib.hid hw0
 have HL := Lib.hid h0.len
 have HFL := Lib.hid hF.len
 have HPL := Lib.hid hS.pg.len
 have HSA := Lib.hid (sane_any w0 (ht.below hbb))
 clear hw0
 cases hf : (few53 S.sh l && decide (fs.length ≤ 20))
 · have HF := Lib.hid hf
   clear hf
   go_enter Tryz.func3, Tryz.ntmps3
   go_wp2_with fail
   rw [HW0.out]
   go_wp2_with fail
   refine HSA.out.mono ?_
   rintro e w1 ⟨rfl, hB1⟩
   have hx1 := hx1.below hB1
   have hbb := hbb.on hB1
   have HFW := Lib.hid (few54_any S al nl cl l fa fn fc fs w1 (hS.below hbb) (h0.below hbb) (hF.below hbb))
   rw [HF.out] at HFW
   obtain ⟨d0, d1, d2, d3, d4, d5⟩ := hx1.g6
   go_wp2_with fail
   refine HFW.out.mono ?_
   rintro e w2 ⟨rfl, hB2⟩
   have hbb := hbb.on hB2
   have hx1 := hx1.below hB2
   clear HFW hB1 hB2 d0 d1 d2 d3 d4 d5
   go_wp2_with fail
   go_ret
   exact ⟨rfl, hbb⟩
 have hfew : S.sh.cs ≤ 4 ∧ nl ≤ 12 ∧ S.pn ≤ 30 := by
  unfold few53 at hf
  simp only [Bool.and_eq_true, decide_eq_true_eq] at hf
  have := HL.out
  have := HPL.out
  omega
 obtain ⟨h4, hl12, hpn⟩ := hfew
 have HF := Lib.hid hf
 clear hf
 go_enter Tryz.func3, Tryz.ntmps3
 go_wp2_with fail
 rw [HW0.out]
 go_wp2_with fail
 refine HSA.out.mono ?_
 rintro e w1 ⟨rfl, hB1⟩
 have hx1 := hx1.below hB1
 have hbb := hbb.on hB1
 have HFW := Lib.hid (few54_any S al nl cl l fa fn fc fs w1 (hS.below hbb) (h0.below hbb) (hF.below hbb))
 rw [HF.out] at HFW
 obtain ⟨d0, d1, d2, d3, d4, d5⟩ := hx1.g6
 go_wp2_with fail
 refine HFW.out.mono ?_
 rintro e w2 ⟨rfl, hB2⟩
 have hbb := hbb.on hB2
 have hx1 := hx1.below hB2
 clear HFW hB1 hB2 d0 d1 d2 d3 d4 d5
 have HR1 := Lib.hid (results_any ptC S al nl cl l fa fn fc fs d w2 (ht.below hbb) (hS.below hbb) (h0.below hbb) (hF.below hbb) hG)
 obtain ⟨E, hE⟩ : ∃ E, ruE S.sh l fs d = E := ⟨_, rfl⟩
 obtain ⟨RR, hRR⟩ : ∃ RR, ruR S.sh l fs d = RR := ⟨_, rfl⟩
 rw [hE, hRR] at HR1
 have HE := Lib.hid hE
 have HRR := Lib.hid hRR
 clear hE hRR
 obtain ⟨d0, d1, d2, d3, d4, d5⟩ := hx1.g6
 go_wp2_with fail
 refine HR1.out.mono ?_
 rintro e w3 ⟨v3, rfl, hO3, hB3⟩
 obtain ⟨a3, c3, rfl, hS3⟩ := hO3.sl encRs_len
 have hbb := hbb.on hB3
 have hx1 := hx1.below hB3
 clear HR1 d0 d1 d2 d3 d4 d5 hB3 hO3
 have HR2 := Lib.hid (rresults_any rptC S al nl cl l fa fn fc fs d w3 (hS.below hbb) (h0.below hbb) (hF.below hbb) hG hpn hwr (by omega))
 rw [HE.out, HRR.out] at HR2
 obtain ⟨d0, d1, d2, d3, d4, d5⟩ := hx1.g6
 go_wp2_with fail
 refine HR2.out.mono ?_
 rintro e w4 ⟨v4, rfl, hO4, hB4⟩
 obtain ⟨a4, c4, rfl, hS4⟩ := hO4.sl encRs_len
 have hbb := hbb.on hB4
 have hx1 := hx1.below hB4
 have hS3 := hS3.below hB4
 clear HR2 d0 d1 d2 d3 d4 d5 hB4 hO4
 obtain ⟨E2, hE2⟩ : ∃ E, agE S.sh l fs d = E := ⟨_, rfl⟩
 have HA := Lib.hid (again_any S al nl cl l fa fn fc fs d w4 (ht.below hbb) (hS.below hbb) (h0.below hbb) (hF.below hbb) hG h4)
 rw [hE2] at HA
 have HE2 := Lib.hid hE2
 clear hE2
 obtain ⟨RN, hRN⟩ : ∃ RN, RR.length = RN := ⟨_, rfl⟩
 rw [hRN] at hS3 hS4 ⊢
 clear hRN
 have HS3 := Lib.hid hS3
 have HS4 := Lib.hid hS4
 clear hS3 hS4
 obtain ⟨d0, d1, d2, d3, d4, d5⟩ := hx1.g6
 go_wp2_with fail
 refine HA.out.mono ?_
 rintro e w5 ⟨A, hA, rfl, hAI, -, hB5⟩
 have hal5 := al0 w5 #[.slice A.ba A.bn A.bc, .slice A.wa A.wn A.wc, .slice A.ua A.un A.uc] 35
 have hxA := Box.new w5 #[.slice A.ba A.bn A.bc, .slice A.wa A.wn A.wc, .slice A.ua A.un A.uc] 35
 have hbb := (hbb.on hB5).on hal5
 have hx1 := (hx1.below hB5).below hal5
 have hAI := hAI.below hal5
 have hS3 := (HS3.out.below hB5).below hal5
 have hS4 := (HS4.out.below hB5).below hal5
 have HAA := Lib.hid hA
 have hl5 : W.heap.size < w5.heap.size := by have := hx1.lt; have h2 := hB5.size; have h3 : W.heap.size < w4.heap.size := World.block_lt_of_cell? w4 _ d0; omega
 have HG2 := Lib.hid (ragain54_any rptC S al nl cl l fa fn fc fs d _ (hS.below hbb) (h0.below hbb) (hF.below hbb) hG hpn hwr (by omega) h4)
 rw [HE2.out] at HG2
 have HX1 := Lib.hid hx1
 have HAI := Lib.hid hAI
 have HS3 := Lib.hid hS3
 have HS4 := Lib.hid hS4
 have HBB := Lib.hid hbb
 have HXA := Lib.hid hxA
 have d0' := (hB5.cell (World.block_lt_of_cell? w4 _ d0)).trans d0
 have d1' := (hB5.cell (World.block_lt_of_cell? w4 _ d1)).trans d1
 have d2' := (hB5.cell (World.block_lt_of_cell? w4 _ d2)).trans d2
 have d3' := (hB5.cell (World.block_lt_of_cell? w4 _ d3)).trans d3
 have d4' := (hB5.cell (World.block_lt_of_cell? w4 _ d4)).trans d4
 have d5' := (hB5.cell (World.block_lt_of_cell? w4 _ d5)).trans d5
 clear HA d0 d1 d2 d3 d4 d5 hB5 hA hx1 hAI hS3 hS4 hbb hxA
 go_wp2_with fail
 refine HG2.out.mono ?_
 rintro e w6 ⟨B, hB, rfl, hBI, -, hB6⟩
 have hal6 := al0 w6 #[.slice B.ba B.bn B.bc, .slice B.wa B.wn B.wc, .slice B.ua B.un B.uc] 35
 have hxB := Box.new w6 #[.slice B.ba B.bn B.bc, .slice B.wa B.wn B.wc, .slice B.ua B.un B.uc] 35
 have hs6 := hB6.size
 rw [World.size_alloc] at hs6
 have hxA := (HXA.out.below hB6).below hal6
 have hAI := (HAI.out.below hB6).below hal6
 have hBI := hBI.below hal6
 have hS3 := (HS3.out.below hB6).below hal6
 have hS4 := (HS4.out.below hB6).below hal6
 have hbb := (HBB.out.on hB6).on hal6
 have hSM := sameRs_any a3 a4 RN c3 RN c4 RR RR _ hS3 hS4
 rw [show decide (RR = RR) = true from decide_eq_true rfl] at hSM
 obtain ⟨x0, x1, x2⟩ := (HXA.out.below hB6).g3
 have HSM := Lib.hid hSM
 have HAI := Lib.hid hAI
 have HBI := Lib.hid hBI
 have HBB := Lib.hid hbb
 have HXA := Lib.hid hxA
 have HXB := Lib.hid hxB
 have HHB := Lib.hid hB
 clear HG2 hSM hAI hBI hbb hxA hxB hB hB6 hal6 hS3 hS4
 go_wp2_with fail
 refine HSM.out.mono ?_
 rintro e w7 ⟨rfl, z, rfl⟩
 obtain ⟨w7, hw7⟩ : ∃ w7, w6.alloc (.cells #[.slice B.ba B.bn B.bc, .slice B.wa B.wn B.wc, .slice B.ua B.un B.uc] 35) = w7 := ⟨_, rfl⟩
 rw [hw7] at HSM HAI HBI HBB HXA HXB ⊢
 have hdz : Below w7.heap.size w7 (w7.drewN z) := Below.drewN0 _ _
 obtain ⟨u0, u1, u2⟩ := (HXA.out.below hdz).g3
 obtain ⟨v0, v1, v2⟩ := (HXB.out.below hdz).g3
 have HS2 := Lib.hid (same53_any A B (w7.drewN z) (HAI.out.below hdz) (HBI.out.below hdz))
 rw [HAA.out, HHB.out, rkSame_self] at HS2
 have HBB2 := Lib.hid (HBB.out.on hdz)
 clear HSM hw7 x0 x1 x2 d0' d1' d2' d3' d4' d5'
 go_wp2_with fail
 refine HS2.out.mono ?_
 rintro e w8 ⟨rfl, hB8⟩
 have HB8 := Lib.hid (HBB2.out.on hB8)
 clear hB8 u0 u1 u2 v0 v1 v2
 go_wp2_with fail
 all_goals
  go_ret
  exact ⟨rfl, HB8.out⟩
end Go.Proofs.YtehoidohallfcaaGreatDoor
