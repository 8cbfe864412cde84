/- Changes matches the specification (law54.RulingsChangesSpec), at every input: the walk. -/
import Derived.Test.YtehoidohallfcaaGreatDoorRaE
import Derived.Test.YtehoidohallfcaaGreatDoorRdYv
namespace Go.Proofs.YtehoidohallfcaaGreatDoor
open Go.RowKit
set_option maxRecDepth 20000 in
set_option maxHeartbeats 8000000 in
theorem lawChangesSpec_any (S : Sp) (al : Option Addr) (nl cl : Nat) (l : List Rs) (fa : Option Addr) (fn fc : Nat) (fs : List (Ft Value)) (fr to' : Int) (W : World) (ht : Tab W) (hS : S.In W) (hwr : WdR S.sh.pg) (h0 : SL encRs 6 W al nl cl l) (hF : SL encFt 5 W fa fn fc fs) (hG : GrOk fs) :
 Calls Tryz.prog 4 #[.agg #[.int .i64 S.sh.cs, .int .i64 S.sh.ps, .slice S.la S.ln S.lc, .slice S.ca S.cn S.cc, .slice S.pa S.pn S.pc, .slice S.ra S.rn S.rc], .slice al nl cl, .slice fa fn fc, .int .i64 fr, .int .i64 to'] W fun e w' => RetB W (.bool true) e w' := by
 have hx1 := Box.new W #[.int .i64 S.sh.cs, .int .i64 S.sh.ps, .slice S.la S.ln S.lc, .slice S.ca S.cn S.cc, .slice S.pa S.pn S.pc, .slice S.ra S.rn S.rc] 25
 have hbb : Below W.heap.size W (W.alloc (.cells #[.int .i64 S.sh.cs, .int .i64 S.sh.ps, .slice S.la S.ln S.lc, .slice S.ca S.cn S.cc, .slice S.pa S.pn S.pc, .slice S.ra S.rn S.rc] 25)) := al0 _ _ _
 obtain ⟨w0, hw0⟩ : ∃ w0, W.alloc (.cells #[.int .i64 S.sh.cs, .int .i64 S.sh.ps, .slice S.la S.ln S.lc, .slice S.ca S.cn S.cc, .slice S.pa S.pn S.pc, .slice S.ra S.rn S.rc] 25) = w0 := ⟨_, rfl⟩
 rw [hw0] at hx1 hbb
 have HW0 := Lib.hid hw0
 have HL := Lib.hid h0.len
 have HFL := Lib.hid hF.len
 have HPL := Lib.hid hS.pg.len
 have HSA := Lib.hid (sane_any w0 (ht.below hbb))
 clear hw0
 cases hf : (few53 S.sh l && decide (fs.length ≤ 20))
 · have HF := Lib.hid hf
   clear hf
   go_enter Tryz.func4, Tryz.ntmps4
   go_wp2_with fail
   rw [HW0.out]
   go_wp2_with fail
   refine HSA.out.mono ?_
   rintro e w1 ⟨rfl, hB1⟩
   have hx1 := hx1.below hB1
   have hbb := hbb.on hB1
   have HFW := Lib.hid (few54_any S al nl cl l fa fn fc fs w1 (hS.below hbb) (h0.below hbb) (hF.below hbb))
   rw [HF.out] at HFW
   obtain ⟨d0, d1, d2, d3, d4, d5⟩ := hx1.g6
   go_wp2_with fail
   refine HFW.out.mono ?_
   rintro e w2 ⟨rfl, hB2⟩
   have hbb := hbb.on hB2
   have hx1 := hx1.below hB2
   clear HFW hB1 hB2 d0 d1 d2 d3 d4 d5
   go_wp2_with fail
   go_ret
   exact ⟨rfl, hbb⟩
 have hfew : S.sh.cs ≤ 4 ∧ nl ≤ 12 ∧ S.pn ≤ 30 := by
  unfold few53 at hf
  simp only [Bool.and_eq_true, decide_eq_true_eq] at hf
  have := HL.out
  have := HPL.out
  omega
 obtain ⟨h4, hl12, hpn⟩ := hfew
 have HF := Lib.hid hf
 clear hf
 go_enter Tryz.func4, Tryz.ntmps4
 go_wp2_with fail
 rw [HW0.out]
 go_wp2_with fail
 refine HSA.out.mono ?_
 rintro e w1 ⟨rfl, hB1⟩
 have hx1 := hx1.below hB1
 have hbb := hbb.on hB1
 have HFW := Lib.hid (few54_any S al nl cl l fa fn fc fs w1 (hS.below hbb) (h0.below hbb) (hF.below hbb))
 rw [HF.out] at HFW
 obtain ⟨d0, d1, d2, d3, d4, d5⟩ := hx1.g6
 go_wp2_with fail
 refine HFW.out.mono ?_
 rintro e w2 ⟨rfl, hB2⟩
 have hbb := hbb.on hB2
 have hx1 := hx1.below hB2
 clear HFW hB1 hB2 d0 d1 d2 d3 d4 d5
 have HR1 := Lib.hid (changes_any S al nl cl l fa fn fc fs fr to' w2 (ht.below hbb) (hS.below hbb) (h0.below hbb) (hF.below hbb) hG h4)
 obtain ⟨E, hE⟩ : ∃ E, chE S.sh l fs fr to' = E := ⟨_, rfl⟩
 obtain ⟨RR, hRR⟩ : ∃ RR, chR S.sh l fs fr to' = RR := ⟨_, rfl⟩
 rw [hE, hRR] at HR1
 have HE := Lib.hid hE
 have HRR := Lib.hid hRR
 clear hE hRR
 obtain ⟨d0, d1, d2, d3, d4, d5⟩ := hx1.g6
 go_wp2_with fail
 refine HR1.out.mono ?_
 rintro e w3 ⟨v3, rfl, hO3, hB3⟩
 obtain ⟨a3, c3, rfl, hS3⟩ := hO3.sl encCg_len
 have hbb := hbb.on hB3
 have hx1 := hx1.below hB3
 clear HR1 d0 d1 d2 d3 d4 d5 hB3 hO3
 have HR2 := Lib.hid (rchanges54_any rptC S al nl cl l fa fn fc fs fr to' w3 (hS.below hbb) (h0.below hbb) (hF.below hbb) hG hpn hwr (by omega) h4)
 rw [HE.out, HRR.out] at HR2
 obtain ⟨d0, d1, d2, d3, d4, d5⟩ := hx1.g6
 go_wp2_with fail
 refine HR2.out.mono ?_
 rintro e w4 ⟨v4, rfl, hO4, hB4⟩
 obtain ⟨a4, c4, rfl, hS4⟩ := hO4.sl encCg_len
 have hS3 := hS3.below hB4
 have hSM := sameCg_any a3 a4 RR.length c3 RR.length c4 RR RR w4 hS3 hS4
 rw [show decide (RR = RR) = true from decide_eq_true rfl] at hSM
 have HSM := Lib.hid hSM
 have HBB := Lib.hid (hbb.on hB4)
 obtain ⟨RN, hRN⟩ : ∃ RN, RR.length = RN := ⟨_, rfl⟩
 rw [hRN] at HSM ⊢
 clear HR2 d0 d1 d2 d3 d4 d5 hB4 hO4 hS3 hS4 hSM hx1 hbb hRN
 go_wp2_with fail
 refine HSM.out.mono ?_
 rintro e w7 ⟨rfl, z, rfl⟩
 have HB8 := Lib.hid (below_drewN HBB.out z)
 clear HSM
 go_wp2_with fail
 all_goals
  go_ret
  exact ⟨rfl, HB8.out⟩
end Go.Proofs.YtehoidohallfcaaGreatDoor
