/- The references' Again. -/
import Derived.Test.YtehoidohallfcaaGreatDoorRaC
import Derived.Test.YtehoidohallfcaaGreatDoorRdKx
namespace Go.Proofs.YtehoidohallfcaaGreatDoor
open Go.RowKit
set_option maxRecDepth 20000 in
set_option maxHeartbeats 4000000 in
theorem ragain54_any (hpt : RPtC) (S : Sp) (al : Option Addr) (nl cl : Nat) (l : List Rs) (fa : Option Addr) (fn fc : Nat) (fs : List (Ft Value)) (by' : Int) (W : World) (hS : S.In W) (h0 : SL encRs 6 W al nl cl l) (hF : SL encFt 5 W fa fn fc fs) (hG : GrOk fs) (hpn : S.pn ≤ 30) (hwr : WdR S.sh.pg) (hnl : nl ≤ 1000000) (h4 : S.sh.cs ≤ 4) :
 Calls Tryz.prog 14 #[.agg #[.int .i64 S.sh.cs, .int .i64 S.sh.ps, .slice S.la S.ln S.lc, .slice S.ca S.cn S.cc, .slice S.pa S.pn S.pc, .slice S.ra S.rn S.rc], .slice al nl cl, .slice fa fn fc, .int .i64 by'] W (RetRk W (agR S.sh l fs by') (agE S.sh l fs by')) := by
 have hx1 : Box ((W.alloc (.cells #[.int .i64 S.sh.cs, .int .i64 S.sh.ps, .slice S.la S.ln S.lc, .slice S.ca S.cn S.cc, .slice S.pa S.pn S.pc, .slice S.ra S.rn S.rc] 25)).alloc (.cells #[.slice none 0 0, .slice none 0 0, .slice none 0 0] 35)) W.heap.size #[.int .i64 S.sh.cs, .int .i64 S.sh.ps, .slice S.la S.ln S.lc, .slice S.ca S.cn S.cc, .slice S.pa S.pn S.pc, .slice S.ra S.rn S.rc] 25 := (Box.new W _ _).alloc _
 have hx2 := Box.new (W.alloc (.cells #[.int .i64 S.sh.cs, .int .i64 S.sh.ps, .slice S.la S.ln S.lc, .slice S.ca S.cn S.cc, .slice S.pa S.pn S.pc, .slice S.ra S.rn S.rc] 25)) #[.slice none 0 0, .slice none 0 0, .slice none 0 0] 35
 rw [World.size_alloc] at hx2
 have hbb : Below W.heap.size W ((W.alloc (.cells #[.int .i64 S.sh.cs, .int .i64 S.sh.ps, .slice S.la S.ln S.lc, .slice S.ca S.cn S.cc, .slice S.pa S.pn S.pc, .slice S.ra S.rn S.rc] 25)).alloc (.cells #[.slice none 0 0, .slice none 0 0, .slice none 0 0] 35)) := ((Below.refl _ _).alloc (Nat.le_refl _) _).alloc (by simp) _
 obtain ⟨w0, hw0⟩ : ∃ w0, (W.alloc (.cells #[.int .i64 S.sh.cs, .int .i64 S.sh.ps, .slice S.la S.ln S.lc, .slice S.ca S.cn S.cc, .slice S.pa S.pn S.pc, .slice S.ra S.rn S.rc] 25)).alloc (.cells #[.slice none 0 0, .slice none 0 0, .slice none 0 0] 35) = w0 := ⟨_, rfl⟩
 rw [hw0] at hx1 hx2 hbb
 have HO := Lib.hid (rresults_any hpt S al nl cl l fa fn fc fs by' w0 (hS.below hbb) (h0.below hbb) (hF.below hbb) hG hpn hwr hnl)
 have HW0 := Lib.hid hw0
 clear hw0
 obtain ⟨d0, d1, d2, d3, d4, d5⟩ := hx1.g6
 have hwW : W.heap.size ≤ W.heap.size + 1 := by omega
 by_cases he : ruE S.sh l fs by' = 0
 rotate_left
 · obtain ⟨E, hE⟩ : ∃ E, ruE S.sh l fs by' = E := ⟨_, rfl⟩
   have HR := Lib.hid (agE_bad he)
   rw [hE] at he HO HR
   have g1 : (E != 0) = true := by simpa using he
   clear hE he
   go_enter Tryz.func14, Tryz.ntmps14
   go_wp2_with fail
   rw [HW0.out]
   go_wp2_with fail
   refine HO.out.mono ?_
   rintro e w1 ⟨v1, rfl, hO1, hB1⟩
   obtain ⟨e0, e1, e2⟩ := (hx2.below hB1).g3
   have f0 := (hx2.below hB1).frozen 0
   have f1 := (hx2.below hB1).frozen 1
   have f2 := (hx2.below hB1).frozen 2
   have l2 := (hx2.below hB1).lt
   go_wp2_with fail
   obtain ⟨y0, y1, y2⟩ := (setR3 (hx2.below hB1) (.slice none 0 0) (.slice none 0 0) (.slice none 0 0)).g3
   refine bodyPost_ret (v := .tuple #[.agg #[.slice none 0 0, .slice none 0 0, .slice none 0 0], .int .i64 E]) (by simp [results, Tryz.results14, go_sem, y0, y1, y2]) rfl ?_
   rw [HR.out.1, HR.out.2]
   exact RetRk.bad (((((hbb.on hB1).setCell hwW _).setCell hwW _).setCell hwW _))
 have HR := Lib.hid (agE_ok he)
 rw [he, (agE_ok he).2.2] at HO
 clear he
 go_enter Tryz.func14, Tryz.ntmps14
 go_wp2_with fail
 rw [HW0.out]
 go_wp2_with fail
 refine HO.out.mono ?_
 rintro e w1 ⟨v1, rfl, hO1, hB1⟩
 obtain ⟨va, vc, rfl, hSL⟩ := hO1.sl encRs_len
 have hb1 := hbb.on hB1
 have HRK := Lib.hid (rranking53_any hpt S va (resL fs by' l).length vc (resL fs by' l) w1 (hS.below hb1) hSL hpn hwr h4)
 obtain ⟨d0, d1, d2, d3, d4, d5⟩ := (hx1.below hB1).g6
 have hx2 := hx2.below hB1
 have HSZ := Lib.hid hx2.lt
 obtain ⟨N, hN⟩ : ∃ N, (resL fs by' l).length = N := ⟨_, rfl⟩
 rw [hN] at HRK ⊢
 clear hO1 hSL hB1 hN
 go_wp2_with fail
 refine HRK.out.mono ?_
 rintro e w2 ⟨R, hR, rfl, hRI, hRN, hB2⟩
 have hx2 := hx2.below hB2
 obtain ⟨e0, e1, e2⟩ := hx2.g3
 have f0 := hx2.frozen 0
 have f1 := hx2.frozen 1
 have f2 := hx2.frozen 2
 have l2 := hx2.lt
 have hsz : W.heap.size + 1 < w1.heap.size := HSZ.out
 go_wp2_with fail
 obtain ⟨y0, y1, y2⟩ := ((setR3 hx2 (.slice R.ba R.bn R.bc) (.slice R.wa R.wn R.wc) (.slice R.ua R.un R.uc)).alloc (.cells #[.slice R.ba R.bn R.bc, .slice R.wa R.wn R.wc, .slice R.ua R.un R.uc] 35)).g3
 refine bodyPost_ret (v := .tuple #[.agg #[.slice R.ba R.bn R.bc, .slice R.wa R.wn R.wc, .slice R.ua R.un R.uc], .int .i64 (rankE S.sh (resL fs by' l))]) (by simp [results, Tryz.results14, go_sem, y0, y1, y2]) rfl ?_
 rw [HR.out.1, HR.out.2.1]
 exact ⟨R, hR, rfl, (((hRI.setOther hRN hsz _).setOther hRN hsz _).setOther hRN hsz _).below (al0 _ _ _), ⟨fun q e => Nat.le_trans hb1.size (hRN.1 q e), fun q e => Nat.le_trans hb1.size (hRN.2.1 q e), fun q e => Nat.le_trans hb1.size (hRN.2.2 q e)⟩, ((((hb1.on hB2).setCell hwW _).setCell hwW _).setCell hwW _).on (al0 _ _ _)⟩
end Go.Proofs.YtehoidohallfcaaGreatDoor
