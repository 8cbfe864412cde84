/- Contract of rulings.Changes: the walk. -/
import Derived.Test.YtehoidohallfcaaGreatDoorRuY
namespace Go.Proofs.YtehoidohallfcaaGreatDoor
open Go.RowKit
attribute [local go_sem] Oper.semAt_some
set_option maxRecDepth 20000 in
set_option maxHeartbeats 8000000 in
theorem changes_any (S : Sp) (al : Option Addr) (nl cl : Nat) (l : List Rs) (fa : Option Addr) (fn fc : Nat) (fs : List (Ft Value)) (fr to' : Int) (W : World) (ht : Tab W) (hS : S.In W) (h0 : SL encRs 6 W al nl cl l) (hF : SL encFt 5 W fa fn fc fs) (hG : GrOk fs) (h4 : S.sh.cs ≤ 4) :
 Calls Tryz.prog 17 #[.agg #[.int .i64 S.sh.cs, .int .i64 S.sh.ps, .slice S.la S.ln S.lc, .slice S.ca S.cn S.cc, .slice S.pa S.pn S.pc, .slice S.ra S.rn S.rc], .slice al nl cl, .slice fa fn fc, .int .i64 fr, .int .i64 to'] W (RetCg W (chR S.sh l fs fr to') (chE S.sh l fs fr to')) := by
 have hx1 := Box.new W #[.int .i64 S.sh.cs, .int .i64 S.sh.ps, .slice S.la S.ln S.lc, .slice S.ca S.cn S.cc, .slice S.pa S.pn S.pc, .slice S.ra S.rn S.rc] 25
 have hbb : Below W.heap.size W (W.alloc (.cells #[.int .i64 S.sh.cs, .int .i64 S.sh.ps, .slice S.la S.ln S.lc, .slice S.ca S.cn S.cc, .slice S.pa S.pn S.pc, .slice S.ra S.rn S.rc] 25)) := al0 _ _ _
 obtain ⟨w0, hw0⟩ : ∃ w0, W.alloc (.cells #[.int .i64 S.sh.cs, .int .i64 S.sh.ps, .slice S.la S.ln S.lc, .slice S.ca S.cn S.cc, .slice S.pa S.pn S.pc, .slice S.ra S.rn S.rc] 25) = w0 := ⟨_, rfl⟩
 rw [hw0] at hx1 hbb
 have HA := Lib.hid (again_any S al nl cl l fa fn fc fs fr w0 (ht.below hbb) (hS.below hbb) (h0.below hbb) (hF.below hbb) hG h4)
 have HW0 := Lib.hid hw0
 have HFL := Lib.hid hF.len
 clear hw0
 obtain ⟨d0, d1, d2, d3, d4, d5⟩ := hx1.g6
 by_cases he : agE S.sh l fs fr = 0
 rotate_left
 · obtain ⟨E, hE⟩ : ∃ E, agE S.sh l fs fr = E := ⟨_, rfl⟩
   have HR := Lib.hid (chE_1 (e := to') he)
   rw [hE] at he HA HR
   have g1 : (E != 0) = true := by simpa using he
   clear hE he
   refine (callsIn_wide (n := 9)).1 (callsIn_of_wp_marks Tryz.func17 rfl trivial ?_ rfl)
   simp only [Tryz.ntmps17, List.size_toArray, List.length_cons, List.length_nil, Nat.reduceAdd, Nat.reduceSub, Array.replicate_succ, Array.replicate_zero, List.push_toArray, List.append_toArray, List.nil_append, List.cons_append]
   refine wpIn_wide.2 ?_
   go_wp2_with fail
   rw [HW0.out]
   go_wp2_with fail
   refine HA.out.mono ?_
   rintro e w1 ⟨A, hA, rfl, hAI, hAN, hB1⟩
   go_wp2_with fail
   refine ⟨.tuple #[.slice none 0 0, .int .i64 E], by simp [results, Tryz.results17, go_sem], ?_⟩
   rw [HR.out.1, HR.out.2]
   exact RetCg.bad ((hbb.on hB1).on (al0 _ _ _))
 have HE1 := Lib.hid he
 rw [he] at HA
 clear he
 obtain ⟨E2, hE2⟩ : ∃ E2, agE S.sh l fs to' = E2 := ⟨_, rfl⟩
 have HQ := Lib.hid hE2
 by_cases he2 : E2 = 0
 rotate_left
 · have HR := Lib.hid (chE_2 (e := to') HE1.out (by rw [hE2]; exact he2))
   have g2 : (E2 != 0) = true := by simpa using he2
   rw [hE2] at HR
   clear hE2 he2
   refine (callsIn_wide (n := 9)).1 (callsIn_of_wp_marks Tryz.func17 rfl trivial ?_ rfl)
   simp only [Tryz.ntmps17, List.size_toArray, List.length_cons, List.length_nil, Nat.reduceAdd, Nat.reduceSub, Array.replicate_succ, Array.replicate_zero, List.push_toArray, List.append_toArray, List.nil_append, List.cons_append]
   refine wpIn_wide.2 ?_
   go_wp2_with fail
   rw [HW0.out]
   go_wp2_with fail
   refine HA.out.mono ?_
   rintro e w1 ⟨A, hA, rfl, hAI, hAN, hB1⟩
   have hb1 := hbb.on hB1
   have hal := al0 w1 #[.slice A.ba A.bn A.bc, .slice A.wa A.wn A.wc, .slice A.ua A.un A.uc] 35
   have hxA := Box.new w1 #[.slice A.ba A.bn A.bc, .slice A.wa A.wn A.wc, .slice A.ua A.un A.uc] 35
   have HBB := Lib.hid (again_any S al nl cl l fa fn fc fs to' _ (ht.below (hb1.on hal)) (hS.below (hb1.on hal)) (h0.below (hb1.on hal)) (hF.below (hb1.on hal)) hG h4)
   obtain ⟨d0, d1, d2, d3, d4, d5⟩ := ((hx1.below hB1).below hal).g6
   have hl1 : W.heap.size < w1.heap.size := (hx1.below hB1).lt
   rw [HQ.out] at HBB
   go_wp2_with fail
   refine HBB.out.mono ?_
   rintro e w2 ⟨B, hB, rfl, hBI, hBN, hB2⟩
   clear HBB
   go_wp2_with fail
   refine ⟨.tuple #[.slice none 0 0, .int .i64 E2], by simp [results, Tryz.results17, go_sem], ?_⟩
   rw [HR.out.1, HR.out.2]
   exact RetCg.bad (((hb1.on hal).on hB2).on (al0 _ _ _))
 subst he2
 clear hE2
 by_cases ho : to' < fr
 · have HR := Lib.hid (chE_3 HE1.out HQ.out ho)
   have g2 : decide (to' < fr) = true := by simpa using ho
   clear ho
   refine (callsIn_wide (n := 9)).1 (callsIn_of_wp_marks Tryz.func17 rfl trivial ?_ rfl)
   simp only [Tryz.ntmps17, List.size_toArray, List.length_cons, List.length_nil, Nat.reduceAdd, Nat.reduceSub, Array.replicate_succ, Array.replicate_zero, List.push_toArray, List.append_toArray, List.nil_append, List.cons_append]
   refine wpIn_wide.2 ?_
   go_wp2_with fail
   rw [HW0.out]
   go_wp2_with fail
   refine HA.out.mono ?_
   rintro e w1 ⟨A, hA, rfl, hAI, hAN, hB1⟩
   have hb1 := hbb.on hB1
   have hal := al0 w1 #[.slice A.ba A.bn A.bc, .slice A.wa A.wn A.wc, .slice A.ua A.un A.uc] 35
   have hxA := Box.new w1 #[.slice A.ba A.bn A.bc, .slice A.wa A.wn A.wc, .slice A.ua A.un A.uc] 35
   have HBB := Lib.hid (again_any S al nl cl l fa fn fc fs to' _ (ht.below (hb1.on hal)) (hS.below (hb1.on hal)) (h0.below (hb1.on hal)) (hF.below (hb1.on hal)) hG h4)
   obtain ⟨d0, d1, d2, d3, d4, d5⟩ := ((hx1.below hB1).below hal).g6
   have hl1 : W.heap.size < w1.heap.size := (hx1.below hB1).lt
   rw [HQ.out] at HBB
   go_wp2_with fail
   refine HBB.out.mono ?_
   rintro e w2 ⟨B, hB, rfl, hBI, hBN, hB2⟩
   clear HBB
   go_wp2_with fail
   refine ⟨.tuple #[.slice none 0 0, .int .i64 1], by simp [results, Tryz.results17, go_sem], ?_⟩
   rw [HR.out.1, HR.out.2]
   exact RetCg.bad (((hb1.on hal).on hB2).on (al0 _ _ _))
 have HR := Lib.hid (chE_4 HE1.out HQ.out ho)
 have g2 : decide (to' < fr) = false := by simpa using ho
 have HL1 := Lib.hid (agR_len HE1.out)
 have HL2 := Lib.hid (agR_len HQ.out)
 clear ho
 refine (callsIn_wide (n := 9)).1 (callsIn_of_wp_marks Tryz.func17 rfl trivial ?_ rfl)
 simp only [Tryz.ntmps17, List.size_toArray, List.length_cons, List.length_nil, Nat.reduceAdd, Nat.reduceSub, Array.replicate_succ, Array.replicate_zero, List.push_toArray, List.append_toArray, List.nil_append, List.cons_append]
 refine wpIn_wide.2 ?_
 go_wp2_with fail
 rw [HW0.out]
 go_wp2_with fail
 refine HA.out.mono ?_
 rintro e w1 ⟨A, hA, rfl, hAI, hAN, hB1⟩
 have hb1 := hbb.on hB1
 have hal := al0 w1 #[.slice A.ba A.bn A.bc, .slice A.wa A.wn A.wc, .slice A.ua A.un A.uc] 35
 have hxA := Box.new w1 #[.slice A.ba A.bn A.bc, .slice A.wa A.wn A.wc, .slice A.ua A.un A.uc] 35
 have HBB := Lib.hid (again_any S al nl cl l fa fn fc fs to' _ (ht.below (hb1.on hal)) (hS.below (hb1.on hal)) (h0.below (hb1.on hal)) (hF.below (hb1.on hal)) hG h4)
 obtain ⟨d0, d1, d2, d3, d4, d5⟩ := ((hx1.below hB1).below hal).g6
 have hl1 : W.heap.size < w1.heap.size := (hx1.below hB1).lt
 rw [HQ.out] at HBB
 go_wp2_with fail
 refine HBB.out.mono ?_
 rintro e w2 ⟨B, hB, rfl, hBI, hBN, hB2⟩
 clear HBB
 have hxB := Box.new w2 #[.slice B.ba B.bn B.bc, .slice B.wa B.wn B.wc, .slice B.ua B.un B.uc] 35
 have hal2 := al0 w2 #[.slice B.ba B.bn B.bc, .slice B.wa B.wn B.wc, .slice B.ua B.un B.uc] 35
 have hal3 := al0 (w2.alloc (.cells #[.slice B.ba B.bn B.bc, .slice B.wa B.wn B.wc, .slice B.ua B.un B.uc] 35)) #[.int .i64 0] 3
 have hxR := Box.new (w2.alloc (.cells #[.slice B.ba B.bn B.bc, .slice B.wa B.wn B.wc, .slice B.ua B.un B.uc] 35)) #[.int .i64 0] 3
 rw [World.size_alloc] at hxR
 have hl2 : w1.heap.size < w2.heap.size := (hxA.below hB2).lt
 have hz0 : Below W.heap.size W ((w2.alloc (.cells #[.slice B.ba B.bn B.bc, .slice B.wa B.wn B.wc, .slice B.ua B.un B.uc] 35)).alloc (.cells #[.int .i64 0] 3)) := (((hb1.on hal).on hB2).on hal2).on hal3
 have hz1 := ((hxA.below hB2).below hal2).below hal3
 have hz2 := hxB.below hal3
 go_wp2_with fail
 refine (counting_any fa fn fc fr to' _).mono ?_
 rintro e w4 ⟨rfl, hy1, hy2, hy3, hB4⟩
 have HBW := Lib.hid (hal3.on hB4)
 have HA0 := Lib.hid (((hAI.below hal).below hB2).below hal2)
 have HB0 := Lib.hid (hBI.below hal2)
 have HZ0 := Lib.hid (hz0.on hB4)
 have HZ1 := Lib.hid (hz1.below hB4)
 have HZ2 := Lib.hid (hz2.below hB4)
 have HZ5 := Lib.hid (hxR.below hB4)
 simp only [World.size_alloc] at hy1 hy2 hy3 ⊢
 have hl4 := hy3.lt
 have hfb : ∀ B o, fa = some ⟨B, o, none⟩ → 0 < fn → B < W.heap.size := fun B o e hn => by
  obtain ⟨b', o', e', hlt⟩ := hF.at' hn
  rw [e'] at e; injection e with e; injection e with e1 e2; omega
 have HFB := Lib.hid hfb
 clear hz0 hz1 hz2 hxB hal2 hal3 hxR hB4 hAI hBI hal hxA hB2 hB1 hx1 hbb hfb d0 d1 d2 d3 d4 d5 hAN hBN
 go_wp2_with fail
 refine wp_range_cntB 0 47 15 fa fn fc fs fr to' (w2.heap.size + 1 + 1) (w2.heap.size + 1 + 1 + 1) (w2.heap.size + 1 + 1 + 1 + 1) (w2.heap.size + 1) rfl hy1 hy2 hy3 (hF.below HZ0.out) hG (by omega) (by omega) (by omega) (fun B o e hn => by have := HFB.out B o e hn; omega)
  (fun pre X => pre = [] ∧ KpR w4.heap.size (w2.heap.size + 1) w4 X ∧ Box X (w2.heap.size + 1) #[.int .i64 0] 3 ∧ Below W.heap.size W X)
  (fun pre X => ∃ i : Fin fn, pre = [i] ∧ KpR w4.heap.size (w2.heap.size + 1) w4 X ∧ Box X (w2.heap.size + 1) #[.int .i64 (i.val : Int)] 3 ∧ Below W.heap.size W X)
  (fun X => KpR w4.heap.size (w2.heap.size + 1) w4 X ∧ Box X (w2.heap.size + 1) #[.int .i64 (whyN fs fr to' : Int)] 3 ∧ Below W.heap.size W X) ?hI ?hIe ⟨rfl, KpR.refl _ _ _, HZ5.out, HZ0.out⟩ ?hassign ?hbody ?hR1 ?hR2 ?hK
 case hI =>
  rintro pre X Y row ⟨h1, h2, h3, h4⟩ hg hr
  exact ⟨h1, h2.grown hg (Nat.le_refl _) (fun r e => (hr r e).1), Box.nonC h3 hg (fun r e => (hr r e).2), h4.grown hg h4.size (fun b e => by have := (hr b e).1; omega)⟩
 case hIe =>
  rintro pre X Y row ⟨i, h1, h2, h3, h4⟩ hg hr
  exact ⟨i, h1, h2.grown hg (Nat.le_refl _) (fun r e => (hr r e).1), Box.nonC h3 hg (fun r e => (hr r e).2), h4.grown hg h4.size (fun b e => by have := (hr b e).1; omega)⟩
 case hassign =>
  intro li x W2 K hK
  simp only [s_t, s_z, s_s] at hK ⊢
  gi_wp2
  exact hK
 case hbody =>
  rintro li pre x W2 ⟨rfl, h2, h3, h4⟩ hlen
  simp only [s_t, s_z, s_s]
  have c3 := h3.cell 0
  have f3 := h3.frozen 0
  have l3 := h3.lt
  simp only [List.getElem?_toArray, List.getElem?_cons_zero] at c3
  have H2 := Lib.hid h2
  have H3 := Lib.hid h3
  have H4 := Lib.hid h4
  clear h2 h3 h4
  gi_wp2
  refine ⟨KeepsFrom.of_grownBy (grownBy_setCell _ _ _) (fun j e => by injection e with e; subst e; show w2.heap.size + 1 < w4.heap.size; omega), rfl, x, rfl, H2.out.trans (KpR.set _ _ _), by simpa using H3.out.set 0 (.int .i64 (x.val : Int)), H4.out.setCell (by show W.heap.size ≤ w2.heap.size + 1; omega) _⟩
 case hR1 =>
  rintro xs X hxs ⟨rfl, h2, h3, h4⟩
  have : whyN fs fr to' = 0 := whyN_none (by rw [HFL.out, ← hxs]; rfl)
  rw [this]
  exact ⟨h2, h3, h4⟩
 case hR2 =>
  rintro k pre X hk hb he ⟨i, rfl, h2, h3, h4⟩
  have h5 : begTo fs fr to' k = [] ∧ i.val = k := by
   cases hq : begTo fs fr to' k with
   | nil => rw [hq] at he; simpa using he
   | cons a r => rw [hq] at he; simp at he
  rw [whyN_some (by rw [HFL.out]; exact hk) h5.1 hb, ← h5.2]
  exact ⟨h2, h3, h4⟩
 case hK =>
  rintro D X hD ⟨hKp, hXr, hBX⟩ hKD
  simp only [Exit.then]
  have hsB : (w2.alloc (.cells #[.slice B.ba B.bn B.bc, .slice B.wa B.wn B.wc, .slice B.ua B.un B.uc] 35)).heap.size = w2.heap.size + 1 := World.size_alloc _ _
  have hkB : KpR (w2.alloc (.cells #[.slice B.ba B.bn B.bc, .slice B.wa B.wn B.wc, .slice B.ua B.un B.uc] 35)).heap.size (w2.heap.size + 1) (w2.alloc (.cells #[.slice B.ba B.bn B.bc, .slice B.wa B.wn B.wc, .slice B.ua B.un B.uc] 35)) X := (KpR.of_below HBW.out (Nat.le_refl _)).trans (hKp.mono HBW.out.size)
  have hAX := HA0.out.kept hkB (by rw [hsB]; exact Nat.le_refl _)
  have hBX' := HB0.out.kept hkB (by rw [hsB]; exact Nat.le_refl _)
  have hz1 := HZ1.out.kept hKp (by omega) (by omega)
  have hz2 := HZ2.out.kept hKp (by omega) (by omega)
  have hDX : D < X.heap.size := (Array.getElem?_eq_some_iff.1 hKD).1
  have n1 : A.bn = S.sh.cs.toNat := by rw [← hAX.best.len, hA]; exact HL1.out.1
  have n2 : A.wn = S.sh.cs.toNat := by rw [← hAX.worst.len, hA]; exact HL1.out.2.1
  have n3 : B.bn = S.sh.cs.toNat := by rw [← hBX'.best.len, hB]; exact HL2.out.1
  have n4 : B.wn = S.sh.cs.toNat := by rw [← hBX'.worst.len, hB]; exact HL2.out.2.1
  have hcs := HL1.out.2.2
  have hn4 : A.bn ≤ 4 := by omega
  have hn12 : A.wn = A.bn := by omega
  have hn13 : B.bn = A.bn := by omega
  have hn14 : B.wn = A.bn := by omega
  have HN1 := Lib.hid n1
  have HN12 := Lib.hid hn12
  have HN13 := Lib.hid hn13
  have HN14 := Lib.hid hn14
  have HAX := Lib.hid hAX
  have HBX' := Lib.hid hBX'
  have HX1 := Lib.hid hz1
  have HX2 := Lib.hid hz2
  have HXR := Lib.hid hXr
  have HBX := Lib.hid hBX
  have HKD := Lib.hid hKD
  have HKP := Lib.hid hKp.1
  have HHA := Lib.hid hA
  have HHB := Lib.hid hB
  obtain ⟨d0, d1, -⟩ := hz1.g3
  clear hA hB n1 n2 n3 n4 hn12 hn13 hn14 hAX hBX' hz1 hz2 hXr hBX hKD hKp hkB
  go_wp2_with fail
  go_loopw [10, 52] (fun v i wr => ∃ k : Nat, i = .int .i64 k ∧ k ≤ A.bn ∧ OwnSL encCg 6 wr X.heap.size 55 v (cgTo A.r B.r (whyN fs fr to') k) ∧ Below X.heap.size X wr) (fun _ i _ => A.bn - (intOf i).toNat)
  case atStart => exact ⟨0, rfl, by omega, OwnSL.nil _ _ _ _ _, Below.refl _ _⟩
  case round =>
   clear d0 d1
   obtain ⟨k, rfl, hk, hO, hBw⟩ := hrel
   by_cases hlt : k < A.bn
   rotate_left
   · obtain hkk : k = A.bn := by omega
     subst hkk
     have HO := Lib.hid hO
     have HBw := Lib.hid hBw
     clear hO hBw
     go_wp2_with fail
     have hKr := (HBw.out.block D hDX).trans HKD.out
     refine ⟨by simp, .inl ⟨_, _, rfl, run_takeDeferred hKr, ?_⟩⟩
     refine ⟨.tuple #[u10, .int .i64 0], by simp [results, Tryz.results17, go_sem], ?_⟩
     have hgp := grownBy_putObj' wr D (.deferred none)
     have hbw := HBX.out.on HBw.out
     rw [HR.out.1, HR.out.2, ← HHA.out, ← HHB.out, ← HN1.out]
     refine ⟨_, rfl, ?_, hbw.grown hgp (by have := hbw.size; omega) (fun b e => by injection e with e; subst e; omega)⟩
     exact (HO.out.mono HBX.out.size).nonCell hgp (fun r e => by injection e with e; subst e; exact ⟨_, hKr, rfl⟩)
   have hA1 := HAX.out.below hBw
   have hB1 := HBX'.out.below hBw
   obtain ⟨p1, hp1⟩ := hA1.best.has hlt
   obtain ⟨p2, hp2⟩ := hA1.worst.has (i := k) (by have := HN12.out; omega)
   obtain ⟨q1, hq1⟩ := hB1.best.has (i := k) (by have := HN13.out; omega)
   obtain ⟨q2, hq2⟩ := hB1.worst.has (i := k) (by have := HN14.out; omega)
   obtain ⟨b1, o1, ab, _⟩ := hA1.best.at' (by omega)
   obtain ⟨b2, o2, aw, _⟩ := hA1.worst.at' (by have := HN12.out; omega)
   obtain ⟨b3, o3, bb, _⟩ := hB1.best.at' (by have := HN13.out; omega)
   obtain ⟨b4, o4, bw, _⟩ := hB1.worst.at' (by have := HN14.out; omega)
   obtain ⟨x0, x1, -⟩ := (HX1.out.below hBw).g3
   obtain ⟨y0, y1, -⟩ := (HX2.out.below hBw).g3
   have hr0 : wr.cell? ⟨w2.heap.size + 1, 0, none⟩ = some (.int .i64 (whyN fs fr to' : Int)) := by simpa using (HXR.out.below hBw).cell 0
   have i1 := hA1.best
   have i2 := hA1.worst
   have i3 := hB1.best
   have i4 := hB1.worst
   have m1 := i1.mx
   have m2 := i2.mx
   have m3 := i3.mx
   have m4 := i4.mx
   have k1 := i1.cap
   have k2 := i2.cap
   have k3 := i3.cap
   have k4 := i4.cap
   unfold maxLen at m1 m2 m3 m4
   rw [ab] at x0 i1
   rw [aw] at x1 i2
   rw [bb] at y0 i3
   rw [bw] at y1 i4
   have e1 := i1.get hp1
   have e2 := i2.get hp2
   have e3 := i3.get hq1
   have e4 := i4.get hq2
   have s0 : (0 : Int) ≤ (k : Int) := by omega
   have s1 : (k : Int) < (A.bn : Int) := by omega
   have s2 : (k : Int) < (A.wn : Int) := by have := HN12.out; omega
   have s3 : (k : Int) < (B.bn : Int) := by have := HN13.out; omega
   have s4 : (k : Int) < (B.wn : Int) := by have := HN14.out; omega
   have t2 : k < A.wn := by omega
   have t3 : k < B.bn := by omega
   have t4 : k < B.wn := by omega
   obtain ⟨wy, hwy⟩ : ∃ wy, whyN fs fr to' = wy := ⟨_, rfl⟩
   rw [hwy] at hr0 hO ⊢
   have HCG := Lib.hid (cgB_eq A.r B.r k hp1 hp2 hq1 hq2 wy)
   have HST := Lib.hid (cgTo_step A.r B.r wy k)
   have hlen := cgTo_len A.r B.r wy k
   have HO := Lib.hid hO
   have HBw := Lib.hid hBw
   have HWY := Lib.hid hwy
   have llb := hBw.size
   have ll1 : w1.heap.size < wr.heap.size := by have := HX1.out.lt; omega
   have ll2 : w2.heap.size < wr.heap.size := by have := HX2.out.lt; omega
   have ll3 : w2.heap.size + 1 < wr.heap.size := by have := HXR.out.lt; omega
   clear hA1 hB1 hp1 hp2 hq1 hq2 ab aw bb bw i1 i2 i3 i4 hO hBw hwy
   go_wp2_with fail
   apply region_fix (R := fun w' => w' = wr.drew.alloc (.cells #[.int .i64 (k : Int), .int .i64 p1, .int .i64 p2, .int .i64 q1, .int .i64 q2, .int .i64 (wy : Int)] 55))
   · refine wp_region_held_drew (S := fun w' => w'.cell? ⟨w1.heap.size, 0, none⟩ = some (.slice (some ⟨b1, o1, none⟩) A.bn A.bc) ∧ w'.cell? ⟨w1.heap.size, 1, none⟩ = some (.slice (some ⟨b2, o2, none⟩) A.wn A.wc) ∧ w'.cell? ⟨w2.heap.size, 0, none⟩ = some (.slice (some ⟨b3, o3, none⟩) B.bn B.bc) ∧ w'.cell? ⟨w2.heap.size, 1, none⟩ = some (.slice (some ⟨b4, o4, none⟩) B.wn B.wc) ∧ w'.cell? ⟨w2.heap.size + 1, 0, none⟩ = some (.int .i64 (wy : Int)) ∧ w'.cell? ⟨b1, o1 + k, none⟩ = some (.int .i64 p1) ∧ w'.cell? ⟨b2, o2 + k, none⟩ = some (.int .i64 p2) ∧ w'.cell? ⟨b3, o3 + k, none⟩ = some (.int .i64 q1) ∧ w'.cell? ⟨b4, o4 + k, none⟩ = some (.int .i64 q2)) (by kernel_rfl) ⟨x0, x1, y0, y1, hr0, e1, e2, e3, e4⟩ (fun hS => ?_)
     refine wpAnyH_take (i := 0) (v := ?_) rfl (by kernel_rfl) (by kernel_rfl) (by kernel_rfl) NormQ.hq (Or.inl ⟨by rfl, ?_⟩) (by assumption) ?_
     rotate_left
     focus
      intro w hSw
      (try dsimp only at hSw)
      (try go_split_ands)
      go_simp
      try with_reducible rfl
     (try simp only [Act.put, l_t, l_z, s_t, s_z, s_s])
     refine wpAnyH_take (i := 1) (v := ?_) rfl (by kernel_rfl) (by kernel_rfl) (by kernel_rfl) NormQ.hq (Or.inl ⟨by rfl, ?_⟩) (by assumption) ?_
     rotate_left
     focus
      intro w hSw
      (try dsimp only at hSw)
      (try go_split_ands)
      go_simp
      try with_reducible rfl
     (try simp only [Act.put, l_t, l_s, l_z, s_t, s_z, s_s])
     refine wpAnyH_take (i := 2) (v := ?_) rfl (by kernel_rfl) (by kernel_rfl) (by kernel_rfl) NormQ.hq (Or.inl ⟨by rfl, ?_⟩) (by assumption) ?_
     rotate_left
     focus
      intro w hSw
      (try dsimp only at hSw)
      (try go_split_ands)
      go_simp
      try with_reducible rfl
     (try simp only [Act.put, l_t, l_s, l_z, s_t, s_z, s_s])
     refine wpAnyH_take (i := 3) (v := ?_) rfl (by kernel_rfl) (by kernel_rfl) (by kernel_rfl) NormQ.hq (Or.inl ⟨by rfl, ?_⟩) (by assumption) ?_
     rotate_left
     focus
      intro w hSw
      (try dsimp only at hSw)
      (try go_split_ands)
      go_simp
      try with_reducible rfl
     (try simp only [Act.put, l_t, l_s, l_z, s_t, s_z, s_s])
     refine wpAnyH_take (i := 4) (v := ?_) rfl (by kernel_rfl) (by kernel_rfl) (by kernel_rfl) NormQ.hq (Or.inl ⟨by rfl, ?_⟩) (by assumption) ?_
     rotate_left
     focus
      intro w hSw
      (try dsimp only at hSw)
      (try go_split_ands)
      go_simp
      try with_reducible rfl
     (try simp only [Act.put, l_t, l_s, l_z, s_t, s_z, s_s])
     refine wpAnyH_take (i := 5) (v := ?_) rfl (by kernel_rfl) (by kernel_rfl) (by kernel_rfl) NormQ.hq (Or.inl ⟨by rfl, ?_⟩) (by assumption) ?_
     rotate_left
     focus
      intro w hSw
      (try dsimp only at hSw)
      (try go_split_ands)
      go_simp
      try with_reducible rfl
     (try simp only [Act.put, l_t, l_s, l_z, s_t, s_z, s_s])
     refine wpAnyH_take (i := 6) (v := ?_) rfl (by kernel_rfl) (by kernel_rfl) (by kernel_rfl) NormQ.hq (Or.inl ⟨by rfl, ?_⟩) (by assumption) ?_
     rotate_left
     focus
      intro w hSw
      (try dsimp only at hSw)
      (try go_split_ands)
      go_simp
      try with_reducible rfl
     (try simp only [Act.put, l_t, l_s, l_z, s_t, s_z, s_s])
     refine wpAnyH_take (i := 7) (v := ?_) rfl (by kernel_rfl) (by kernel_rfl) (by kernel_rfl) NormQ.hq (Or.inl ⟨by rfl, ?_⟩) (by assumption) ?_
     rotate_left
     focus
      intro w hSw
      (try dsimp only at hSw)
      (try go_split_ands)
      go_simp
      try with_reducible rfl
     (try simp only [Act.put, l_t, l_s, l_z, s_t, s_z, s_s])
     refine wpAnyH_take (i := 8) (v := ?_) rfl (by kernel_rfl) (by kernel_rfl) (by kernel_rfl) NormQ.hq (Or.inl ⟨by rfl, ?_⟩) (by assumption) ?_
     rotate_left
     focus
      intro w hSw
      (try dsimp only at hSw)
      (try go_split_ands)
      go_simp
      try with_reducible rfl
     (try simp only [Act.put, l_t, l_s, l_z, s_t, s_z, s_s])
     refine wpAnyH_take (i := 9) (v := ?_) rfl (by kernel_rfl) (by kernel_rfl) (by kernel_rfl) NormQ.hq (Or.inl ⟨by rfl, ?_⟩) (by assumption) ?_
     rotate_left
     focus
      intro w hSw
      (try dsimp only at hSw)
      (try go_split_ands)
      go_simp
      try with_reducible rfl
     (try simp only [Act.put, l_t, l_s, l_z, s_t, s_z, s_s])
     refine wpAnyH_take (i := 10) (v := ?_) rfl (by kernel_rfl) (by kernel_rfl) (by kernel_rfl) NormQ.hq (Or.inl ⟨by rfl, ?_⟩) (by assumption) ?_
     rotate_left
     focus
      intro w hSw
      (try dsimp only at hSw)
      (try go_split_ands)
      go_simp
      try with_reducible rfl
     (try simp only [Act.put, l_t, l_s, l_z, s_t, s_z, s_s])
     refine wpAnyH_take (i := 11) (v := ?_) rfl (by kernel_rfl) (by kernel_rfl) (by kernel_rfl) NormQ.hq (Or.inl ⟨by rfl, ?_⟩) (by assumption) ?_
     rotate_left
     focus
      intro w hSw
      (try dsimp only at hSw)
      (try go_split_ands)
      go_simp
      try with_reducible rfl
     (try simp only [Act.put, l_t, l_s, l_z, s_t, s_z, s_s])
     refine wpAnyH_take (i := 12) (v := ?_) rfl (by kernel_rfl) (by kernel_rfl) (by kernel_rfl) NormQ.hq (Or.inl ⟨by rfl, ?_⟩) (by assumption) ?_
     rotate_left
     focus
      intro w hSw
      (try dsimp only at hSw)
      (try go_split_ands)
      go_simp
      try with_reducible rfl
     (try simp only [Act.put, l_t, l_s, l_z, s_t, s_z, s_s])
     refine wpAnyH_take (i := 13) (v := ?_) rfl (by kernel_rfl) (by kernel_rfl) (by kernel_rfl) NormQ.hq (Or.inl ⟨by rfl, ?_⟩) (by assumption) ?_
     rotate_left
     focus
      intro w hSw
      (try dsimp only at hSw)
      (try go_split_ands)
      go_simp
      try with_reducible rfl
     (try simp only [Act.put, l_t, l_s, l_z, s_t, s_z, s_s])
     refine wpAnyH_take (i := 14) (v := ?_) rfl (by kernel_rfl) (by kernel_rfl) (by kernel_rfl) NormQ.hq (Or.inl ⟨by rfl, ?_⟩) (by assumption) ?_
     rotate_left
     focus
      intro w hSw
      (try dsimp only at hSw)
      (try go_split_ands)
      go_simp
      try with_reducible rfl
     (try simp only [Act.put, l_t, l_s, l_z, s_t, s_z, s_s])
     refine wpAnyH_take (i := 15) (v := ?_) rfl (by kernel_rfl) (by kernel_rfl) (by kernel_rfl) NormQ.hq (Or.inl ⟨by rfl, ?_⟩) (by assumption) ?_
     rotate_left
     focus
      intro w hSw
      (try dsimp only at hSw)
      (try go_split_ands)
      go_simp
      try with_reducible rfl
     (try simp only [Act.put, l_t, l_s, l_z, s_t, s_z, s_s])
     refine wpAnyH_take (i := 16) (v := ?_) rfl (by kernel_rfl) (by kernel_rfl) (by kernel_rfl) NormQ.hq (Or.inl ⟨by rfl, ?_⟩) (by assumption) ?_
     rotate_left
     focus
      intro w hSw
      (try dsimp only at hSw)
      (try go_split_ands)
      go_simp
      try with_reducible rfl
     (try simp only [Act.put, l_t, l_s, l_z, s_t, s_z, s_s])
     refine wpAnyH_take (i := 17) (v := ?_) rfl (by kernel_rfl) (by kernel_rfl) (by kernel_rfl) NormQ.hq (Or.inl ⟨by rfl, ?_⟩) (by assumption) ?_
     rotate_left
     focus
      intro w hSw
      (try dsimp only at hSw)
      (try go_split_ands)
      go_simp
      try with_reducible rfl
     (try simp only [Act.put, l_t, l_s, l_z, s_t, s_z, s_s])
     refine wpAnyH_take (i := 18) (v := ?_) rfl (by kernel_rfl) (by kernel_rfl) (by kernel_rfl) NormQ.hq (Or.inl ⟨by rfl, ?_⟩) (by assumption) ?_
     rotate_left
     focus
      intro w hSw
      (try dsimp only at hSw)
      (try go_split_ands)
      go_simp
      try with_reducible rfl
     (try simp only [Act.put, l_t, l_s, l_z, s_t, s_z, s_s])
     refine wpAnyH_take (i := 19) (v := ?_) rfl (by kernel_rfl) (by kernel_rfl) (by kernel_rfl) NormQ.hq (Or.inl ⟨by rfl, ?_⟩) (by assumption) ?_
     rotate_left
     focus
      intro w hSw
      (try dsimp only at hSw)
      (try go_split_ands)
      go_simp
      try with_reducible rfl
     (try simp only [Act.put, l_t, l_s, l_z, s_t, s_z, s_s])
     refine wpAnyH_take (i := 20) (v := ?_) rfl (by kernel_rfl) (by kernel_rfl) (by kernel_rfl) NormQ.hq (Or.inl ⟨by rfl, ?_⟩) (by assumption) ?_
     rotate_left
     focus
      intro w hSw
      (try dsimp only at hSw)
      (try go_split_ands)
      go_simp
      try with_reducible rfl
     (try simp only [Act.put, l_t, l_s, l_z, s_t, s_z, s_s])
     refine wpAnyH_take (i := 21) (v := ?_) rfl (by kernel_rfl) (by kernel_rfl) (by kernel_rfl) NormQ.hq (Or.inl ⟨by rfl, ?_⟩) (by assumption) ?_
     rotate_left
     focus
      intro w hSw
      (try dsimp only at hSw)
      (try go_split_ands)
      go_simp
      try with_reducible rfl
     (try simp only [Act.put, l_t, l_s, l_z, s_t, s_z, s_s])
     refine wpAnyH_take (i := 22) (v := ?_) rfl (by kernel_rfl) (by kernel_rfl) (by kernel_rfl) NormQ.hq (Or.inl ⟨by rfl, ?_⟩) (by assumption) ?_
     rotate_left
     focus
      intro w hSw
      (try dsimp only at hSw)
      (try go_split_ands)
      go_simp
      try with_reducible rfl
     (try simp only [Act.put, l_t, l_s, l_z, s_t, s_z, s_s])
     refine wpAnyH_take (i := 23) (v := ?_) rfl (by kernel_rfl) (by kernel_rfl) (by kernel_rfl) NormQ.hq (Or.inl ⟨by rfl, ?_⟩) (by assumption) ?_
     rotate_left
     focus
      intro w hSw
      (try dsimp only at hSw)
      (try go_split_ands)
      go_simp
      try with_reducible rfl
     (try simp only [Act.put, l_t, l_s, l_z, s_t, s_z, s_s])
     refine wpAnyH_take (i := 24) (v := ?_) rfl (by kernel_rfl) (by kernel_rfl) (by kernel_rfl) NormQ.hq (Or.inl ⟨by rfl, ?_⟩) (by assumption) ?_
     rotate_left
     focus
      intro w hSw
      (try dsimp only at hSw)
      (try go_split_ands)
      go_simp
      try with_reducible rfl
     (try simp only [Act.put, l_t, l_s, l_z, s_t, s_z, s_s])
     refine wpAnyH_ready (rs := [25]) (by kernel_rfl) (by simp) (AllReadyH.cons rfl (fun K hK => ?_) AllReadyH.nil)
     go_simp
     obtain ⟨a1, a2, a3, a4, a5, a6, a7, a8, a9⟩ := hS
     refine hK.out _ _ (⟨cell_alloc a1 _, cell_alloc a2 _, cell_alloc a3 _, cell_alloc a4 _, cell_alloc a5 _, cell_alloc a6 _, cell_alloc a7 _, cell_alloc a8 _, cell_alloc a9 _⟩) (fun hS => ?_)
     clear hK K
     (try simp only [Act.put, l_t, l_s, l_z, s_t, s_z, s_s])
     refine wpAnyH_ready (rs := [26]) (by kernel_rfl) (by simp) (AllReadyH.cons rfl (fun K hK => ?_) AllReadyH.nil)
     go_simp
     refine hK.out _ _ (⟨cell_alloc a1 _, cell_alloc a2 _, cell_alloc a3 _, cell_alloc a4 _, cell_alloc a5 _, cell_alloc a6 _, cell_alloc a7 _, cell_alloc a8 _, cell_alloc a9 _⟩) (fun hS => ?_)
     clear hK K
     (try simp only [Act.put, l_t, l_s, l_z, s_t, s_z, s_s])
     refine wpAnyH_done (by kernel_rfl) ?_ _
     exact ⟨rfl, rfl, rfl⟩
   rintro w7 rfl
   have hbz : Below wr.heap.size wr (wr.drew.alloc (.cells #[.int .i64 (k : Int), .int .i64 p1, .int .i64 p2, .int .i64 q1, .int .i64 q2, .int .i64 (wy : Int)] 55)) := (Below.refl _ _).drew.alloc (by exact Nat.le_refl _) _
   have hXf : Box (wr.drew.alloc (.cells #[.int .i64 (k : Int), .int .i64 p1, .int .i64 p2, .int .i64 q1, .int .i64 q2, .int .i64 (wy : Int)] 55)) wr.heap.size #[.int .i64 (k : Int), .int .i64 p1, .int .i64 p2, .int .i64 q1, .int .i64 q2, .int .i64 (wy : Int)] 55 := Box.new wr.drew _ _
   obtain ⟨wz, hwz⟩ : ∃ wz, wr.drew.alloc (.cells #[.int .i64 (k : Int), .int .i64 p1, .int .i64 p2, .int .i64 q1, .int .i64 q2, .int .i64 (wy : Int)] 55) = wz := ⟨_, rfl⟩
   rw [hwz] at hbz hXf ⊢
   have HOz := Lib.hid (HO.out.below hbz)
   have HBz := Lib.hid (HBw.out.on hbz)
   obtain ⟨z0, z1, z2, z3, z4, z5⟩ := hXf.g6
   have hzs := HBz.out.size
   have hg := guard_rng
   have hEq := fun w => eqIn_rng p1 p2 q1 q2 w
   clear hwz x0 x1 y0 y1 hr0 e1 e2 e3 e4 hbz hXf
   by_cases hpq : p1 = q1 ∧ p2 = q2
   · rw [decide_eq_true hpq] at hEq
     have HS : Hid (cgTo A.r B.r wy (k + 1) = cgTo A.r B.r wy k) := Lib.hid (by rw [HST.out, HCG.out.1, decide_eq_true hpq]; simp)
     clear hpq
     go_wp2_with fail
     go_roundw
     case rel => exact ⟨k + 1, by go_num, by omega, by rw [HS.out]; exact HOz.out, HBz.out⟩
     case measure => simp [intOf]; omega
   · rw [decide_eq_false hpq] at hEq
     have HS : Hid (cgTo A.r B.r wy (k + 1) = cgTo A.r B.r wy k ++ [⟨k, p1, p2, q1, q2, wy⟩]) := Lib.hid (by rw [HST.out, HCG.out.1, HCG.out.2, decide_eq_false hpq]; simp)
     clear hpq
     obtain ⟨N, hN⟩ : ∃ N, (cgTo A.r B.r wy k).length = N := ⟨_, rfl⟩
     have hN8 : N ≤ 8 := by omega
     obtain ⟨va, vc, rfl, _, _⟩ := own_slice HOz.out
     rw [hN] at HOz ⊢
     have hown := HOz.out
     unfold OwnSL at hown
     rw [hN] at hown
     have HN := Lib.hid hN
     have HLU := Lib.hid (World.ownsRow.lt hown)
     obtain ⟨i22, hi22, hz220, hz221, hz222⟩ := info_parts info_cg
     clear hN
     go_wp2_with (at_builtin; refine wpList_append_own2 _ rfl _ _ 41 rfl X.heap.size 55 i22 (.agg #[.int .i64 0, .int .i64 0, .int .i64 0, .int .i64 0, .int .i64 0, .int .i64 0]) 6 48 Tryz.underlying41 hi22 hz220 hz221 hz222 rfl (by decide) _ _ _ (hown.alloc _) rfl ⟨_, 0, none⟩ 1 1 [.int .i64 (k : Int), .int .i64 p1, .int .i64 p2, .int .i64 q1, .int .i64 q2, .int .i64 (wy : Int)] rfl rfl (new6 _ _ _ _ _ _ _ _) (by simp [Value.oneCell']) (by unfold maxLen; omega) (by omega) (by first | omega | (simp; omega)) ?_; intro v' w8 hown' hgrow hfr)
     go_roundw
     case rel =>
      refine ⟨k + 1, by go_num, by omega, ?_, (HBz.out.alloc hzs _).grown hgrow (by simp; omega) (fun q e => (HLU.out q e).1)⟩
      rw [HS.out]
      exact OwnSL.snoc (by rw [HN.out]; exact hown')
     case measure => simp [intOf]; omega
end Go.Proofs.YtehoidohallfcaaGreatDoor
