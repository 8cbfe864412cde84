/- Contract of law54.sane: the examples hold. -/
import Derived.Test.YtehoidohallfcaaGreatDoorCatX
namespace Go.Proofs.YtehoidohallfcaaGreatDoor
open Go.RowKit
structure SnI (S : Sp) (W : World) (B : Nat) (w : World) : Prop where
 l : SL encRs 6 w (some ⟨B, 0, none⟩) 4 4 sL
 x : Box w (B + 1) #[.int .i64 S.sh.cs, .int .i64 S.sh.ps, .slice S.la S.ln S.lc, .slice S.ca S.cn S.cc, .slice S.pa S.pn S.pc, .slice S.ra S.rn S.rc] 25
 t : SL encFt 5 w (some ⟨B + 1 + 1, 0, none⟩) 2 2 sT
 s : S.In w
 tab : Tab w
 bel : Below W.heap.size W w
theorem SnI.below {S : Sp} {W w w' : World} {B : Nat} (h : SnI S W B w) (hb : Below w.heap.size w w') : SnI S W B w' := ⟨h.l.below hb, h.x.below hb, h.t.below hb, h.s.below hb, h.tab.below hb, h.bel.on hb⟩
theorem gr_T : GrOk sT := fun f hf => by
 unfold sT at hf
 simp only [List.mem_cons, List.not_mem_nil, or_false] at hf
 rcases hf with rfl | rfl <;> exact ⟨_, _, _, rfl⟩
theorem gr_F : GrOk sF := fun f hf => by
 unfold sF at hf
 simp only [List.mem_cons, List.not_mem_nil, or_false] at hf
 subst hf; exact ⟨_, _, _, rfl⟩
theorem gr_N : GrOk [] := fun f hf => by cases hf
theorem want_facts {w18 w19 : World} {v' : Value} (hown' : w19.ownsRow w18.heap.size 53 6 v' (0 + 4) ([] ++ sL.flatMap encRs)) (hgrow : (w18.alloc (.cells #[] 53)).grownBy w19 (Value.slice (some ⟨w18.heap.size, 0, none⟩) 0 0).ownBlock) :
 ∃ vb vc, v' = .slice (some ⟨vb, 0, none⟩) 4 vc ∧ w19.cell? ⟨vb, 5, none⟩ = some (.bool true) ∧ w19.frozen? ⟨vb, 5, none⟩ = false ∧ w19.cell? ⟨vb, 11, none⟩ = some (.bool true) ∧ w19.frozen? ⟨vb, 11, none⟩ = false ∧ vb < w19.heap.size ∧
  Below w18.heap.size w18 ((w19.setCell ⟨vb, 5, none⟩ (.bool false)).setCell ⟨vb, 11, none⟩ (.bool false)) ∧ SL encRs 6 ((w19.setCell ⟨vb, 5, none⟩ (.bool false)).setCell ⟨vb, 11, none⟩ (.bool false)) (some ⟨vb, 0, none⟩) 4 vc sW := by
 have hO : OwnSL encRs 6 w19 w18.heap.size 53 v' sL := by
  have h : w19.ownsRow w18.heap.size 53 6 v' 4 (sL.flatMap encRs) := by simpa using hown'
  exact h
 obtain ⟨va, vc, rfl, hSL⟩ : ∃ a c, v' = .slice a 4 c ∧ SL encRs 6 w19 a 4 c sL := hO.sl encRs_len
 obtain ⟨vb, rfl, h1, h2, h3⟩ := own_spot (n := 4) hO (by omega)
 have e0 := (hSL.rs6 (i := 0) (x := sA 0 0 3) rfl).2.2.2.2.2
 have e1 := (hSL.rs6 (i := 1) (x := sA 1 0 4) rfl).2.2.2.2.2
 have hb : Below w18.heap.size w18 w19 := (al0 w18 #[] 53).grown hgrow (by simp) (fun q e => by simp only [Value.ownBlock, Option.some.injEq] at e; omega)
 have q1 := hO.set encRs_len rfl (i := 0) (j := 5) (x := sA 0 0 3) (y := { sA 0 0 3 with rt := false }) (v := .bool false) rfl (by omega) rfl
 have q2 := q1.set encRs_len rfl (i := 1) (j := 5) (x := sA 1 0 4) (y := { sA 1 0 4 with rt := false }) (v := .bool false) rfl (by omega) rfl
 obtain ⟨a', c', e', hS2⟩ := q2.sl encRs_len
 injection e' with ea en ec
 subst ea ec
 exact ⟨vb, vc, rfl, by simpa [sA] using e0, h3 5, by simpa [sA] using e1, h3 11, h2, (hb.setCell h1 _).setCell h1 _, hS2⟩
set_option maxRecDepth 20000 in
set_option maxHeartbeats 8000000 in
theorem sane_any (W : World) (ht : Tab W) : Calls Tryz.prog 9 #[] W fun e w' => RetB W (.bool true) e w' := by
 go_enter Tryz.func9, Tryz.ntmps9
 go_wp2_with fail
 refine (sheet_any _).mono ?_
 rintro e w1 ⟨S, hSs, rfl, hS1, hB1⟩
 have HSS := Lib.hid hSs
 have h4 : S.sh.cs ≤ 4 := by rw [hSs]; decide
 clear hSs
 go_wp2_with fail
 refine (at_any 0 0 3 _).mono ?_
 rintro e w2 ⟨rfl, hB2⟩
 simp only [sA]
 go_wp2_with fail
 refine (at_any 1 0 4 _).mono ?_
 rintro e w3 ⟨rfl, hB3⟩
 simp only [sA]
 go_wp2_with fail
 refine (at_any 0 1 6 _).mono ?_
 rintro e w4 ⟨rfl, hB4⟩
 simp only [sA]
 go_wp2_with fail
 refine (at_any 1 1 5 _).mono ?_
 rintro e w5 ⟨rfl, hB5⟩
 simp only [sA]
 have hb5 := (((hB1.on hB2).on hB3).on hB4).on hB5
 have hS5 := (((hS1.below hB2).below hB3).below hB4).below hB5
 have HS5 := Lib.hid hS5
 have HB5 := Lib.hid hb5
 clear hB1 hB2 hB3 hB4 hB5 hS1 hS5 hb5
 have hz1 : Box (((w5.alloc (.cells #[.int .i64 0, .int .i64 0, .int .i64 1, .int .i64 3, .int .i64 3, .bool true, .int .i64 1, .int .i64 0, .int .i64 1, .int .i64 4, .int .i64 4, .bool true, .int .i64 0, .int .i64 1, .int .i64 1, .int .i64 6, .int .i64 6, .bool true, .int .i64 1, .int .i64 1, .int .i64 1, .int .i64 5, .int .i64 5, .bool true] 53)).alloc (.cells #[.int .i64 S.sh.cs, .int .i64 S.sh.ps, .slice S.la S.ln S.lc, .slice S.ca S.cn S.cc, .slice S.pa S.pn S.pc, .slice S.ra S.rn S.rc] 25)).alloc (.cells #[.int .i64 1, .int .i64 3, .int .i64 0, .int .i64 0, .slice none 0 0, .int .i64 0, .int .i64 2, .int .i64 0, .int .i64 5, .slice none 0 0] 48)) _ _ _ ∧ _ := box3w w5 _ _ _ _ _ _
 obtain ⟨w6, hw6⟩ : ∃ w6, ((w5.alloc (.cells #[.int .i64 0, .int .i64 0, .int .i64 1, .int .i64 3, .int .i64 3, .bool true, .int .i64 1, .int .i64 0, .int .i64 1, .int .i64 4, .int .i64 4, .bool true, .int .i64 0, .int .i64 1, .int .i64 1, .int .i64 6, .int .i64 6, .bool true, .int .i64 1, .int .i64 1, .int .i64 1, .int .i64 5, .int .i64 5, .bool true] 53)).alloc (.cells #[.int .i64 S.sh.cs, .int .i64 S.sh.ps, .slice S.la S.ln S.lc, .slice S.ca S.cn S.cc, .slice S.pa S.pn S.pc, .slice S.ra S.rn S.rc] 25)).alloc (.cells #[.int .i64 1, .int .i64 3, .int .i64 0, .int .i64 0, .slice none 0 0, .int .i64 0, .int .i64 2, .int .i64 0, .int .i64 5, .slice none 0 0] 48) = w6 := ⟨_, rfl⟩
 have hs6 : w6.heap.size = w5.heap.size + 1 + 1 + 1 := by rw [← hw6]; simp
 rw [hw6] at hz1
 obtain ⟨z1, z2, z3, z4⟩ := hz1
 have hI : SnI S W w5.heap.size w6 := ⟨SL.lit encRs_len z1 rfl rfl (by omega), z2, SL.lit encFt_len z3 rfl rfl (by omega), HS5.out.below z4, ht.below (HB5.out.on z4), HB5.out.on z4⟩
 have HI := Lib.hid hI
 have HW6 := Lib.hid hw6
 have h01 := one_int w6 0 3
 rw [hs6] at h01
 clear hI z1 z2 z3 z4 hw6
 go_wp2_with fail
 rw [HW6.out]
 refine (check_one _ _ _ _ h01).mono ?_
 rintro e w7 ⟨rfl, hB7⟩
 have hI := (HI.out.below (al0 _ _ _)).below hB7
 obtain ⟨B, hB⟩ : ∃ B, w5.heap.size = B := ⟨_, rfl⟩
 rw [hB] at hI ⊢
 clear HI hB7 h01 HS5 HB5 hs6 hB
 go_wp2_with fail
 refine (check_two _).mono ?_
 rintro e w8 ⟨rfl, hB8⟩
 replace hI := hI.below hB8
 clear hB8
 obtain ⟨d0, d1, d2, d3, d4, d5⟩ := hI.x.g6
 have hsF : SL encFt 5 (w8.alloc (.cells #[.int .i64 0, .int .i64 0, .int .i64 0, .int .i64 0, .slice none 0 0] 48)) (some ⟨w8.heap.size, 0, none⟩) 1 1 sF := SL.lit encFt_len (Box.new _ _ _) rfl rfl (by omega)
 replace hI := hI.below (al0 w8 #[.int .i64 0, .int .i64 0, .int .i64 0, .int .i64 0, .slice none 0 0] 48)
 have hR := Lib.hid (results_any ptC S _ 4 4 sL _ 1 1 sF 0 _ hI.tab hI.s hI.l hsF gr_F)
 rw [HSS.out, s_1, s_5, ← HSS.out] at hR
 have HI := Lib.hid hI
 clear hI hsF
 go_wp2_with fail
 refine hR.out.mono ?_
 rintro e w9 ⟨v9, rfl, -, hB9⟩
 have hI := HI.out.below hB9
 clear HI hR hB9 d0 d1 d2 d3 d4 d5
 obtain ⟨d0, d1, d2, d3, d4, d5⟩ := hI.x.g6
 have hR := Lib.hid (results_any ptC S _ 4 4 sL _ 2 2 sT 4 _ hI.tab hI.s hI.l hI.t gr_T)
 rw [HSS.out, s_2, s_6, ← HSS.out] at hR
 have HI := Lib.hid hI
 clear hI
 go_wp2_with fail
 refine hR.out.mono ?_
 rintro e w10 ⟨v10, rfl, hX, hB10⟩
 obtain ⟨xa, xc, rfl, hx⟩ : ∃ a c, v10 = .slice a 4 c ∧ SL encRs 6 w10 a 4 c sL := hX.sl encRs_len
 have hI := HI.out.below hB10
 clear HI hR hB10 hX d0 d1 d2 d3 d4 d5
 obtain ⟨d0, d1, d2, d3, d4, d5⟩ := hI.x.g6
 have hR := Lib.hid (results_any ptC S _ 4 4 sL _ 2 2 sT 5 _ hI.tab hI.s hI.l hI.t gr_T)
 rw [HSS.out, s_3, s_7, ← HSS.out] at hR
 have HI := Lib.hid hI
 have HX := Lib.hid hx
 clear hI hx
 go_wp2_with fail
 refine hR.out.mono ?_
 rintro e w11 ⟨v11, rfl, hY, hB11⟩
 obtain ⟨ya, yc, rfl, hy⟩ : ∃ a c, v11 = .slice a 4 c ∧ SL encRs 6 w11 a 4 c sW := hY.sl encRs_len
 have hI := HI.out.below hB11
 replace HX := Lib.hid (HX.out.below hB11)
 clear HI hR hB11 hY d0 d1 d2 d3 d4 d5
 obtain ⟨d0, d1, d2, d3, d4, d5⟩ := hI.x.g6
 have hR := Lib.hid (changes_any S _ 4 4 sL none 0 0 [] 0 1023 _ hI.tab hI.s hI.l (SL.nil _ _ _) gr_N h4)
 rw [HSS.out, s_13, s_14, ← HSS.out] at hR
 have HI := Lib.hid hI
 have HY := Lib.hid hy
 clear hI hy
 go_wp2_with fail
 refine hR.out.mono ?_
 rintro e w12 ⟨v12, rfl, hN, hB12⟩
 obtain ⟨na, nc, rfl, -⟩ : ∃ a c, v12 = .slice a 0 c ∧ SL encCg 6 w12 a 0 c [] := hN.sl encCg_len
 have hI := HI.out.below hB12
 replace HX := Lib.hid (HX.out.below hB12)
 replace HY := Lib.hid (HY.out.below hB12)
 clear HI hR hB12 hN d0 d1 d2 d3 d4 d5
 obtain ⟨d0, d1, d2, d3, d4, d5⟩ := hI.x.g6
 have hR := Lib.hid (changes_any S _ 4 4 sL _ 2 2 sT 4 5 _ hI.tab hI.s hI.l hI.t gr_T h4)
 rw [HSS.out, s_15, s_16, ← HSS.out] at hR
 have HI := Lib.hid hI
 clear hI
 go_wp2_with fail
 refine hR.out.mono ?_
 rintro e w13 ⟨v13, rfl, hC, hB13⟩
 obtain ⟨ca, cc, rfl, hc⟩ : ∃ a c, v13 = .slice a 1 c ∧ SL encCg 6 w13 a 1 c [⟨0, 1, 1, 2, 2, 1⟩] := hC.sl encCg_len
 have hI := HI.out.below hB13
 replace HX := Lib.hid (HX.out.below hB13)
 replace HY := Lib.hid (HY.out.below hB13)
 clear HI hR hB13 hC d0 d1 d2 d3 d4 d5
 obtain ⟨d0, d1, d2, d3, d4, d5⟩ := hI.x.g6
 have hR := Lib.hid (changes_any S _ 4 4 sL _ 2 2 sT 5 4 _ hI.tab hI.s hI.l hI.t gr_T h4)
 rw [HSS.out, s_17, s_18, ← HSS.out] at hR
 have HI := Lib.hid hI
 have HC := Lib.hid hc
 clear hI hc
 go_wp2_with fail
 refine hR.out.mono ?_
 rintro e w14 ⟨v14, rfl, -, hB14⟩
 have hI := HI.out.below hB14
 replace HX := Lib.hid (HX.out.below hB14)
 replace HY := Lib.hid (HY.out.below hB14)
 replace HC := Lib.hid (HC.out.below hB14)
 clear HI hR hB14 d0 d1 d2 d3 d4 d5
 obtain ⟨d0, d1, d2, d3, d4, d5⟩ := hI.x.g6
 have hR := Lib.hid (results_any ptC S _ 4 4 sL _ 2 2 sT 1024 _ hI.tab hI.s hI.l hI.t gr_T)
 rw [HSS.out, s_4, s_8, ← HSS.out] at hR
 have HI := Lib.hid hI
 clear hI
 go_wp2_with fail
 refine hR.out.mono ?_
 rintro e w15 ⟨v15, rfl, -, hB15⟩
 have hI := HI.out.below hB15
 replace HX := Lib.hid (HX.out.below hB15)
 replace HY := Lib.hid (HY.out.below hB15)
 replace HC := Lib.hid (HC.out.below hB15)
 clear HI hR hB15 d0 d1 d2 d3 d4 d5
 obtain ⟨d0, d1, d2, d3, d4, d5⟩ := hI.x.g6
 have hR := Lib.hid (again_any S _ 4 4 sL _ 2 2 sT 4 _ hI.tab hI.s hI.l hI.t gr_T h4)
 rw [HSS.out, s_9, s_11, ← HSS.out] at hR
 have HI := Lib.hid hI
 clear hI
 go_wp2_with fail
 refine hR.out.mono ?_
 rintro e w16 ⟨P, hP, rfl, hPI, -, hB16⟩
 have hI := (HI.out.below hB16).below (al0 w16 #[.slice P.ba P.bn P.bc, .slice P.wa P.wn P.wc, .slice P.ua P.un P.uc] 35)
 have hxP := Box.new w16 #[.slice P.ba P.bn P.bc, .slice P.wa P.wn P.wc, .slice P.ua P.un P.uc] 35
 have hPI := hPI.below (al0 w16 #[.slice P.ba P.bn P.bc, .slice P.wa P.wn P.wc, .slice P.ua P.un P.uc] 35)
 replace HX := Lib.hid ((HX.out.below hB16).below (al0 w16 #[.slice P.ba P.bn P.bc, .slice P.wa P.wn P.wc, .slice P.ua P.un P.uc] 35))
 replace HY := Lib.hid ((HY.out.below hB16).below (al0 w16 #[.slice P.ba P.bn P.bc, .slice P.wa P.wn P.wc, .slice P.ua P.un P.uc] 35))
 replace HC := Lib.hid ((HC.out.below hB16).below (al0 w16 #[.slice P.ba P.bn P.bc, .slice P.wa P.wn P.wc, .slice P.ua P.un P.uc] 35))
 clear HI hR hB16 d0 d1 d2 d3 d4 d5
 obtain ⟨d0, d1, d2, d3, d4, d5⟩ := hI.x.g6
 have hR := Lib.hid (again_any S _ 4 4 sL _ 2 2 sT 5 _ hI.tab hI.s hI.l hI.t gr_T h4)
 rw [HSS.out, s_10, s_12, ← HSS.out] at hR
 have HI := Lib.hid hI
 have HPI := Lib.hid hPI
 have HXP := Lib.hid hxP
 have HP := Lib.hid hP
 clear hI hPI hxP hP
 go_wp2_with fail
 refine hR.out.mono ?_
 rintro e w17 ⟨Q, hQ, rfl, hQI, -, hB17⟩
 have HI2 := Lib.hid ((HI.out.below hB17).below (al0 w17 #[.slice Q.ba Q.bn Q.bc, .slice Q.wa Q.wn Q.wc, .slice Q.ua Q.un Q.uc] 35))
 have HXQ := Lib.hid (Box.new w17 #[.slice Q.ba Q.bn Q.bc, .slice Q.wa Q.wn Q.wc, .slice Q.ua Q.un Q.uc] 35)
 have HQI := Lib.hid (hQI.below (al0 w17 #[.slice Q.ba Q.bn Q.bc, .slice Q.wa Q.wn Q.wc, .slice Q.ua Q.un Q.uc] 35))
 replace HXP := Lib.hid ((HXP.out.below hB17).below (al0 w17 #[.slice Q.ba Q.bn Q.bc, .slice Q.wa Q.wn Q.wc, .slice Q.ua Q.un Q.uc] 35))
 replace HPI := Lib.hid ((HPI.out.below hB17).below (al0 w17 #[.slice Q.ba Q.bn Q.bc, .slice Q.wa Q.wn Q.wc, .slice Q.ua Q.un Q.uc] 35))
 replace HX := Lib.hid ((HX.out.below hB17).below (al0 w17 #[.slice Q.ba Q.bn Q.bc, .slice Q.wa Q.wn Q.wc, .slice Q.ua Q.un Q.uc] 35))
 replace HY := Lib.hid ((HY.out.below hB17).below (al0 w17 #[.slice Q.ba Q.bn Q.bc, .slice Q.wa Q.wn Q.wc, .slice Q.ua Q.un Q.uc] 35))
 replace HC := Lib.hid ((HC.out.below hB17).below (al0 w17 #[.slice Q.ba Q.bn Q.bc, .slice Q.wa Q.wn Q.wc, .slice Q.ua Q.un Q.uc] 35))
 have HQ := Lib.hid hQ
 clear HI hR hB17 d0 d1 d2 d3 d4 d5 hQI hQ
 obtain ⟨i28, hi28, hz280, hz281, hz282⟩ := info_parts info6
 have hmade := World.ownsRow_made (base := w17.heap.size + 1) (e := 53) (size := 6) (w17.alloc (.cells #[.slice Q.ba Q.bn Q.bc, .slice Q.wa Q.wn Q.wc, .slice Q.ua Q.un Q.uc] 35)) #[] 0 (by simp) (by simp [maxLen]) rfl
 rw [World.size_alloc] at hmade
 have hal3 := al0 (w17.alloc (.cells #[.slice Q.ba Q.bn Q.bc, .slice Q.wa Q.wn Q.wc, .slice Q.ua Q.un Q.uc] 35)) #[] 53
 go_wp2_with (at_builtin; refine wpList_append_any rfl _ _ 26 rfl (w17.heap.size + 1) 53 i28 _ 6 48 Tryz.underlying26 hi28 hz280 hz281 hz282 rfl (by decide) (.slice (some ⟨w17.heap.size + 1, 0, none⟩) 0 0) 0 [] hmade rfl (some ⟨B, 0, none⟩) 4 4 (sL.flatMap encRs) rfl (fun h => by cases h) rfl (fun a ha => (HI2.out.l.below hal3).flat encRs_len (by decide) a ha) (rs_one _) (by unfold maxLen; omega) (by omega) (by simp) ?_; intro v' w19 hown' hgrow hfr; obtain ⟨vb, vc, rfl, k5, f5, k11, f11, lb, hbE, hWE⟩ := want_facts (w18 := w17.alloc (.cells #[.slice Q.ba Q.bn Q.bc, .slice Q.wa Q.wn Q.wc, .slice Q.ua Q.un Q.uc] 35)) (by rw [World.size_alloc]; exact hown') (by rw [World.size_alloc]; exact hgrow); have HBE := Lib.hid hbE; have HWE := Lib.hid hWE; clear hbE hWE hown' hgrow hfr)
 obtain ⟨wE, hwE⟩ : ∃ wE, (w19.setCell ⟨vb, 5, none⟩ (.bool false)).setCell ⟨vb, 11, none⟩ (.bool false) = wE := ⟨_, rfl⟩
 rw [hwE] at HBE HWE ⊢
 have HIE := Lib.hid (HI2.out.below HBE.out)
 have HXE := Lib.hid (HX.out.below HBE.out)
 have HYE := Lib.hid (HY.out.below HBE.out)
 have HCE := Lib.hid (HC.out.below HBE.out)
 have HXPE := Lib.hid (HXP.out.below HBE.out)
 have HXQE := Lib.hid (HXQ.out.below HBE.out)
 have HPIE := Lib.hid (HPI.out.below HBE.out)
 have HQIE := Lib.hid (HQI.out.below HBE.out)
 clear hwE HBE HI2 HX HY HC HXP HXQ HPI HQI k5 f5 k11 f11 lb hmade hal3
 refine (sameRs_any _ _ _ _ _ _ sL sL wE HXE.out HIE.out.l).mono ?_
 rintro e w' ⟨rfl, q1, rfl⟩
 rw [show decide (sL = sL) = true from decide_eq_true rfl]
 go_wp2_with fail
 refine (sameRs_any _ _ _ _ _ _ sW sW _ (HYE.out.drewN _) (HWE.out.drewN _)).mono ?_
 rintro e w' ⟨rfl, q2, rfl⟩
 rw [show decide (sW = sW) = true from decide_eq_true rfl]
 obtain ⟨w20, hw20⟩ : ∃ w20, (wE.drewN q1).drewN q2 = w20 := ⟨_, rfl⟩
 have hb20 : Below wE.heap.size wE w20 := by rw [← hw20]; exact below_drewN (below_drewN (Below.refl _ _) _) _
 rw [hw20]
 have HI := Lib.hid (HIE.out.below hb20)
 have HC := Lib.hid (HCE.out.below hb20)
 have HXP := Lib.hid (HXPE.out.below hb20)
 have HXQ := Lib.hid (HXQE.out.below hb20)
 have HPI := Lib.hid (HPIE.out.below hb20)
 have HQI := Lib.hid (HQIE.out.below hb20)
 clear hw20 hb20 HIE HCE HXPE HXQE HPIE HQIE HXE HYE HWE
 obtain ⟨p0, p1, -⟩ := HXP.out.g3
 have h2 := two_int w20 1 1 3
 have hIn := (HPI.out.best).below (al0 w20 #[.int .i64 1, .int .i64 1] 3)
 go_wp2_with fail
 refine (same13_any _ _ _ _ _ _ _ _ _ hIn h2).mono ?_
 rintro e w' ⟨rfl, q, rfl⟩
 rw [show decide (P.r.best = [1, 1]) = true by rw [HP.out]; decide]
 obtain ⟨w21, hwn⟩ : ∃ wn, (w20.alloc (.cells #[.int .i64 1, .int .i64 1] 3)).drewN q = wn := ⟨_, rfl⟩
 have hbn : Below w20.heap.size w20 w21 := by rw [← hwn]; exact below_drewN (al0 _ _ _) _
 rw [hwn]
 replace HI := Lib.hid (HI.out.below hbn)
 replace HC := Lib.hid (HC.out.below hbn)
 replace HXP := Lib.hid (HXP.out.below hbn)
 replace HXQ := Lib.hid (HXQ.out.below hbn)
 replace HPI := Lib.hid (HPI.out.below hbn)
 replace HQI := Lib.hid (HQI.out.below hbn)
 clear hwn hbn p0 p1 h2 hIn
 obtain ⟨p0, p1, -⟩ := HXP.out.g3
 have h2 := two_int w21 1 1 3
 have hIn := (HPI.out.worst).below (al0 w21 #[.int .i64 1, .int .i64 1] 3)
 go_wp2_with fail
 refine (same13_any _ _ _ _ _ _ _ _ _ hIn h2).mono ?_
 rintro e w' ⟨rfl, q, rfl⟩
 rw [show decide (P.r.worst = [1, 1]) = true by rw [HP.out]; decide]
 obtain ⟨w22, hwn⟩ : ∃ wn, (w21.alloc (.cells #[.int .i64 1, .int .i64 1] 3)).drewN q = wn := ⟨_, rfl⟩
 have hbn : Below w21.heap.size w21 w22 := by rw [← hwn]; exact below_drewN (al0 _ _ _) _
 rw [hwn]
 replace HI := Lib.hid (HI.out.below hbn)
 replace HC := Lib.hid (HC.out.below hbn)
 replace HXP := Lib.hid (HXP.out.below hbn)
 replace HXQ := Lib.hid (HXQ.out.below hbn)
 replace HPI := Lib.hid (HPI.out.below hbn)
 replace HQI := Lib.hid (HQI.out.below hbn)
 clear hwn hbn p0 p1 h2 hIn
 obtain ⟨p0, p1, -⟩ := HXQ.out.g3
 have h2 := two_int w22 2 1 3
 have hIn := (HQI.out.best).below (al0 w22 #[.int .i64 2, .int .i64 1] 3)
 go_wp2_with fail
 refine (same13_any _ _ _ _ _ _ _ _ _ hIn h2).mono ?_
 rintro e w' ⟨rfl, q, rfl⟩
 rw [show decide (Q.r.best = [2, 1]) = true by rw [HQ.out]; decide]
 obtain ⟨w23, hwn⟩ : ∃ wn, (w22.alloc (.cells #[.int .i64 2, .int .i64 1] 3)).drewN q = wn := ⟨_, rfl⟩
 have hbn : Below w22.heap.size w22 w23 := by rw [← hwn]; exact below_drewN (al0 _ _ _) _
 rw [hwn]
 replace HI := Lib.hid (HI.out.below hbn)
 replace HC := Lib.hid (HC.out.below hbn)
 replace HXP := Lib.hid (HXP.out.below hbn)
 replace HXQ := Lib.hid (HXQ.out.below hbn)
 replace HPI := Lib.hid (HPI.out.below hbn)
 replace HQI := Lib.hid (HQI.out.below hbn)
 clear hwn hbn p0 p1 h2 hIn
 obtain ⟨p0, p1, -⟩ := HXQ.out.g3
 have h2 := two_int w23 2 1 3
 have hIn := (HQI.out.worst).below (al0 w23 #[.int .i64 2, .int .i64 1] 3)
 go_wp2_with fail
 refine (same13_any _ _ _ _ _ _ _ _ _ hIn h2).mono ?_
 rintro e w' ⟨rfl, q, rfl⟩
 rw [show decide (Q.r.worst = [2, 1]) = true by rw [HQ.out]; decide]
 obtain ⟨w24, hwn⟩ : ∃ wn, (w23.alloc (.cells #[.int .i64 2, .int .i64 1] 3)).drewN q = wn := ⟨_, rfl⟩
 have hbn : Below w23.heap.size w23 w24 := by rw [← hwn]; exact below_drewN (al0 _ _ _) _
 rw [hwn]
 replace HI := Lib.hid (HI.out.below hbn)
 replace HC := Lib.hid (HC.out.below hbn)
 replace HXP := Lib.hid (HXP.out.below hbn)
 replace HXQ := Lib.hid (HXQ.out.below hbn)
 replace HPI := Lib.hid (HPI.out.below hbn)
 replace HQI := Lib.hid (HQI.out.below hbn)
 clear hwn hbn p0 p1 h2 hIn
 have hcs : SL encCg 6 (w24.alloc (.cells #[.int .i64 0, .int .i64 1, .int .i64 1, .int .i64 2, .int .i64 2, .int .i64 1] 55)) (some ⟨w24.heap.size, 0, none⟩) 1 1 [⟨0, 1, 1, 2, 2, 1⟩] := SL.lit encCg_len (Box.new _ _ _) rfl rfl (by omega)
 have hcc := HC.out.below (al0 w24 #[.int .i64 0, .int .i64 1, .int .i64 1, .int .i64 2, .int .i64 2, .int .i64 1] 55)
 go_wp2_with fail
 refine (sameCg_any _ _ _ _ _ _ _ _ _ hcc hcs).mono ?_
 rintro e w' ⟨rfl, q, rfl⟩
 go_wp2_with fail
 go_ret
 exact ⟨by simp, below_drewN (HI.out.bel.on (al0 _ _ _)) _⟩
theorem ruR_0 {s : Sh} {l : List Rs} {fs : List (Ft Value)} {d : Int} (h : ruE s l fs d = 0) : ruR s l fs d = resL fs d l := by unfold ruR; rw [if_neg (fun x => x h)]
theorem resL_get {fs : List (Ft Value)} {d : Int} {l : List Rs} {k : Nat} {x : Rs} (h : l[k]? = some x) : (resL fs d l)[k]? = some { x with rt := x.rt && !fltB fs x.pz d } := by
 unfold resL; rw [List.getElem?_map, h]; rfl
end Go.Proofs.YtehoidohallfcaaGreatDoor
