/- The references' Changes. -/
import Derived.Test.YtehoidohallfcaaGreatDoorRaD
import Derived.Test.YtehoidohallfcaaGreatDoorRdYw
namespace Go.Proofs.YtehoidohallfcaaGreatDoor
open Go.RowKit
set_option maxRecDepth 20000 in
set_option maxHeartbeats 8000000 in
theorem rchanges54_any (hpt : RPtC) (S : Sp) (al : Option Addr) (nl cl : Nat) (l : List Rs) (fa : Option Addr) (fn fc : Nat) (fs : List (Ft Value)) (fr to' : Int) (W : World) (hS : S.In W) (h0 : SL encRs 6 W al nl cl l) (hF : SL encFt 5 W fa fn fc fs) (hG : GrOk fs) (hpn : S.pn ≤ 30) (hwr : WdR S.sh.pg) (hnl : nl ≤ 1000000) (h4 : S.sh.cs ≤ 4) :
 Calls Tryz.prog 18 #[.agg #[.int .i64 S.sh.cs, .int .i64 S.sh.ps, .slice S.la S.ln S.lc, .slice S.ca S.cn S.cc, .slice S.pa S.pn S.pc, .slice S.ra S.rn S.rc], .slice al nl cl, .slice fa fn fc, .int .i64 fr, .int .i64 to'] W (RetCg W (chR S.sh l fs fr to') (chE S.sh l fs fr to')) := by
 have hx1 := Box.new W #[.int .i64 S.sh.cs, .int .i64 S.sh.ps, .slice S.la S.ln S.lc, .slice S.ca S.cn S.cc, .slice S.pa S.pn S.pc, .slice S.ra S.rn S.rc] 25
 have hbb : Below W.heap.size W (W.alloc (.cells #[.int .i64 S.sh.cs, .int .i64 S.sh.ps, .slice S.la S.ln S.lc, .slice S.ca S.cn S.cc, .slice S.pa S.pn S.pc, .slice S.ra S.rn S.rc] 25)) := al0 _ _ _
 obtain ⟨w0, hw0⟩ : ∃ w0, W.alloc (.cells #[.int .i64 S.sh.cs, .int .i64 S.sh.ps, .slice S.la S.ln S.lc, .slice S.ca S.cn S.cc, .slice S.pa S.pn S.pc, .slice S.ra S.rn S.rc] 25) = w0 := ⟨_, rfl⟩
 rw [hw0] at hx1 hbb
 have HA := Lib.hid (ragain54_any hpt S al nl cl l fa fn fc fs fr w0 (hS.below hbb) (h0.below hbb) (hF.below hbb) hG hpn hwr hnl h4)
 have HW0 := Lib.hid hw0
 have HFL := Lib.hid hF.len
 clear hw0
 obtain ⟨d0, d1, d2, d3, d4, d5⟩ := hx1.g6
 by_cases he : agE S.sh l fs fr = 0
 rotate_left
 · obtain ⟨E, hE⟩ : ∃ E, agE S.sh l fs fr = E := ⟨_, rfl⟩
   have HR := Lib.hid (chE_1 (e := to') he)
   rw [hE] at he HA HR
   have g1 : (E != 0) = true := by simpa using he
   clear hE he
   go_enter Tryz.func18, Tryz.ntmps18
   go_wp2_with fail
   rw [HW0.out]
   go_wp2_with fail
   refine HA.out.mono ?_
   rintro e w1 ⟨A, hA, rfl, hAI, hAN, hB1⟩
   go_wp2_with fail
   refine bodyPost_ret (v := .tuple #[.slice none 0 0, .int .i64 E]) (by simp [results, Tryz.results18, go_sem]) rfl ?_
   rw [HR.out.1, HR.out.2]
   exact RetCg.bad ((hbb.on hB1).on (al0 _ _ _))
 have HE1 := Lib.hid he
 rw [he] at HA
 clear he
 obtain ⟨E2, hE2⟩ : ∃ E2, agE S.sh l fs to' = E2 := ⟨_, rfl⟩
 have HQ := Lib.hid hE2
 by_cases he2 : E2 = 0
 rotate_left
 · have HR := Lib.hid (chE_2 (e := to') HE1.out (by rw [hE2]; exact he2))
   have g2 : (E2 != 0) = true := by simpa using he2
   rw [hE2] at HR
   clear hE2 he2
   go_enter Tryz.func18, Tryz.ntmps18
   go_wp2_with fail
   rw [HW0.out]
   go_wp2_with fail
   refine HA.out.mono ?_
   rintro e w1 ⟨A, hA, rfl, hAI, hAN, hB1⟩
   have hb1 := hbb.on hB1
   have hal := al0 w1 #[.slice A.ba A.bn A.bc, .slice A.wa A.wn A.wc, .slice A.ua A.un A.uc] 35
   have hxA := Box.new w1 #[.slice A.ba A.bn A.bc, .slice A.wa A.wn A.wc, .slice A.ua A.un A.uc] 35
   have HBB := Lib.hid (ragain54_any hpt S al nl cl l fa fn fc fs to' _ (hS.below (hb1.on hal)) (h0.below (hb1.on hal)) (hF.below (hb1.on hal)) hG hpn hwr hnl h4)
   obtain ⟨d0, d1, d2, d3, d4, d5⟩ := (hx1.below hB1).g6
   have hl1 : W.heap.size < w1.heap.size := (hx1.below hB1).lt
   rw [HQ.out] at HBB
   go_wp2_with fail
   refine HBB.out.mono ?_
   rintro e w2 ⟨B, hB, rfl, hBI, hBN, hB2⟩
   clear HBB
   go_wp2_with fail
   refine bodyPost_ret (v := .tuple #[.slice none 0 0, .int .i64 E2]) (by simp [results, Tryz.results18, go_sem]) rfl ?_
   rw [HR.out.1, HR.out.2]
   exact RetCg.bad (((hb1.on hal).on hB2).on (al0 _ _ _))
 subst he2
 clear hE2
 by_cases ho : to' < fr
 · have HR := Lib.hid (chE_3 HE1.out HQ.out ho)
   have g2 : decide (to' < fr) = true := by simpa using ho
   clear ho
   go_enter Tryz.func18, Tryz.ntmps18
   go_wp2_with fail
   rw [HW0.out]
   go_wp2_with fail
   refine HA.out.mono ?_
   rintro e w1 ⟨A, hA, rfl, hAI, hAN, hB1⟩
   have hb1 := hbb.on hB1
   have hal := al0 w1 #[.slice A.ba A.bn A.bc, .slice A.wa A.wn A.wc, .slice A.ua A.un A.uc] 35
   have hxA := Box.new w1 #[.slice A.ba A.bn A.bc, .slice A.wa A.wn A.wc, .slice A.ua A.un A.uc] 35
   have HBB := Lib.hid (ragain54_any hpt S al nl cl l fa fn fc fs to' _ (hS.below (hb1.on hal)) (h0.below (hb1.on hal)) (hF.below (hb1.on hal)) hG hpn hwr hnl h4)
   obtain ⟨d0, d1, d2, d3, d4, d5⟩ := (hx1.below hB1).g6
   have hl1 : W.heap.size < w1.heap.size := (hx1.below hB1).lt
   rw [HQ.out] at HBB
   go_wp2_with fail
   refine HBB.out.mono ?_
   rintro e w2 ⟨B, hB, rfl, hBI, hBN, hB2⟩
   clear HBB
   go_wp2_with fail
   refine bodyPost_ret (v := .tuple #[.slice none 0 0, .int .i64 1]) (by simp [results, Tryz.results18, go_sem]) rfl ?_
   rw [HR.out.1, HR.out.2]
   exact RetCg.bad (((hb1.on hal).on hB2).on (al0 _ _ _))
 have HR := Lib.hid (chE_4 HE1.out HQ.out ho)
 have g2 : decide (to' < fr) = false := by simpa using ho
 have HL1 := Lib.hid (agR_len HE1.out)
 have HL2 := Lib.hid (agR_len HQ.out)
 clear ho
 go_enter Tryz.func18, Tryz.ntmps18
 go_wp2_with fail
 rw [HW0.out]
 go_wp2_with fail
 refine HA.out.mono ?_
 rintro e w1 ⟨A, hA, rfl, hAI, hAN, hB1⟩
 have hb1 := hbb.on hB1
 have hal := al0 w1 #[.slice A.ba A.bn A.bc, .slice A.wa A.wn A.wc, .slice A.ua A.un A.uc] 35
 have hxA := Box.new w1 #[.slice A.ba A.bn A.bc, .slice A.wa A.wn A.wc, .slice A.ua A.un A.uc] 35
 have HBB := Lib.hid (ragain54_any hpt S al nl cl l fa fn fc fs to' _ (hS.below (hb1.on hal)) (h0.below (hb1.on hal)) (hF.below (hb1.on hal)) hG hpn hwr hnl h4)
 obtain ⟨d0, d1, d2, d3, d4, d5⟩ := (hx1.below hB1).g6
 have hl1 : W.heap.size < w1.heap.size := (hx1.below hB1).lt
 rw [HQ.out] at HBB
 go_wp2_with fail
 refine HBB.out.mono ?_
 rintro e w2 ⟨B, hB, rfl, hBI, hBN, hB2⟩
 clear HBB
 have hxB := Box.new w2 #[.slice B.ba B.bn B.bc, .slice B.wa B.wn B.wc, .slice B.ua B.un B.uc] 35
 have hal2 := al0 w2 #[.slice B.ba B.bn B.bc, .slice B.wa B.wn B.wc, .slice B.ua B.un B.uc] 35
 have hz0 : Below W.heap.size W (w2.alloc (.cells #[.slice B.ba B.bn B.bc, .slice B.wa B.wn B.wc, .slice B.ua B.un B.uc] 35)) := ((hb1.on hal).on hB2).on hal2
 have HXA : Hid (Box (w2.alloc (.cells #[.slice B.ba B.bn B.bc, .slice B.wa B.wn B.wc, .slice B.ua B.un B.uc] 35)) w1.heap.size #[.slice A.ba A.bn A.bc, .slice A.wa A.wn A.wc, .slice A.ua A.un A.uc] 35) := Lib.hid ((hxA.below hB2).below hal2)
 have HXB : Hid (Box (w2.alloc (.cells #[.slice B.ba B.bn B.bc, .slice B.wa B.wn B.wc, .slice B.ua B.un B.uc] 35)) w2.heap.size #[.slice B.ba B.bn B.bc, .slice B.wa B.wn B.wc, .slice B.ua B.un B.uc] 35) := Lib.hid hxB
 have HXS : Hid (Box (w2.alloc (.cells #[.slice B.ba B.bn B.bc, .slice B.wa B.wn B.wc, .slice B.ua B.un B.uc] 35)) W.heap.size #[.int .i64 S.sh.cs, .int .i64 S.sh.ps, .slice S.la S.ln S.lc, .slice S.ca S.cn S.cc, .slice S.pa S.pn S.pc, .slice S.ra S.rn S.rc] 25) := Lib.hid ((((hx1.below hB1).below hal).below hB2).below hal2)
 have HAX := Lib.hid (((hAI.below hal).below hB2).below hal2)
 have HBX := Lib.hid (hBI.below hal2)
 have HZ0 := Lib.hid hz0
 have HSY : Hid ((w2.alloc (.cells #[.slice B.ba B.bn B.bc, .slice B.wa B.wn B.wc, .slice B.ua B.un B.uc] 35)).heap.size = w2.heap.size + 1) := Lib.hid (World.size_alloc _ _)
 have n1 : A.bn = S.sh.cs.toNat := by rw [← hAI.best.len, hA]; exact HL1.out.1
 have n2 : A.wn = S.sh.cs.toNat := by rw [← hAI.worst.len, hA]; exact HL1.out.2.1
 have n3 : B.bn = S.sh.cs.toNat := by rw [← hBI.best.len, hB]; exact HL2.out.1
 have n4 : B.wn = S.sh.cs.toNat := by rw [← hBI.worst.len, hB]; exact HL2.out.2.1
 have hcs := HL1.out.2.2
 obtain ⟨C, hC⟩ : ∃ C : Nat, S.sh.cs = (C : Int) := ⟨S.sh.cs.toNat, by omega⟩
 rw [hC, Int.toNat_natCast] at n1 n2 n3 n4
 have HC := Lib.hid hC
 have hC4 : C ≤ 4 := by omega
 have hC1 : 1 ≤ C := by omega
 have HHA := Lib.hid hA
 have HHB := Lib.hid hB
 have hsW := hz0.size
 clear hz0 hxB hal2 hAI hBI hal hxA hB2 hB1 hx1 hbb hAN hBN hA hB hb1 hC hcs
 go_wp2_with fail
 clear d0 d1 d2 d3 d4 d5
 obtain ⟨wy, hwy⟩ : ∃ wy, w2.alloc (.cells #[.slice B.ba B.bn B.bc, .slice B.wa B.wn B.wc, .slice B.ua B.un B.uc] 35) = wy := ⟨_, rfl⟩
 rw [hwy] at HXA HXB HXS HAX HBX HZ0 HSY hsW
 rw [n3, n4] at hwy
 rw [hwy]
 rw [← HSY.out]
 clear hwy
 go_loopw [16, 17] (fun v i wr => ∃ k : Nat, i = .int .i64 k ∧ k ≤ C ∧ OwnSL encCg 6 wr wy.heap.size 55 v (cgTo A.r B.r (whyN fs fr to') k) ∧ Below wy.heap.size wy wr) (fun _ i _ => C - (intOf i).toNat)
 case atStart => exact ⟨0, rfl, by omega, by simpa [cgTo] using OwnSL.made0 encCg 6 wy 55 wy.heap.size (Nat.le_refl _), al0 _ _ _⟩
 case round =>
  obtain ⟨k, rfl, hk, hO, hBw⟩ := hrel
  have s0 : (0 : Int) ≤ (k : Int) := by omega
  obtain ⟨d0, -, -, -, -, -⟩ := (HXS.out.below hBw).g6
  rw [HC.out] at d0
  by_cases hlt : k < C
  rotate_left
  · obtain rfl : C = k := by omega
    have HO := Lib.hid (hO.mono HZ0.out.size)
    have HBw := Lib.hid (HZ0.out.on hBw)
    clear hO hBw
    go_wp2_with fail
    refine bodyPost_ret (v := .tuple #[u16, .int .i64 0]) (by simp [results, Tryz.results18, go_sem]) rfl ?_
    rw [HR.out.1, HR.out.2, ← HHA.out, ← HHB.out, HC.out, Int.toNat_natCast]
    exact ⟨_, rfl, HO.out, HBw.out⟩
  have hA1 := HAX.out.below hBw
  have hB1 := HBX.out.below hBw
  obtain ⟨p1, hp1⟩ := hA1.best.has (i := k) (by omega)
  obtain ⟨p2, hp2⟩ := hA1.worst.has (i := k) (by omega)
  obtain ⟨q1, hq1⟩ := hB1.best.has (i := k) (by omega)
  obtain ⟨q2, hq2⟩ := hB1.worst.has (i := k) (by omega)
  obtain ⟨b1, o1, ab, _⟩ := hA1.best.at' (by omega)
  obtain ⟨b2, o2, aw, _⟩ := hA1.worst.at' (by omega)
  obtain ⟨b3, o3, bb, _⟩ := hB1.best.at' (by omega)
  obtain ⟨b4, o4, bw, _⟩ := hB1.worst.at' (by omega)
  obtain ⟨x0, x1, -⟩ := (HXA.out.below hBw).g3
  obtain ⟨y0, y1, -⟩ := (HXB.out.below hBw).g3
  have i1 := hA1.best
  have i2 := hA1.worst
  have i3 := hB1.best
  have i4 := hB1.worst
  have m1 := i1.mx
  have m2 := i2.mx
  have m3 := i3.mx
  have m4 := i4.mx
  have k1 := i1.cap
  have k2 := i2.cap
  have k3 := i3.cap
  have k4 := i4.cap
  unfold maxLen at m1 m2 m3 m4
  rw [ab] at x0 i1
  rw [aw] at x1 i2
  rw [bb] at y0 i3
  rw [bw] at y1 i4
  have e1 := i1.get hp1
  have e2 := i2.get hp2
  have e3 := i3.get hq1
  have e4 := i4.get hq2
  have s1 : (k : Int) < (A.bn : Int) := by omega
  have s2 : (k : Int) < (A.wn : Int) := by omega
  have s3 : (k : Int) < (B.bn : Int) := by omega
  have s4 : (k : Int) < (B.wn : Int) := by omega
  obtain ⟨wy', hwy'⟩ : ∃ wy', whyN fs fr to' = wy' := ⟨_, rfl⟩
  rw [hwy'] at hO ⊢
  have HCG := Lib.hid (cgB_eq A.r B.r k hp1 hp2 hq1 hq2 wy')
  have HST := Lib.hid (cgTo_step A.r B.r wy' k)
  have hlen := cgTo_len A.r B.r wy' k
  have HO := Lib.hid hO
  have HBw := Lib.hid hBw
  have HWY := Lib.hid hwy'
  clear hA1 hB1 hp1 hp2 hq1 hq2 ab aw bb bw i1 i2 i3 i4 hO hBw hwy'
  go_wp2_with fail
  apply region_fix2 (R := fun w' => Box w' wr.heap.size #[.int .i64 p1, .int .i64 p2] 51 ∧ Below wr.heap.size wr w')
  · refine wp_region_held_drew (S := fun w' => w'.cell? ⟨w1.heap.size, 0, none⟩ = some (.slice (some ⟨b1, o1, none⟩) A.bn A.bc) ∧ w'.cell? ⟨w1.heap.size, 1, none⟩ = some (.slice (some ⟨b2, o2, none⟩) A.wn A.wc) ∧ w'.cell? ⟨b1, o1 + k, none⟩ = some (.int .i64 p1) ∧ w'.cell? ⟨b2, o2 + k, none⟩ = some (.int .i64 p2)) (by kernel_rfl) ⟨x0, x1, e1, e2⟩ (fun hS => ?_)
    refine takeN 0 (v := ?_) rfl (by kernel_rfl) (by rfl) (fun w hSw => ?_) (by assumption) ?_
    rotate_left
    focus ((try dsimp only at hSw); (try go_split_ands); go_simp; try with_reducible rfl)
    (try simp only [PS])
    refine takeN 1 (v := ?_) rfl (by kernel_rfl) (by rfl) (fun w hSw => ?_) (by assumption) ?_
    rotate_left
    focus ((try dsimp only at hSw); (try go_split_ands); go_simp; try with_reducible rfl)
    (try simp only [PS])
    refine takeN 2 (v := ?_) rfl (by kernel_rfl) (by rfl) (fun w hSw => ?_) (by assumption) ?_
    rotate_left
    focus ((try dsimp only at hSw); (try go_split_ands); go_simp; try with_reducible rfl)
    (try simp only [PS])
    refine takeN 3 (v := ?_) rfl (by kernel_rfl) (by rfl) (fun w hSw => ?_) (by assumption) ?_
    rotate_left
    focus ((try dsimp only at hSw); (try go_split_ands); go_simp; try with_reducible rfl)
    (try simp only [PS])
    refine takeN 4 (v := ?_) rfl (by kernel_rfl) (by rfl) (fun w hSw => ?_) (by assumption) ?_
    rotate_left
    focus ((try dsimp only at hSw); (try go_split_ands); go_simp; try with_reducible rfl)
    (try simp only [PS])
    refine takeN 5 (v := ?_) rfl (by kernel_rfl) (by rfl) (fun w hSw => ?_) (by assumption) ?_
    rotate_left
    focus ((try dsimp only at hSw); (try go_split_ands); go_simp; try with_reducible rfl)
    (try simp only [PS])
    refine takeN 6 (v := ?_) rfl (by kernel_rfl) (by rfl) (fun w hSw => ?_) (by assumption) ?_
    rotate_left
    focus ((try dsimp only at hSw); (try go_split_ands); go_simp; try with_reducible rfl)
    (try simp only [PS])
    refine takeN 7 (v := ?_) rfl (by kernel_rfl) (by rfl) (fun w hSw => ?_) (by assumption) ?_
    rotate_left
    focus ((try dsimp only at hSw); (try go_split_ands); go_simp; try with_reducible rfl)
    (try simp only [PS])
    refine takeN 8 (v := ?_) rfl (by kernel_rfl) (by rfl) (fun w hSw => ?_) (by assumption) ?_
    rotate_left
    focus ((try dsimp only at hSw); (try go_split_ands); go_simp; try with_reducible rfl)
    (try simp only [PS])
    refine takeN 9 (v := ?_) rfl (by kernel_rfl) (by rfl) (fun w hSw => ?_) (by assumption) ?_
    rotate_left
    focus ((try dsimp only at hSw); (try go_split_ands); go_simp; try with_reducible rfl)
    (try simp only [PS])
    refine takeN 10 (v := ?_) rfl (by kernel_rfl) (by rfl) (fun w hSw => ?_) (by assumption) ?_
    rotate_left
    focus ((try dsimp only at hSw); (try go_split_ands); go_simp; try with_reducible rfl)
    (try simp only [PS])
    obtain ⟨a1, a2, a3, a4⟩ := hS
    refine nextH (i := 11) rfl (by kernel_rfl) (fun K hK => ?_)
    go_simp
    refine hK.out _ _ (⟨cell_alloc a1 _, cell_alloc a2 _, cell_alloc a3 _, cell_alloc a4 _⟩) (fun hS => ?_)
    clear hK K
    (try simp only [PS])
    refine nextH (i := 12) rfl (by kernel_rfl) (fun K hK => ?_)
    go_simp
    refine hK.out _ _ (⟨cell_alloc a1 _, cell_alloc a2 _, cell_alloc a3 _, cell_alloc a4 _⟩) (fun hS => ?_)
    clear hK K
    (try simp only [PS])
    refine wpAnyH_done (by kernel_rfl) ?_ _
    exact ⟨rfl, rfl, Box.new wr.drew _ _, (Below.refl _ _).drew.alloc (by exact Nat.le_refl _) _⟩
  rintro wa ⟨hXa, hBa⟩
  replace y0 := (hBa.cell (World.block_lt_of_cell? wr _ y0)).trans y0
  replace y1 := (hBa.cell (World.block_lt_of_cell? wr _ y1)).trans y1
  replace e3 := (hBa.cell (World.block_lt_of_cell? wr _ e3)).trans e3
  replace e4 := (hBa.cell (World.block_lt_of_cell? wr _ e4)).trans e4
  have HBA := Lib.hid (HBw.out.on hBa)
  have HOA := Lib.hid (HO.out.below hBa)
  clear x0 x1 e1 e2 d0 hBa
  go_wp2_with fail
  apply region_fix2 (R := fun w' => Box w' wa.heap.size #[.int .i64 q1, .int .i64 q2] 51 ∧ Below wa.heap.size wa w')
  · refine wp_region_held_drew (S := fun w' => w'.cell? ⟨w2.heap.size, 0, none⟩ = some (.slice (some ⟨b3, o3, none⟩) B.bn B.bc) ∧ w'.cell? ⟨w2.heap.size, 1, none⟩ = some (.slice (some ⟨b4, o4, none⟩) B.wn B.wc) ∧ w'.cell? ⟨b3, o3 + k, none⟩ = some (.int .i64 q1) ∧ w'.cell? ⟨b4, o4 + k, none⟩ = some (.int .i64 q2)) (by kernel_rfl) ⟨y0, y1, e3, e4⟩ (fun hS => ?_)
    refine takeN 0 (v := ?_) rfl (by kernel_rfl) (by rfl) (fun w hSw => ?_) (by assumption) ?_
    rotate_left
    focus ((try dsimp only at hSw); (try go_split_ands); go_simp; try with_reducible rfl)
    (try simp only [PS])
    refine takeN 1 (v := ?_) rfl (by kernel_rfl) (by rfl) (fun w hSw => ?_) (by assumption) ?_
    rotate_left
    focus ((try dsimp only at hSw); (try go_split_ands); go_simp; try with_reducible rfl)
    (try simp only [PS])
    refine takeN 2 (v := ?_) rfl (by kernel_rfl) (by rfl) (fun w hSw => ?_) (by assumption) ?_
    rotate_left
    focus ((try dsimp only at hSw); (try go_split_ands); go_simp; try with_reducible rfl)
    (try simp only [PS])
    refine takeN 3 (v := ?_) rfl (by kernel_rfl) (by rfl) (fun w hSw => ?_) (by assumption) ?_
    rotate_left
    focus ((try dsimp only at hSw); (try go_split_ands); go_simp; try with_reducible rfl)
    (try simp only [PS])
    refine takeN 4 (v := ?_) rfl (by kernel_rfl) (by rfl) (fun w hSw => ?_) (by assumption) ?_
    rotate_left
    focus ((try dsimp only at hSw); (try go_split_ands); go_simp; try with_reducible rfl)
    (try simp only [PS])
    refine takeN 5 (v := ?_) rfl (by kernel_rfl) (by rfl) (fun w hSw => ?_) (by assumption) ?_
    rotate_left
    focus ((try dsimp only at hSw); (try go_split_ands); go_simp; try with_reducible rfl)
    (try simp only [PS])
    refine takeN 6 (v := ?_) rfl (by kernel_rfl) (by rfl) (fun w hSw => ?_) (by assumption) ?_
    rotate_left
    focus ((try dsimp only at hSw); (try go_split_ands); go_simp; try with_reducible rfl)
    (try simp only [PS])
    refine takeN 7 (v := ?_) rfl (by kernel_rfl) (by rfl) (fun w hSw => ?_) (by assumption) ?_
    rotate_left
    focus ((try dsimp only at hSw); (try go_split_ands); go_simp; try with_reducible rfl)
    (try simp only [PS])
    refine takeN 8 (v := ?_) rfl (by kernel_rfl) (by rfl) (fun w hSw => ?_) (by assumption) ?_
    rotate_left
    focus ((try dsimp only at hSw); (try go_split_ands); go_simp; try with_reducible rfl)
    (try simp only [PS])
    refine takeN 9 (v := ?_) rfl (by kernel_rfl) (by rfl) (fun w hSw => ?_) (by assumption) ?_
    rotate_left
    focus ((try dsimp only at hSw); (try go_split_ands); go_simp; try with_reducible rfl)
    (try simp only [PS])
    refine takeN 10 (v := ?_) rfl (by kernel_rfl) (by rfl) (fun w hSw => ?_) (by assumption) ?_
    rotate_left
    focus ((try dsimp only at hSw); (try go_split_ands); go_simp; try with_reducible rfl)
    (try simp only [PS])
    obtain ⟨a1, a2, a3, a4⟩ := hS
    refine nextH (i := 11) rfl (by kernel_rfl) (fun K hK => ?_)
    go_simp
    refine hK.out _ _ (⟨cell_alloc a1 _, cell_alloc a2 _, cell_alloc a3 _, cell_alloc a4 _⟩) (fun hS => ?_)
    clear hK K
    (try simp only [PS])
    refine nextH (i := 12) rfl (by kernel_rfl) (fun K hK => ?_)
    go_simp
    refine hK.out _ _ (⟨cell_alloc a1 _, cell_alloc a2 _, cell_alloc a3 _, cell_alloc a4 _⟩) (fun hS => ?_)
    clear hK K
    (try simp only [PS])
    refine wpAnyH_done (by kernel_rfl) ?_ _
    exact ⟨rfl, rfl, Box.new wa.drew _ _, (Below.refl _ _).drew.alloc (by exact Nat.le_refl _) _⟩
  rintro wb ⟨hXb, hBb⟩
  have hXa := hXa.below hBb
  have HBB2 := Lib.hid (HBA.out.on hBb)
  have HOB := Lib.hid (HOA.out.below hBb)
  have HXa := Lib.hid hXa
  have HXb := Lib.hid hXb
  obtain ⟨z0, z1⟩ := hXa.g2
  obtain ⟨z2, z3⟩ := hXb.g2
  have hsb := HBB2.out.size
  have hg := guard_rng
  have hEq := fun w => eqIn_rng p1 p2 q1 q2 w
  clear y0 y1 e3 e4 hBb hXa hXb
  by_cases hpq : p1 = q1 ∧ p2 = q2
  · rw [decide_eq_true hpq] at hEq
    have HS : Hid (cgTo A.r B.r wy' (k + 1) = cgTo A.r B.r wy' k) := Lib.hid (by rw [HST.out, HCG.out.1, decide_eq_true hpq]; simp)
    clear hpq
    go_wp2_with fail
    go_roundw
    case rel => exact ⟨k + 1, by go_num, by omega, by rw [HS.out]; exact HOB.out, HBB2.out⟩
    case measure => simp [intOf]; omega
  · rw [decide_eq_false hpq] at hEq
    have HS : Hid (cgTo A.r B.r wy' (k + 1) = cgTo A.r B.r wy' k ++ [⟨k, p1, p2, q1, q2, wy'⟩]) := Lib.hid (by rw [HST.out, HCG.out.1, HCG.out.2, decide_eq_false hpq]; simp)
    clear hpq
    obtain ⟨N, hN⟩ : ∃ N, (cgTo A.r B.r wy' k).length = N := ⟨_, rfl⟩
    have hN8 : N ≤ 8 := by omega
    obtain ⟨va, vc, rfl, _, _⟩ := own_slice HOB.out
    rw [hN] at HOB ⊢
    have hown := HOB.out
    unfold OwnSL at hown
    rw [hN] at hown
    have HN := Lib.hid hN
    have HOW := Lib.hid hown
    have HLU := Lib.hid (World.ownsRow.lt hown)
    obtain ⟨i22, hi22, hz220, hz221, hz222⟩ := info_parts info_cg
    have HRS := Lib.hid (fun w (h : Below W.heap.size W w) => rreason_any fa fn fc fs fr to' w (hF.below h))
    clear hN hown
    go_wp2_with fail
    apply region_ex2 (α := Value) (β := Nat) (R := fun v _ w' => OwnSL encCg 6 w' wy.heap.size 55 v (cgTo A.r B.r wy' (k + 1)) ∧ Below wy.heap.size wy w')
    · refine wp_region_held_drew (S := fun w' => w'.cell? ⟨wr.heap.size, 0, none⟩ = some (.int .i64 p1) ∧ w'.cell? ⟨wr.heap.size, 1, none⟩ = some (.int .i64 p2) ∧ w'.cell? ⟨wa.heap.size, 0, none⟩ = some (.int .i64 q1) ∧ w'.cell? ⟨wa.heap.size, 1, none⟩ = some (.int .i64 q2)) (by kernel_rfl) ⟨z0, z1, z2, z3⟩ (fun hS => ?_)
      have hbd : Below wb.heap.size wb wb.drew := (Below.refl _ _).drew
      obtain ⟨wc, hwc⟩ : ∃ wc, wb.drew = wc := ⟨_, rfl⟩
      rw [hwc] at hS hbd ⊢
      clear hwc
      refine takeN 0 (v := ?_) rfl (by kernel_rfl) (by rfl) (fun w hSw => ?_) (by assumption) ?_
      rotate_left
      focus ((try dsimp only at hSw); (try go_split_ands); go_simp; try with_reducible rfl)
      (try simp only [PS])
      refine takeN 1 (v := ?_) rfl (by kernel_rfl) (by rfl) (fun w hSw => ?_) (by assumption) ?_
      rotate_left
      focus ((try dsimp only at hSw); (try go_split_ands); go_simp; try with_reducible rfl)
      (try simp only [PS])
      refine takeN 2 (v := ?_) rfl (by kernel_rfl) (by rfl) (fun w hSw => ?_) (by assumption) ?_
      rotate_left
      focus ((try dsimp only at hSw); (try go_split_ands); go_simp; try with_reducible rfl)
      (try simp only [PS])
      refine takeN 3 (v := ?_) rfl (by kernel_rfl) (by rfl) (fun w hSw => ?_) (by assumption) ?_
      rotate_left
      focus ((try dsimp only at hSw); (try go_split_ands); go_simp; try with_reducible rfl)
      (try simp only [PS])
      refine takeN 4 (v := ?_) rfl (by kernel_rfl) (by rfl) (fun w hSw => ?_) (by assumption) ?_
      rotate_left
      focus ((try dsimp only at hSw); (try go_split_ands); go_simp; try with_reducible rfl)
      (try simp only [PS])
      refine takeN 5 (v := ?_) rfl (by kernel_rfl) (by rfl) (fun w hSw => ?_) (by assumption) ?_
      rotate_left
      focus ((try dsimp only at hSw); (try go_split_ands); go_simp; try with_reducible rfl)
      (try simp only [PS])
      refine takeN 6 (v := ?_) rfl (by kernel_rfl) (by rfl) (fun w hSw => ?_) (by assumption) ?_
      rotate_left
      focus ((try dsimp only at hSw); (try go_split_ands); go_simp; try with_reducible rfl)
      (try simp only [PS])
      refine nextH (i := 7) rfl (by kernel_rfl) (fun K hK => ?_)
      go_simp
      go_at_call 38
      refine (HRS.out wc (HZ0.out.on (HBB2.out.on hbd))).mono ?_
      rintro e w' ⟨rfl, rfl⟩
      rw [HWY.out]
      refine hK.out _ _ (hS) (fun hS => ?_)
      clear hK K
      (try simp only [PS])
      refine takeN 8 (v := ?_) rfl (by kernel_rfl) (by rfl) (fun w hSw => ?_) (by assumption) ?_
      rotate_left
      focus ((try dsimp only at hSw); (try go_split_ands); go_simp; try with_reducible rfl)
      (try simp only [PS])
      obtain ⟨a1, a2, a3, a4⟩ := hS
      refine nextH (i := 9) rfl (by kernel_rfl) (fun K hK => ?_)
      go_simp
      refine hK.out _ _ (⟨cell_alloc a1 _, cell_alloc a2 _, cell_alloc a3 _, cell_alloc a4 _⟩) (fun hS => ?_)
      clear hK K
      (try simp only [PS])
      have hO6 := (ownsRow_below' HOW.out hbd)
      have hO7 := ownsRow_below' hO6 (al0 w' #[.int .i64 (k : Int), .int .i64 p1, .int .i64 p2, .int .i64 q1, .int .i64 q2, .int .i64 (wy' : Int)] 55)
      have bx1 := (HXa.out.below hbd).alloc (.cells #[.int .i64 (k : Int), .int .i64 p1, .int .i64 p2, .int .i64 q1, .int .i64 q2, .int .i64 (wy' : Int)] 55)
      have bx2 := (HXb.out.below hbd).alloc (.cells #[.int .i64 (k : Int), .int .i64 p1, .int .i64 p2, .int .i64 q1, .int .i64 q2, .int .i64 (wy' : Int)] 55)
      have hsz : wy.heap.size ≤ w'.heap.size := (HBB2.out.on hbd).size
      refine nextH (i := 10) rfl (by kernel_rfl) (fun K hK => ?_)
      refine step_append_any rfl _ _ 41 rfl wy.heap.size 55 i22 _ 6 48 Tryz.underlying41 hi22 hz220 hz221 hz222 rfl (by decide) (.slice va N vc) N _ hO7 rfl (some ⟨w'.heap.size, 0, none⟩) 1 1 [.int .i64 (k : Int), .int .i64 p1, .int .i64 p2, .int .i64 q1, .int .i64 q2, .int .i64 (wy' : Int)] rfl (fun h => by cases h) rfl (fun ad e => by injection e with e; rw [← e]; exact new6 _ _ _ _ _ _ _ _) (by simp [Value.oneCell']) (by unfold maxLen; omega) (by omega) (by simp; omega) ?_
      intro v' w8 hown' hgrow hfr
      have c1 := (bx1.grown hgrow (own_box_ne2 hO7 bx1 (by decide))).g2
      have c2 := (bx2.grown hgrow (own_box_ne2 hO7 bx2 (by decide))).g2
      refine hK.out _ _ (⟨c1.1, c1.2, c2.1, c2.2⟩) (fun hS => ?_)
      clear hK K
      (try simp only [PS])
      refine takeN 11 (v := ?_) rfl (by kernel_rfl) (by rfl) (fun w hSw => ?_) (by assumption) ?_
      rotate_left
      focus ((try dsimp only at hSw); (try go_split_ands); go_simp; try with_reducible rfl)
      (try simp only [PS])
      obtain ⟨bz, hbz⟩ : ∃ bz, w'.heap.size = bz := ⟨_, rfl⟩
      rw [hbz]
      refine wpAnyH_done (by kernel_rfl) ?_ _
      refine ⟨rfl, v', bz, rfl, ?_, ((HBB2.out.on hbd).on (al0 _ _ _)).grown hgrow (by simp; omega) (fun q e => (HLU.out q e).1)⟩
      rw [HS.out]
      exact OwnSL.snoc (by rw [HN.out]; exact hown')
    rintro v' bz w8 ⟨hO8, hB8⟩
    have HO8 := Lib.hid hO8
    have HB8 := Lib.hid hB8
    clear z0 z1 z2 z3 hO8 hB8 HRS
    go_wp2_with fail
    go_roundw
    case rel => exact ⟨k + 1, by go_num, by omega, HO8.out, HB8.out⟩
    case measure => simp [intOf]; omega
end Go.Proofs.YtehoidohallfcaaGreatDoor
