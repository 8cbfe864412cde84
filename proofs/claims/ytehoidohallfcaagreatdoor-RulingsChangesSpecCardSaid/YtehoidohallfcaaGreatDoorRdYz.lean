/- push: an input. -/
import Derived.Test.YtehoidohallfcaaGreatDoorRdYx
namespace Go.Proofs.YtehoidohallfcaaGreatDoor
open Go.RowKit
set_option maxRecDepth 20000 in
set_option maxHeartbeats 40000000 in
theorem rpush2g (a : Option Addr) (n c : Nat) (st : List Bool) (T : Nat) (nn : Int) (W : World) (hP : Prts W a n c st T) (hn : n ≤ 100) (_hT : T ≤ 1000) (hnn : -9223372036854775808 ≤ nn ∧ nn ≤ 9223372036854775807) (c1 : 0 ≤ nn) (c2 : nn < 5) :
 Calls Tryz.prog 164 #[.slice a n c, .agg #[.int .i64 2, .int .i64 nn]] W fun e w' => ∃ a' n' c', e = .returned (.tuple #[.slice a' n' c', .bool (decide (0 ≤ nn ∧ nn < 5))]) ∧ Below W.heap.size W w' ∧ (0 ≤ nn ∧ nn < 5 → Prts w' a' n' c' (st ++ [false]) (T + 6) ∧ n' ≤ n + 1) := by
 obtain ⟨ps, hps, hst, htx, hsum⟩ := hP
 obtain ⟨i9, hi9, hz90, hz91, hz92⟩ := info_parts info_pe
 have hbx := Box.new W #[.int .i64 2, .int .i64 nn] 91
 have hbb : Below W.heap.size W (W.alloc (.cells #[.int .i64 2, .int .i64 nn] 91)) := al0 _ _ _
 have hsz : (W.alloc (.cells #[.int .i64 2, .int .i64 nn] 91)).heap.size = W.heap.size + 1 := by simp
 obtain ⟨wx, hwx⟩ : ∃ wx, W.alloc (.cells #[.int .i64 2, .int .i64 nn] 91) = wx := ⟨_, rfl⟩
 rw [hwx] at hbx hbb hsz
 have d0 : wx.cell? ⟨W.heap.size, 0, none⟩ = some (.int .i64 2) := hbx.cell 0
 have d1 : wx.cell? ⟨W.heap.size, 1, none⟩ = some (.int .i64 nn) := hbx.cell 1
 have HWX := Lib.hid hwx
 have HBX := Lib.hid hbb
 have HNN := Lib.hid hnn
 have HNIL := Lib.hid hps.nilN
 have HFL : Hid ((ps.flatMap encPe).length = n * 2) := Lib.hid (by rw [flat_len encPe_len, hps.len])
 have HFC : Hid (∀ w, Below W.heap.size W w → ∀ ad, a = some ad → ∀ j u, (ps.flatMap encPe)[j]? = some u → w.cell? (ad.add j) = some u) := Lib.hid fun w hb => (hps.below hb).flatC encPe_len (by decide)
 have HPL : Hid (ps.take n = ps) := Lib.hid (List.take_of_length_le (by rw [hps.len]; exact Nat.le_refl _))
 have HPL2 := HPL
 have HPL3 : Hid ((ps.take n).map (·.cmp) ++ [false] = st ++ [false]) := Lib.hid (by rw [HPL.out, hst])
 have HPM : Hid (n ≤ ps.length) := Lib.hid (by rw [hps.len]; exact Nat.le_refl _)
 have HTX := Lib.hid htx
 have HSUM := Lib.hid hsum
 clear hwx hbb hbx hnn hps hst htx hsum
 have g1 : decide (nn < 0) = false := by simp; omega
 have g2 : decide (5 ≤ nn) = false := by simp; omega
 have HV : Hid (decide (0 ≤ nn ∧ nn < 5) = true) := Lib.hid (by simp; omega)
 obtain ⟨j, rfl⟩ : ∃ j : Nat, nn = (j : Int) := ⟨nn.toNat, by omega⟩
 have y1 : (0 : Int) ≤ (j : Int) := by omega
 have y2 : (j : Int) < 5 := by omega
 go_enter Tryz.func164, Tryz.ntmps164
 go_wp2_with fail
 rw [HWX.out]
 go_wp2_with fail
 apply region_ex (α := Option Addr) (R := fun _ w' => Below wx.heap.size wx w')
 · refine wp_region_held_drew (S := fun w' => w'.cell? ⟨W.heap.size, 1, none⟩ = some (.int .i64 (j : Int))) (by kernel_rfl) d1 (fun hS => ?_)
   have hBd : Below wx.heap.size wx wx.drew := (Below.refl _ _).drew
   refine takeN 0 (v := ?_) rfl (by kernel_rfl) (by rfl) (fun w hSw => ?_) (by assumption) ?_
   rotate_left
   focus ((try dsimp only at hSw); (try go_split_ands); go_simp; try with_reducible rfl)
   (try simp only [PS])
   refine takeN 1 (v := ?_) rfl (by kernel_rfl) (by rfl) (fun w hSw => ?_) (by assumption) ?_
   rotate_left
   focus ((try dsimp only at hSw); (try go_split_ands); go_simp; try with_reducible rfl)
   (try simp only [PS])
   refine takeN 2 (v := ?_) rfl (by kernel_rfl) (by rfl) (fun w hSw => ?_) (by assumption) ?_
   rotate_left
   focus ((try dsimp only at hSw); (try go_split_ands); go_simp; try with_reducible rfl)
   (try simp only [PS])
   refine takeN 3 (v := ?_) rfl (by kernel_rfl) (by rfl) (fun w hSw => ?_) (by assumption) ?_
   rotate_left
   focus ((try dsimp only at hSw); (try go_split_ands); go_simp; try with_reducible rfl)
   (try simp only [PS])
   refine takeN 4 (v := ?_) rfl (by kernel_rfl) (by rfl) (fun w hSw => ?_) (by assumption) ?_
   rotate_left
   focus ((try dsimp only at hSw); (try go_split_ands); go_simp; try with_reducible rfl)
   (try simp only [PS])
   refine takeN 5 (v := ?_) rfl (by kernel_rfl) (by rfl) (fun w hSw => ?_) (by assumption) ?_
   rotate_left
   focus ((try dsimp only at hSw); (try go_split_ands); go_simp; try with_reducible rfl)
   (try simp only [PS])
   refine wpAnyH_ready (rs := [6]) (by kernel_rfl) (by simp) (AllReadyH.cons rfl (fun K hK => ?_) AllReadyH.nil)
   go_simp
   go_at_call 258
   refine (rinputs_any _).mono ?_
   rintro e w2 ⟨⟨ia, rfl, -⟩, hb2⟩
   have hB2 := hBd.on hb2
   refine hK.out _ _ ((hB2.cell (World.block_lt_of_cell? wx _ d1)).trans d1) (fun hS => ?_)
   clear hK K
   (try simp only [PS])
   refine takeN 7 (v := ?_) rfl (by kernel_rfl) (by rfl) (fun w hSw => ?_) (by assumption) ?_
   rotate_left
   focus ((try dsimp only at hSw); (try go_split_ands); go_simp; try with_reducible rfl)
   (try simp only [PS])
   refine takeN 8 (v := ?_) rfl (by kernel_rfl) (by rfl) (fun w hSw => ?_) (by assumption) ?_
   rotate_left
   focus ((try dsimp only at hSw); (try go_split_ands); go_simp; try with_reducible rfl)
   (try simp only [PS])
   refine takeN 9 (v := ?_) rfl (by kernel_rfl) (by rfl) (fun w hSw => ?_) (by assumption) ?_
   rotate_left
   focus ((try dsimp only at hSw); (try go_split_ands); go_simp; try with_reducible rfl)
   (try simp only [PS])
   refine wpAnyH_done (by kernel_rfl) ?_ _
   exact ⟨rfl, ia, rfl, hB2⟩
 rintro ia w1 hB1
 have HBW := Lib.hid (HBX.out.trans (hB1.mono HBX.out.size))
 replace d1 := (hB1.cell (World.block_lt_of_cell? wx _ d1)).trans d1
 have hsz1 : W.heap.size + 1 ≤ w1.heap.size := by have := hB1.size; omega
 clear hB1 d0
 go_wp2_with fail
 apply region_ex2 (α := Nat → Value) (β := Value) (R := fun u v w' => Below W.heap.size W w' ∧ ∃ (b : Nat) (s : ByteArray), Box w' b #[.string s] 9 ∧ w'.ownsRow (W.heap.size + 1) 264 2 v (n + 1) (ps.flatMap encPe ++ [.bool false, .slice (some ⟨b, 0, none⟩) 1 1]))
 · refine wp_region_held_drew (S := fun w' => w'.cell? ⟨W.heap.size, 1, none⟩ = some (.int .i64 (j : Int))) (by kernel_rfl) d1 (fun hS => ?_)
   have hBd : Below w1.heap.size w1 w1.drew := (Below.refl _ _).drew
   refine takeN 1 (v := ?_) rfl (by kernel_rfl) (by rfl) (fun w hSw => ?_) (by assumption) ?_
   rotate_left
   focus ((try dsimp only at hSw); (try go_split_ands); go_simp; try with_reducible rfl)
   (try simp only [PS])
   refine takeN 4 (v := ?_) rfl (by kernel_rfl) (by rfl) (fun w hSw => ?_) (by assumption) ?_
   rotate_left
   focus ((try dsimp only at hSw); (try go_split_ands); go_simp; try with_reducible rfl)
   (try simp only [PS])
   refine takeN 5 (v := ?_) rfl (by kernel_rfl) (by rfl) (fun w hSw => ?_) (by assumption) ?_
   rotate_left
   focus ((try dsimp only at hSw); (try go_split_ands); go_simp; try with_reducible rfl)
   (try simp only [PS])
   refine wpAnyH_late [(0, 47), (2, 49), (3, 50), (6, 53), (7, 54), (8, 55), (9, 56), (10, 57)] (Fl (W.heap.size + 1) [(0, .e), (2, .r n (ps.flatMap encPe)), (3, .i), (6, .q), (7, .s), (8, .t 1), (9, .b false), (10, .p false)]) (f := 3) (fun _ => undef) (by (simp only [putL, Act.put, l_t, l_s, l_z, s_t, s_z, s_s])) (by kernel_rfl) (fun w w' h hb => (hb.cell (World.block_lt_of_cell? w _ h)).trans h) Fl.below hS ?_ ?_
   · (intro i hi; simp only [List.map_cons, List.map_nil, List.mem_cons, List.not_mem_nil, or_false] at hi)
     rcases hi with rfl | rfl | rfl | rfl | rfl | rfl | rfl | rfl
     · refine LateOp.of rfl rfl (by simp) (by decide) (fun u w A hA hS hB hd K hK => ?_)
       have hBx := hBd.trans (hB.mono hBd.size)
       refine step_value (v := .slice (some ⟨w.heap.size, 0, none⟩) 0 0) (w' := w.alloc (.cells #[] 264)) rfl (by rw [hA]; clear hA hd hK; (simp only [putL, Act.put, l_t, l_s, l_z, s_t, s_z, s_s]); go_simp) ?_
       exact hK.out _ _ ⟨_, rfl, OwnSL.made0 encPe 2 w _ (W.heap.size + 1) (by have := hBx.size; omega)⟩ (al0 _ _ _)
     · refine LateOp.of rfl rfl (by simp) (by decide) (fun u w A hA hS hB hd K hK => ?_)
       have hBx := hBd.trans (hB.mono hBd.size)
       obtain ⟨a0, e0, h0⟩ := hd 0 (by simp) (by kernel_rfl)
       rw [e0] at h0
       refine step_append_empty rfl _ _ 260 rfl (W.heap.size + 1) 264 i9 _ 2 32 Tryz.underlying260 hi9 hz90 hz91 hz92 rfl a0 h0 (by rw [hA]; (simp only [putL, Act.put, l_t, l_s, l_z, s_t, s_z, s_s]); exact e0) a n c (ps.flatMap encPe) (by rw [hA]; (simp only [putL, Act.put, l_t, l_s, l_z, s_t, s_z, s_s]); exact rfl) HNIL.out HFL.out (HFC.out w (HBW.out.trans (hBx.mono HBW.out.size))) (by unfold maxLen; omega) (by omega) (by have := hBx.size; omega) (fun v' w' h1 h2 => ?_)
       exact hK.out _ _ h1 h2
     · refine LateOp.of rfl rfl (by simp) (by decide) (fun u w A hA hS hB hd K hK => ?_)
       refine step_enter (f := 258) (args := #[]) rfl (by rw [hA]; clear hA hd hK; (simp only [putL, Act.put, l_t, l_s, l_z, s_t, s_z, s_s]); go_simp) ((rinputs_any w).mono ?_)
       rintro e w' ⟨⟨ib, rfl, hi⟩, hb⟩
       exact ⟨_, rfl, hK.out _ _ ⟨ib, rfl, hi⟩ hb⟩
     · refine LateOp.of rfl rfl (by simp) (by decide) (fun u w A hA hS hB hd K hK => ?_)
       obtain ⟨ib, e3, hi⟩ := hd 3 (by simp) (by kernel_rfl)
       obtain ⟨b, o, rfl, _⟩ := hi.at' (by omega)
       obtain ⟨s, hs⟩ := hi.get (i := j) (by omega)
       have hc := hi.cell b o rfl j s hs 0 _ rfl
       rw [show o + j * 1 + 0 = o + j by omega] at hc
       refine step_value (v := .pointer (some ⟨b, o + j, none⟩)) (w' := w) rfl (by rw [hA]; clear hA hd hK; (simp only [putL, Act.put, l_t, l_s, l_z, s_t, s_z, s_s]); simp only [e3]; go_simp) ?_
       exact hK.out _ _ ⟨_, s, rfl, hc⟩ (Below.refl _ _)
     · refine LateOp.of rfl rfl (by simp) (by decide) (fun u w A hA hS hB hd K hK => ?_)
       obtain ⟨p, s, e6, hc⟩ := hd 6 (by simp) (by kernel_rfl)
       refine step_value (v := .string s) (w' := w) rfl (by rw [hA]; clear hA hd hK; (simp only [putL, Act.put, l_t, l_s, l_z, s_t, s_z, s_s]); simp only [e6]; go_simp) ?_
       exact hK.out _ _ ⟨s, rfl⟩ (Below.refl _ _)
     · refine LateOp.of rfl rfl (by simp) (by decide) (fun u w A hA hS hB hd K hK => ?_)
       obtain ⟨s, e5⟩ := hd 7 (by simp) (by kernel_rfl)
       refine step_value (v := .slice (some ⟨w.heap.size, 0, none⟩) 1 1) (w' := w.alloc (.cells #[.string s] 9)) rfl (by rw [hA]; clear hA hd hK; (simp only [putL, Act.put, l_t, l_s, l_z, s_t, s_z, s_s]); simp only [e5]; go_simp) ?_
       exact hK.out _ _ ⟨_, [s], rfl, Box.new _ _ _, rfl⟩ (al0 _ _ _)
     · refine LateOp.of rfl rfl (by simp) (by decide) (fun u w A hA hS hB hd K hK => ?_)
       obtain ⟨b, S, e6, hb, hl⟩ := hd 8 (by simp) (by kernel_rfl)
       obtain ⟨s, rfl⟩ : ∃ s, S = [s] := by
        match S, hl with
        | [s], _ => exact ⟨s, rfl⟩
       refine step_value (v := .agg #[.bool false, .slice (some ⟨b, 0, none⟩) 1 1]) (w' := w) rfl (by rw [hA]; clear hA hd hK; (simp only [putL, Act.put, l_t, l_s, l_z, s_t, s_z, s_s]); simp only [e6]; go_simp) ?_
       exact hK.out _ _ ⟨b, s, rfl, hb⟩ (Below.refl _ _)
     · refine LateOp.of rfl rfl (by simp) (by decide) (fun u w A hA hS hB hd K hK => ?_)
       obtain ⟨b, s, e7, hb⟩ := hd 9 (by simp) (by kernel_rfl)
       refine step_value (v := .slice (some ⟨w.heap.size, 0, none⟩) 1 1) (w' := w.alloc (.cells #[.bool false, .slice (some ⟨b, 0, none⟩) 1 1] 264)) rfl (by rw [hA]; clear hA hd hK; (simp only [putL, Act.put, l_t, l_s, l_z, s_t, s_z, s_s]); simp only [e7]; go_simp) ?_
       exact hK.out _ _ ⟨_, b, s, rfl, Box.new _ _ _, hb.alloc _⟩ (al0 _ _ _)
   · intro u w hS hB hF
     (simp only [putL, Act.put, l_t, l_s, l_z, s_t, s_z, s_s])
     have hBx := hBd.trans (hB.mono hBd.size)
     have hw2 : w.ownsRow (W.heap.size + 1) 264 2 (u 2) n (ps.flatMap encPe) := hF 2 (by simp)
     obtain ⟨g, b, s, e8, hg, hb⟩ : Fk (W.heap.size + 1) (.p false) (u 10) w := hF 10 (by simp)
     have hnb := own_box_ne2 hw2 hb (by decide)
     have hnl := hw2.lt
     refine wpAnyH_ready (rs := [11]) (by kernel_rfl) (by simp) (AllReadyH.cons rfl (fun K hK => ?_) AllReadyH.nil)
     refine step_append_any rfl _ _ 260 rfl (W.heap.size + 1) 264 i9 _ 2 32 Tryz.underlying260 hi9 hz90 hz91 hz92 rfl (by decide) (u 2) n _ hw2 rfl (some ⟨g, 0, none⟩) 1 1 [.bool false, .slice (some ⟨b, 0, none⟩) 1 1] e8 (fun h => by cases h) rfl (fun ad e j x hx => by injection e with e; subst e; rw [Addr.add_mid, Nat.zero_add, hg.cell j]; simpa using hx) (by simp [Value.oneCell']) (by unfold maxLen; omega) (by omega) (by have := hBx.size; omega) ?_
     intro v' w8 hown' hgrow hfr
     have hS8 : w8.cell? ⟨W.heap.size, 1, none⟩ = some (.int .i64 (j : Int)) := (World.cell?_of_block (w := w) (hgrow.block W.heap.size (World.block_lt_of_cell? w _ hS) (fun e => by have := (hnl _ e.symm).1; omega))).trans hS
     refine hK.out _ _ hS8 (fun hS => ?_)
     clear hK K
     (try simp only [PS])
     refine takeN 12 (v := ?_) rfl (by kernel_rfl) (by rfl) (fun w hSw => ?_) (by assumption) ?_
     rotate_left
     focus ((try dsimp only at hSw); (try go_split_ands); go_simp; try with_reducible rfl)
     (try simp only [PS])
     refine takeN 13 (v := ?_) rfl (by kernel_rfl) (by rfl) (fun w hSw => ?_) (by assumption) ?_
     rotate_left
     focus ((try dsimp only at hSw); (try go_split_ands); go_simp; try with_reducible rfl)
     (try simp only [PS])
     refine wpAnyH_done (by kernel_rfl) ?_ _
     refine ⟨rfl, u, v', rfl, ?_, b, s, hb.grown hgrow hnb, hown'⟩
     exact (HBW.out.trans (hBx.mono HBW.out.size)).grown hgrow (HBW.out.trans (hBx.mono HBW.out.size)).size (fun q e => by have := (hnl q e).1; omega)
 rintro u v w2 ⟨hB1, b, s, hb, hown⟩
 have hpt := Prts.put (T := T + 6) (m := n) hB1 (by rw [HPL.out]; exact hown) HPM.out HTX.out (one_text hb) (by rw [HPL2.out]; have := HSUM.out; omega)
 rw [HPL3.out] at hpt
 obtain ⟨a', n', c', rfl, hP, hn'⟩ := hpt
 have HP := Lib.hid hP
 clear hP hown hb
 go_wp2_with fail
 refine bodyPost_ret (v := .tuple #[.slice a' n' c', .bool true]) (by simp [results, Tryz.results164, go_sem]) rfl ⟨a', n', c', by rw [HV.out], hB1, fun _ => ⟨HP.out, by omega⟩⟩
open Go.RowKit
set_option maxRecDepth 20000 in
set_option maxHeartbeats 40000000 in
theorem rpush2b (a : Option Addr) (n c : Nat) (st : List Bool) (T : Nat) (nn : Int) (W : World) (hP : Prts W a n c st T) (_hn : n ≤ 100) (_hT : T ≤ 1000) (hnn : -9223372036854775808 ≤ nn ∧ nn ≤ 9223372036854775807) (hno : ¬ (0 ≤ nn ∧ nn < 5)) :
 Calls Tryz.prog 164 #[.slice a n c, .agg #[.int .i64 2, .int .i64 nn]] W fun e w' => ∃ a' n' c', e = .returned (.tuple #[.slice a' n' c', .bool (decide (0 ≤ nn ∧ nn < 5))]) ∧ Below W.heap.size W w' ∧ (0 ≤ nn ∧ nn < 5 → Prts w' a' n' c' (st ++ [false]) (T + 6) ∧ n' ≤ n + 1) := by
 obtain ⟨ps, hps, hst, htx, hsum⟩ := hP
 obtain ⟨i9, hi9, hz90, hz91, hz92⟩ := info_parts info_pe
 have hbx := Box.new W #[.int .i64 2, .int .i64 nn] 91
 have hbb : Below W.heap.size W (W.alloc (.cells #[.int .i64 2, .int .i64 nn] 91)) := al0 _ _ _
 have hsz : (W.alloc (.cells #[.int .i64 2, .int .i64 nn] 91)).heap.size = W.heap.size + 1 := by simp
 obtain ⟨wx, hwx⟩ : ∃ wx, W.alloc (.cells #[.int .i64 2, .int .i64 nn] 91) = wx := ⟨_, rfl⟩
 rw [hwx] at hbx hbb hsz
 have d0 : wx.cell? ⟨W.heap.size, 0, none⟩ = some (.int .i64 2) := hbx.cell 0
 have d1 : wx.cell? ⟨W.heap.size, 1, none⟩ = some (.int .i64 nn) := hbx.cell 1
 have HWX := Lib.hid hwx
 have HBX := Lib.hid hbb
 have HNN := Lib.hid hnn
 have HNIL := Lib.hid hps.nilN
 have HFL : Hid ((ps.flatMap encPe).length = n * 2) := Lib.hid (by rw [flat_len encPe_len, hps.len])
 have HFC : Hid (∀ w, Below W.heap.size W w → ∀ ad, a = some ad → ∀ j u, (ps.flatMap encPe)[j]? = some u → w.cell? (ad.add j) = some u) := Lib.hid fun w hb => (hps.below hb).flatC encPe_len (by decide)
 have HPL : Hid (ps.take n = ps) := Lib.hid (List.take_of_length_le (by rw [hps.len]; exact Nat.le_refl _))
 have HPL2 := HPL
 have HPL3 : Hid ((ps.take n).map (·.cmp) ++ [false] = st ++ [false]) := Lib.hid (by rw [HPL.out, hst])
 have HPM : Hid (n ≤ ps.length) := Lib.hid (by rw [hps.len]; exact Nat.le_refl _)
 have HTX := Lib.hid htx
 have HSUM := Lib.hid hsum
 clear hwx hbb hbx hnn hps hst htx hsum
 by_cases c1 : 0 ≤ nn
 rotate_left
 · have g1 : decide (nn < 0) = true := by simp; omega
   have HV : Hid (decide (0 ≤ nn ∧ nn < 5) = false) := Lib.hid (by simp [c1])
   have HNO : Hid (¬ (0 ≤ nn ∧ nn < 5)) := Lib.hid (fun h => c1 h.1)
   go_enter Tryz.func164, Tryz.ntmps164
   go_wp2_with fail
   rw [HWX.out]
   go_wp2_with fail
   apply region_fix2 (R := fun w' => Below wx.heap.size wx w')
   · refine wp_region_held_drew (S := fun w' => w'.cell? ⟨W.heap.size, 1, none⟩ = some (.int .i64 nn)) (by kernel_rfl) d1 (fun hS => ?_)
     refine wpAnyH_take (i := 0) (v := ?_) rfl (by kernel_rfl) (by kernel_rfl) (by kernel_rfl) NormQ.hq (Or.inl ⟨by rfl, ?_⟩) (by assumption) ?_
     rotate_left
     focus
      intro w hSw
      (try dsimp only at hSw)
      (try go_split_ands)
      go_simp
      try with_reducible rfl
     (try simp only [Act.put, l_t, l_z, s_t, s_z, s_s])
     refine wpAnyH_take (i := 1) (v := ?_) rfl (by kernel_rfl) (by kernel_rfl) (by kernel_rfl) NormQ.hq (Or.inl ⟨by rfl, ?_⟩) (by assumption) ?_
     rotate_left
     focus
      intro w hSw
      (try dsimp only at hSw)
      (try go_split_ands)
      go_simp
      try with_reducible rfl
     (try simp only [Act.put, l_t, l_s, l_z, s_t, s_z, s_s])
     refine wpAnyH_take (i := 2) (v := ?_) rfl (by kernel_rfl) (by kernel_rfl) (by kernel_rfl) NormQ.hq (Or.inl ⟨by rfl, ?_⟩) (by assumption) ?_
     rotate_left
     focus
      intro w hSw
      (try dsimp only at hSw)
      (try go_split_ands)
      go_simp
      try with_reducible rfl
     (try simp only [Act.put, l_t, l_s, l_z, s_t, s_z, s_s])
     refine wpAnyH_take (i := 3) (v := ?_) rfl (by kernel_rfl) (by kernel_rfl) (by kernel_rfl) NormQ.hq (Or.inl ⟨by rfl, ?_⟩) (by assumption) ?_
     rotate_left
     focus
      intro w hSw
      (try dsimp only at hSw)
      (try go_split_ands)
      go_simp
      try with_reducible rfl
     (try simp only [Act.put, l_t, l_s, l_z, s_t, s_z, s_s])
     refine wpAnyH_take (i := 4) (v := undef) rfl (by kernel_rfl) (by kernel_rfl) (by kernel_rfl) NormQ.hq (Or.inr ⟨by rfl, rfl⟩) (by assumption) ?_
     (try simp only [Act.put, l_t, l_s, l_z, s_t, s_z, s_s])
     refine wpAnyH_take (i := 5) (v := undef) rfl (by kernel_rfl) (by kernel_rfl) (by kernel_rfl) NormQ.hq (Or.inr ⟨by rfl, rfl⟩) (by assumption) ?_
     (try simp only [Act.put, l_t, l_s, l_z, s_t, s_z, s_s])
     refine wpAnyH_take (i := 6) (v := undef) rfl (by kernel_rfl) (by kernel_rfl) (by kernel_rfl) NormQ.hq (Or.inr ⟨by rfl, rfl⟩) (by assumption) ?_
     (try simp only [Act.put, l_t, l_s, l_z, s_t, s_z, s_s])
     refine wpAnyH_take (i := 7) (v := undef) rfl (by kernel_rfl) (by kernel_rfl) (by kernel_rfl) NormQ.hq (Or.inr ⟨by rfl, rfl⟩) (by assumption) ?_
     (try simp only [Act.put, l_t, l_s, l_z, s_t, s_z, s_s])
     refine wpAnyH_take (i := 8) (v := undef) rfl (by kernel_rfl) (by kernel_rfl) (by kernel_rfl) NormQ.hq (Or.inr ⟨by rfl, rfl⟩) (by assumption) ?_
     (try simp only [Act.put, l_t, l_s, l_z, s_t, s_z, s_s])
     refine wpAnyH_take (i := 9) (v := ?_) rfl (by kernel_rfl) (by kernel_rfl) (by kernel_rfl) NormQ.hq (Or.inl ⟨by rfl, ?_⟩) (by assumption) ?_
     rotate_left
     focus
      intro w hSw
      (try dsimp only at hSw)
      (try go_split_ands)
      go_simp
      try with_reducible rfl
     (try simp only [Act.put, l_t, l_s, l_z, s_t, s_z, s_s])
     refine wpAnyH_done (by kernel_rfl) ?_ _
     exact ⟨rfl, rfl, (Below.refl _ _).drew⟩
   intro w1 hB1
   have HB1 := Lib.hid (HBX.out.trans (hB1.mono HBX.out.size))
   clear hB1
   go_wp2_with fail
   refine bodyPost_ret (v := .tuple #[.slice none 0 0, .bool false]) (by simp [results, Tryz.results164, go_sem]) rfl ⟨none, 0, 0, by rw [HV.out], HB1.out, fun h => absurd h HNO.out⟩
 have g1 : decide (nn < 0) = false := by simp; omega
 by_cases c2 : nn < 5
 rotate_left
 · have g2 : decide (5 ≤ nn) = true := by simp; omega
   have HV : Hid (decide (0 ≤ nn ∧ nn < 5) = false) := Lib.hid (by simp; omega)
   have HNO : Hid (¬ (0 ≤ nn ∧ nn < 5)) := Lib.hid (fun h => c2 h.2)
   go_enter Tryz.func164, Tryz.ntmps164
   go_wp2_with fail
   rw [HWX.out]
   go_wp2_with fail
   apply region_ex (α := Option Addr) (R := fun _ w' => Below wx.heap.size wx w')
   · refine wp_region_held_drew (S := fun w' => w'.cell? ⟨W.heap.size, 1, none⟩ = some (.int .i64 nn)) (by kernel_rfl) d1 (fun hS => ?_)
     have hBd : Below wx.heap.size wx wx.drew := (Below.refl _ _).drew
     refine wpAnyH_take (i := 0) (v := ?_) rfl (by kernel_rfl) (by kernel_rfl) (by kernel_rfl) NormQ.hq (Or.inl ⟨by rfl, ?_⟩) (by assumption) ?_
     rotate_left
     focus
      intro w hSw
      (try dsimp only at hSw)
      (try go_split_ands)
      go_simp
      try with_reducible rfl
     (try simp only [Act.put, l_t, l_z, s_t, s_z, s_s])
     refine wpAnyH_take (i := 1) (v := ?_) rfl (by kernel_rfl) (by kernel_rfl) (by kernel_rfl) NormQ.hq (Or.inl ⟨by rfl, ?_⟩) (by assumption) ?_
     rotate_left
     focus
      intro w hSw
      (try dsimp only at hSw)
      (try go_split_ands)
      go_simp
      try with_reducible rfl
     (try simp only [Act.put, l_t, l_s, l_z, s_t, s_z, s_s])
     refine wpAnyH_take (i := 2) (v := ?_) rfl (by kernel_rfl) (by kernel_rfl) (by kernel_rfl) NormQ.hq (Or.inl ⟨by rfl, ?_⟩) (by assumption) ?_
     rotate_left
     focus
      intro w hSw
      (try dsimp only at hSw)
      (try go_split_ands)
      go_simp
      try with_reducible rfl
     (try simp only [Act.put, l_t, l_s, l_z, s_t, s_z, s_s])
     refine wpAnyH_take (i := 3) (v := ?_) rfl (by kernel_rfl) (by kernel_rfl) (by kernel_rfl) NormQ.hq (Or.inl ⟨by rfl, ?_⟩) (by assumption) ?_
     rotate_left
     focus
      intro w hSw
      (try dsimp only at hSw)
      (try go_split_ands)
      go_simp
      try with_reducible rfl
     (try simp only [Act.put, l_t, l_s, l_z, s_t, s_z, s_s])
     refine wpAnyH_take (i := 4) (v := ?_) rfl (by kernel_rfl) (by kernel_rfl) (by kernel_rfl) NormQ.hq (Or.inl ⟨by rfl, ?_⟩) (by assumption) ?_
     rotate_left
     focus
      intro w hSw
      (try dsimp only at hSw)
      (try go_split_ands)
      go_simp
      try with_reducible rfl
     (try simp only [Act.put, l_t, l_s, l_z, s_t, s_z, s_s])
     refine wpAnyH_take (i := 5) (v := ?_) rfl (by kernel_rfl) (by kernel_rfl) (by kernel_rfl) NormQ.hq (Or.inl ⟨by rfl, ?_⟩) (by assumption) ?_
     rotate_left
     focus
      intro w hSw
      (try dsimp only at hSw)
      (try go_split_ands)
      go_simp
      try with_reducible rfl
     (try simp only [Act.put, l_t, l_s, l_z, s_t, s_z, s_s])
     refine wpAnyH_ready (rs := [6]) (by kernel_rfl) (by simp) (AllReadyH.cons rfl (fun K hK => ?_) AllReadyH.nil)
     go_simp
     go_at_call 258
     refine (rinputs_any _).mono ?_
     rintro e w2 ⟨⟨ia, rfl, -⟩, hb2⟩
     have hB2 := hBd.on hb2
     refine hK.out _ _ ((hB2.cell (World.block_lt_of_cell? wx _ d1)).trans d1) (fun hS => ?_)
     clear hK K
     (try simp only [Act.put, l_t, l_s, l_z, s_t, s_z, s_s])
     refine wpAnyH_take (i := 7) (v := ?_) rfl (by kernel_rfl) (by kernel_rfl) (by kernel_rfl) NormQ.hq (Or.inl ⟨by rfl, ?_⟩) (by assumption) ?_
     rotate_left
     focus
      intro w hSw
      (try dsimp only at hSw)
      (try go_split_ands)
      go_simp
      try with_reducible rfl
     (try simp only [Act.put, l_t, l_s, l_z, s_t, s_z, s_s])
     refine wpAnyH_take (i := 8) (v := ?_) rfl (by kernel_rfl) (by kernel_rfl) (by kernel_rfl) NormQ.hq (Or.inl ⟨by rfl, ?_⟩) (by assumption) ?_
     rotate_left
     focus
      intro w hSw
      (try dsimp only at hSw)
      (try go_split_ands)
      go_simp
      try with_reducible rfl
     (try simp only [Act.put, l_t, l_s, l_z, s_t, s_z, s_s])
     refine wpAnyH_take (i := 9) (v := ?_) rfl (by kernel_rfl) (by kernel_rfl) (by kernel_rfl) NormQ.hq (Or.inl ⟨by rfl, ?_⟩) (by assumption) ?_
     rotate_left
     focus
      intro w hSw
      (try dsimp only at hSw)
      (try go_split_ands)
      go_simp
      try with_reducible rfl
     (try simp only [Act.put, l_t, l_s, l_z, s_t, s_z, s_s])
     refine wpAnyH_done (by kernel_rfl) ?_ _
     exact ⟨rfl, ia, rfl, hB2⟩
   rintro ia w1 hB1
   have HB1 := Lib.hid (HBX.out.trans (hB1.mono HBX.out.size))
   clear hB1
   go_wp2_with fail
   refine bodyPost_ret (v := .tuple #[.slice none 0 0, .bool false]) (by simp [results, Tryz.results164, go_sem]) rfl ⟨none, 0, 0, by rw [HV.out], HB1.out, fun h => absurd h HNO.out⟩
 exact absurd ⟨c1, c2⟩ hno
open Go.RowKit
section
variable {P : Program} {Q : Exit → Act → World → Prop}
theorem region_ex5 {α β γ δ ε : Type} {c : Code} {a : Act} {w : World} {R : α → β → γ → δ → ε → World → Prop} {F : α → β → γ → δ → ε → Act}
 (h : c.wp P (NormQ fun _ a' w' => ∃ x y z p q, a' = F x y z p q ∧ R x y z p q w') a w) (hk : ∀ x y z p q w', R x y z p q w' → Q .normal (F x y z p q) w') : c.wp P Q a w :=
 wp_mono h fun e a' w' ⟨he, x, y, z, p, q, ha, hr⟩ => by subst he ha; exact hk _ _ _ _ _ _ hr
end
theorem all7 {us : List Value} {p : Value → Prop} {x0 x1 x2 x3 x4 x5 x6 : Value} (hu : us = [x0, x1, x2, x3, x4, x5, x6]) (h0 : p x0) (h1 : p x1) (h2 : p x2) (h3 : p x3) (h4 : p x4) (h5 : p x5) (h6 : p x6) (i : Nat) (u : Value) (h : us[i]? = some u) : p u := by
 have := List.mem_of_getElem? h
 rw [hu] at this
 simp only [List.mem_cons, List.not_mem_nil, or_false] at this
 rcases this with rfl | rfl | rfl | rfl | rfl | rfl | rfl <;> assumption
def TxV (w : World) (u : Value) : Prop := ∃ a n c S, u = .slice a n c ∧ SL encStr 1 w a n c S
set_option maxRecDepth 20000 in
set_option maxHeartbeats 8000000 in
theorem rpush10 (b o c m : Nat) (st : List Bool) (T : Nat) (W : World) (hP : Prts W (some ⟨b, o, none⟩) (m + 3) c st T) (hn : m + 3 ≤ 100) (hT : T ≤ 1000) (hb0 : st[m]? = some true) (hb1 : st[m + 1]? = some false) (hb2 : st[m + 2]? = some false) :
 Calls Tryz.prog 164 #[.slice (some ⟨b, o, none⟩) (m + 3) c, .agg #[.int .i64 10, .int .i64 0]] W fun e w' => ∃ a' n' c', e = .returned (.tuple #[.slice a' n' c', .bool true]) ∧ Below W.heap.size W w' ∧ Prts w' a' n' c' (st.take m ++ [false]) (T + 6) ∧ n' ≤ m + 4 := by
 obtain ⟨a, ha⟩ : ∃ a : Option Addr, some (⟨b, o, none⟩ : Addr) = a := ⟨_, rfl⟩
 have hP2 := hP
 rw [ha] at hP2
 clear hP2
 subst ha
 obtain ⟨ps, hps, hst, htx, hsum⟩ := hP
 obtain ⟨i9, hi9, hz90, hz91, hz92⟩ := info_parts info_pe
 have hbb : Below W.heap.size W (W.alloc (.cells #[.int .i64 10, .int .i64 0] 91)) := al0 _ _ _
 obtain ⟨p0, hp0⟩ := hps.get (i := m) (by omega)
 obtain ⟨p1, hp1⟩ := hps.get (i := m + 1) (by omega)
 obtain ⟨p2, hp2⟩ := hps.get (i := m + 2) (by omega)
 have hbl : b < W.heap.size := by
  obtain ⟨b', o', e, h⟩ := hps.at' (by omega)
  injection e with e; injection e with e1 e2; subst e1; exact h
 have q0 := hps.cell b o rfl m p0 hp0 0 _ rfl
 have q1 := hps.cell b o rfl (m + 1) p1 hp1 0 _ rfl
 have q2 := hps.cell b o rfl (m + 2) p2 hp2 0 _ rfl
 have t0 := hps.cell b o rfl m p0 hp0 1 _ rfl
 have t1 := hps.cell b o rfl (m + 1) p1 hp1 1 _ rfl
 have t2 := hps.cell b o rfl (m + 2) p2 hp2 1 _ rfl
 rw [Nat.add_zero] at q0 q1 q2
 have r0 : st[m]? = some p0.cmp := by rw [← hst, List.getElem?_map, hp0]; rfl
 have r1 : st[m + 1]? = some p1.cmp := by rw [← hst, List.getElem?_map, hp1]; rfl
 have r2 : st[m + 2]? = some p2.cmp := by rw [← hst, List.getElem?_map, hp2]; rfl
 rw [hb0] at r0; rw [hb1] at r1; rw [hb2] at r2
 injection r0 with r0; injection r1 with r1; injection r2 with r2
 rw [← r0] at q0; rw [← r1] at q1; rw [← r2] at q2
 have hs3 := sum3 (l := ps.map (·.n)) (by rw [List.length_map, hps.len]) (by rw [List.getElem?_map, hp0]; rfl) (by rw [List.getElem?_map, hp1]; rfl) (by rw [List.getElem?_map, hp2]; rfl)
 rw [← List.map_take] at hs3
 simp only at hs3
 have hnn : p0.n + p1.n + p2.n ≤ 1000 := by omega
 have HS3 := Lib.hid hs3
 have HT0 := Lib.hid (htx p0 (List.mem_of_getElem? hp0))
 have HT1 := Lib.hid (htx p1 (List.mem_of_getElem? hp1))
 have HT2 := Lib.hid (htx p2 (List.mem_of_getElem? hp2))
 have HBX := Lib.hid hbb
 have HFL : Hid (((ps.take m).flatMap encPe).length = m * 2) := Lib.hid (by rw [flat_len encPe_len, List.length_take, hps.len, Nat.min_eq_left (by omega)])
 have HFC : Hid (∀ w, Below W.heap.size W w → ∀ ad, some (⟨b, o, none⟩ : Addr) = some ad → ∀ j u, ((ps.take m).flatMap encPe)[j]? = some u → w.cell? (ad.add j) = some u) := Lib.hid fun w hb ad e j u hu => (hps.below hb).flatC encPe_len (by decide) ad e j u (flat_take hu)
 have HPM : Hid (m ≤ ps.length) := Lib.hid (by rw [hps.len]; omega)
 have HTX := Lib.hid htx
 have HST : Hid ((ps.take m).map (·.cmp) = st.take m) := Lib.hid (by rw [List.map_take, hst])
 have HSUM := Lib.hid hsum
 have hcap : m + 3 ≤ c := hps.cap
 have hmx := hps.mx
 unfold maxLen at hmx
 clear hbb hps hst htx hsum hp0 hp1 hp2 hs3 hb0 hb1 hb2 r0 r1 r2
 go_enter Tryz.func164, Tryz.ntmps164
 go_wp2_with fail
 obtain ⟨wx, hwx⟩ : ∃ wx, W.alloc (.cells #[.int .i64 10, .int .i64 0] 91) = wx := ⟨_, rfl⟩
 rw [hwx] at HBX ⊢
 replace t0 := (HBX.out.cell (World.block_lt_of_cell? W _ t0)).trans t0
 replace t1 := (HBX.out.cell (World.block_lt_of_cell? W _ t1)).trans t1
 replace t2 := (HBX.out.cell (World.block_lt_of_cell? W _ t2)).trans t2
 have hw0 : IntKind.i64.wrap (m : Int) = (m : Int) := by rw [IntKind.wrap_i64]; omega
 have hw1 : IntKind.i64.wrap ((m : Int) + 3 - 2) = (m : Int) + 1 := by rw [IntKind.wrap_i64]; omega
 have hw2 : IntKind.i64.wrap ((m : Int) + 3 - 1) = (m : Int) + 2 := by rw [IntKind.wrap_i64]; omega
 have x1 : (0 : Int) ≤ (m : Int) + 1 := by omega
 have x2 : (0 : Int) ≤ (m : Int) + 2 := by omega
 have x3 : ((m : Int) + 1).toNat = m + 1 := by omega
 have x4 : ((m : Int) + 2).toNat = m + 2 := by omega
 have x9 : (0 : Int) ≤ (m : Int) := by omega
 have x10 : (m : Int) < (m : Int) + 3 := by omega
 have x11 : (m : Int) + 1 < (m : Int) + 3 := by omega
 have x12 : (m : Int) + 2 < (m : Int) + 3 := by omega
 clear q0 q1 q2 hwx
 apply region_ex5 (α := Nat → Value) (β := Nat) (γ := Option Addr) (δ := Nat) (ε := Nat) (R := fun _ _ ta tn tc w' => Below W.heap.size W w' ∧ ∃ S, SL encStr 1 w' ta tn tc S ∧ tn ≤ p0.n + p1.n + p2.n + 5)
 · refine wp_region_held_drew (S := fun w' => w'.cell? ⟨b, o + m * 2 + 1, none⟩ = some (.slice p0.a p0.n p0.c) ∧ w'.cell? ⟨b, o + (m + 1) * 2 + 1, none⟩ = some (.slice p1.a p1.n p1.c) ∧ w'.cell? ⟨b, o + (m + 2) * 2 + 1, none⟩ = some (.slice p2.a p2.n p2.c)) (by kernel_rfl) ⟨t0, t1, t2⟩ (fun hS => ?_)
   have hBd : Below wx.heap.size wx wx.drew := (Below.refl _ _).drew
   refine takeN 1 (v := ?_) rfl (by kernel_rfl) (by rfl) (fun w hSw => ?_) (by assumption) ?_
   rotate_left
   focus ((try dsimp only at hSw); (try go_split_ands); go_simp; try with_reducible rfl)
   (try simp only [PS])
   refine takeN 2 (v := ?_) rfl (by kernel_rfl) (by rfl) (fun w hSw => ?_) (by assumption) ?_
   rotate_left
   focus ((try dsimp only at hSw); (try go_split_ands); go_simp; try with_reducible rfl)
   (try simp only [PS])
   refine takeN 3 (v := ?_) rfl (by kernel_rfl) (by rfl) (fun w hSw => ?_) (by assumption) ?_
   rotate_left
   focus ((try dsimp only at hSw); (try go_split_ands); go_simp; try with_reducible rfl)
   (try simp only [PS])
   refine takeN 4 (v := ?_) rfl (by kernel_rfl) (by rfl) (fun w hSw => ?_) (by assumption) ?_
   rotate_left
   focus ((try dsimp only at hSw); (try go_split_ands); go_simp; try with_reducible rfl)
   (try simp only [PS])
   refine takeN 5 (v := ?_) rfl (by kernel_rfl) (by rfl) (fun w hSw => ?_) (by assumption) ?_
   rotate_left
   focus ((try dsimp only at hSw); (try go_split_ands); go_simp; try with_reducible rfl)
   (try simp only [PS])
   refine takeN 6 (v := ?_) rfl (by kernel_rfl) (by rfl) (fun w hSw => ?_) (by assumption) ?_
   rotate_left
   focus ((try dsimp only at hSw); (try go_split_ands); go_simp; try with_reducible rfl)
   (try simp only [PS])
   refine takeN 8 (v := ?_) rfl (by kernel_rfl) (by rfl) (fun w hSw => ?_) (by assumption) ?_
   rotate_left
   focus ((try dsimp only at hSw); (try go_split_ands); go_simp; try with_reducible rfl)
   (try simp only [PS])
   refine takeN 9 (v := ?_) rfl (by kernel_rfl) (by rfl) (fun w hSw => ?_) (by assumption) ?_
   rotate_left
   focus ((try dsimp only at hSw); (try go_split_ands); go_simp; try with_reducible rfl)
   (try simp only [PS])
   refine takeN 10 (v := ?_) rfl (by kernel_rfl) (by rfl) (fun w hSw => ?_) (by assumption) ?_
   rotate_left
   focus ((try dsimp only at hSw); (try go_split_ands); go_simp; try with_reducible rfl)
   (try simp only [PS])
   refine takeN 11 (v := ?_) rfl (by kernel_rfl) (by rfl) (fun w hSw => ?_) (by assumption) ?_
   rotate_left
   focus ((try dsimp only at hSw); (try go_split_ands); go_simp; try with_reducible rfl)
   (try simp only [PS])
   refine takeN 12 (v := ?_) rfl (by kernel_rfl) (by rfl) (fun w hSw => ?_) (by assumption) ?_
   rotate_left
   focus ((try dsimp only at hSw); (try go_split_ands); go_simp; try with_reducible rfl)
   (try simp only [PS])
   refine takeN 13 (v := ?_) rfl (by kernel_rfl) (by rfl) (fun w hSw => ?_) (by assumption) ?_
   rotate_left
   focus ((try dsimp only at hSw); (try go_split_ands); go_simp; try with_reducible rfl)
   (try simp only [PS])
   refine takeN 15 (v := ?_) rfl (by kernel_rfl) (by rfl) (fun w hSw => ?_) (by assumption) ?_
   rotate_left
   focus ((try dsimp only at hSw); (try go_split_ands); go_simp; try with_reducible rfl)
   (try simp only [PS])
   refine takeN 16 (v := ?_) rfl (by kernel_rfl) (by rfl) (fun w hSw => ?_) (by assumption) ?_
   rotate_left
   focus ((try dsimp only at hSw); (try go_split_ands); go_simp; try with_reducible rfl)
   (try simp only [PS])
   refine takeN 17 (v := ?_) rfl (by kernel_rfl) (by rfl) (fun w hSw => ?_) (by assumption) ?_
   rotate_left
   focus ((try dsimp only at hSw); (try go_split_ands); go_simp; try with_reducible rfl)
   (try simp only [PS])
   refine takeN 18 (v := ?_) rfl (by kernel_rfl) (by rfl) (fun w hSw => ?_) (by assumption) ?_
   rotate_left
   focus ((try dsimp only at hSw); (try go_split_ands); go_simp; try with_reducible rfl)
   (try simp only [PS])
   refine takeN 19 (v := ?_) rfl (by kernel_rfl) (by rfl) (fun w hSw => ?_) (by assumption) ?_
   rotate_left
   focus ((try dsimp only at hSw); (try go_split_ands); go_simp; try with_reducible rfl)
   (try simp only [PS])
   refine takeN 20 (v := ?_) rfl (by kernel_rfl) (by rfl) (fun w hSw => ?_) (by assumption) ?_
   rotate_left
   focus ((try dsimp only at hSw); (try go_split_ands); go_simp; try with_reducible rfl)
   (try simp only [PS])
   refine wpAnyH_late [(0, 102), (7, 109), (14, 116), (21, 123)] (Fl (W.heap.size + 1) [(0, .t 2), (7, .t 1), (14, .t 1), (21, .t 1)]) (f := 3) (fun _ => undef) (by (simp only [putL, Act.put, l_t, l_s, l_z, s_t, s_z, s_s])) (by kernel_rfl) (fun w w' h hb => ⟨(hb.cell (World.block_lt_of_cell? w _ h.1)).trans h.1, (hb.cell (World.block_lt_of_cell? w _ h.2.1)).trans h.2.1, (hb.cell (World.block_lt_of_cell? w _ h.2.2)).trans h.2.2⟩) Fl.below hS ?_ ?_
   · (intro i hi; simp only [List.map_cons, List.map_nil, List.mem_cons, List.not_mem_nil, or_false] at hi)
     rcases hi with rfl | rfl | rfl | rfl
     · refine LateOp.of rfl rfl (by simp) (by decide) (fun u w A hA hS hB hd K hK => ?_)
       refine step_value (v := .slice (some ⟨w.heap.size, 0, none⟩) 2 2) (w' := w.alloc (.cells #[.string ⟨#[40]⟩, .string ⟨#[105, 102]⟩] 9)) rfl (by rw [hA]; clear hA hd hK; (simp only [putL, Act.put, l_t, l_s, l_z, s_t, s_z, s_s]); go_simp) ?_
       exact hK.out _ _ ⟨_, [⟨#[40]⟩, ⟨#[105, 102]⟩], rfl, Box.new _ _ _, rfl⟩ (al0 _ _ _)
     · refine LateOp.of rfl rfl (by simp) (by decide) (fun u w A hA hS hB hd K hK => ?_)
       refine step_value (v := .slice (some ⟨w.heap.size, 0, none⟩) 1 1) (w' := w.alloc (.cells #[.string ⟨#[116, 104, 101, 110]⟩] 9)) rfl (by rw [hA]; clear hA hd hK; (simp only [putL, Act.put, l_t, l_s, l_z, s_t, s_z, s_s]); go_simp) ?_
       exact hK.out _ _ ⟨_, [⟨#[116, 104, 101, 110]⟩], rfl, Box.new _ _ _, rfl⟩ (al0 _ _ _)
     · refine LateOp.of rfl rfl (by simp) (by decide) (fun u w A hA hS hB hd K hK => ?_)
       refine step_value (v := .slice (some ⟨w.heap.size, 0, none⟩) 1 1) (w' := w.alloc (.cells #[.string ⟨#[101, 108, 115, 101]⟩] 9)) rfl (by rw [hA]; clear hA hd hK; (simp only [putL, Act.put, l_t, l_s, l_z, s_t, s_z, s_s]); go_simp) ?_
       exact hK.out _ _ ⟨_, [⟨#[101, 108, 115, 101]⟩], rfl, Box.new _ _ _, rfl⟩ (al0 _ _ _)
     · refine LateOp.of rfl rfl (by simp) (by decide) (fun u w A hA hS hB hd K hK => ?_)
       refine step_value (v := .slice (some ⟨w.heap.size, 0, none⟩) 1 1) (w' := w.alloc (.cells #[.string ⟨#[41]⟩] 9)) rfl (by rw [hA]; clear hA hd hK; (simp only [putL, Act.put, l_t, l_s, l_z, s_t, s_z, s_s]); go_simp) ?_
       exact hK.out _ _ ⟨_, [⟨#[41]⟩], rfl, Box.new _ _ _, rfl⟩ (al0 _ _ _)
   · intro u w hS hB hF
     (simp only [putL, Act.put, l_t, l_s, l_z, s_t, s_z, s_s])
     have hBx := hBd.trans (hB.mono hBd.size)
     have hBW := HBX.out.trans (hBx.mono HBX.out.size)
     obtain ⟨g0, S0, e0, hg0, l0⟩ : Fk (W.heap.size + 1) (.t 2) (u 0) w := hF 0 (by simp)
     obtain ⟨g1, S1, e1, hg1, l1⟩ : Fk (W.heap.size + 1) (.t 1) (u 7) w := hF 7 (by simp)
     obtain ⟨g2, S2, e2, hg2, l2⟩ : Fk (W.heap.size + 1) (.t 1) (u 14) w := hF 14 (by simp)
     obtain ⟨g3, S3, e3, hg3, l3⟩ : Fk (W.heap.size + 1) (.t 1) (u 21) w := hF 21 (by simp)
     obtain ⟨G, hG⟩ : ∃ G, w.heap.size = G := ⟨_, rfl⟩
     have hAl : Below w.heap.size w (w.alloc (.cells #[.slice (some ⟨g0, 0, none⟩) 2 2, .slice p0.a p0.n p0.c, .slice (some ⟨g1, 0, none⟩) 1 1, .slice p1.a p1.n p1.c, .slice (some ⟨g2, 0, none⟩) 1 1, .slice p2.a p2.n p2.c, .slice (some ⟨g3, 0, none⟩) 1 1] 173)) := al0 _ _ _
     have hNb := Box.new w #[.slice (some ⟨g0, 0, none⟩) 2 2, .slice p0.a p0.n p0.c, .slice (some ⟨g1, 0, none⟩) 1 1, .slice p1.a p1.n p1.c, .slice (some ⟨g2, 0, none⟩) 1 1, .slice p2.a p2.n p2.c, .slice (some ⟨g3, 0, none⟩) 1 1] 173
     rw [hG] at hNb
     refine wpAnyH_ready (rs := [22]) (by kernel_rfl) (by simp) (AllReadyH.cons rfl (fun K hK => ?_) AllReadyH.nil)
     refine step_value (v := .slice (some ⟨G, 0, none⟩) 7 7) (w' := w.alloc (.cells #[.slice (some ⟨g0, 0, none⟩) 2 2, .slice p0.a p0.n p0.c, .slice (some ⟨g1, 0, none⟩) 1 1, .slice p1.a p1.n p1.c, .slice (some ⟨g2, 0, none⟩) 1 1, .slice p2.a p2.n p2.c, .slice (some ⟨g3, 0, none⟩) 1 1] 173)) rfl (by clear hK hF; simp only [e0, e1, e2, e3]; go_simp; try rw [hG]) ?_
     have k0 := (hg0.below hAl)
     have k1 := (hg1.below hAl)
     have k2 := (hg2.below hAl)
     have k3 := (hg3.below hAl)
     have hBW' := hBW.on hAl
     have hS' := hS
     replace hS' : (w.alloc (.cells #[.slice (some ⟨g0, 0, none⟩) 2 2, .slice p0.a p0.n p0.c, .slice (some ⟨g1, 0, none⟩) 1 1, .slice p1.a p1.n p1.c, .slice (some ⟨g2, 0, none⟩) 1 1, .slice p2.a p2.n p2.c, .slice (some ⟨g3, 0, none⟩) 1 1] 173)).cell? ⟨b, o + m * 2 + 1, none⟩ = some (.slice p0.a p0.n p0.c) ∧ (w.alloc (.cells #[.slice (some ⟨g0, 0, none⟩) 2 2, .slice p0.a p0.n p0.c, .slice (some ⟨g1, 0, none⟩) 1 1, .slice p1.a p1.n p1.c, .slice (some ⟨g2, 0, none⟩) 1 1, .slice p2.a p2.n p2.c, .slice (some ⟨g3, 0, none⟩) 1 1] 173)).cell? ⟨b, o + (m + 1) * 2 + 1, none⟩ = some (.slice p1.a p1.n p1.c) ∧ (w.alloc (.cells #[.slice (some ⟨g0, 0, none⟩) 2 2, .slice p0.a p0.n p0.c, .slice (some ⟨g1, 0, none⟩) 1 1, .slice p1.a p1.n p1.c, .slice (some ⟨g2, 0, none⟩) 1 1, .slice p2.a p2.n p2.c, .slice (some ⟨g3, 0, none⟩) 1 1] 173)).cell? ⟨b, o + (m + 2) * 2 + 1, none⟩ = some (.slice p2.a p2.n p2.c) := ⟨(hAl.cell (World.block_lt_of_cell? w _ hS.1)).trans hS.1, (hAl.cell (World.block_lt_of_cell? w _ hS.2.1)).trans hS.2.1, (hAl.cell (World.block_lt_of_cell? w _ hS.2.2)).trans hS.2.2⟩
     obtain ⟨w7, hw7⟩ : ∃ w7, w.alloc (.cells #[.slice (some ⟨g0, 0, none⟩) 2 2, .slice p0.a p0.n p0.c, .slice (some ⟨g1, 0, none⟩) 1 1, .slice p1.a p1.n p1.c, .slice (some ⟨g2, 0, none⟩) 1 1, .slice p2.a p2.n p2.c, .slice (some ⟨g3, 0, none⟩) 1 1] 173) = w7 := ⟨_, rfl⟩
     rw [hw7] at k0 k1 k2 k3 hBW' hS' hNb ⊢
     clear hw7 hAl
     refine hK.out _ _ hS' (fun hS => ?_)
     clear hK K
     (try simp only [PS])
     refine wpAnyH_ready (rs := [23]) (by kernel_rfl) (by simp) (AllReadyH.cons rfl (fun K hK => ?_) AllReadyH.nil)
     obtain ⟨U0, hU0⟩ := HT0.out
     obtain ⟨U1, hU1⟩ := HT1.out
     obtain ⟨U2, hU2⟩ := HT2.out
     have hTX := rtext_any G 7 7 [.slice (some ⟨g0, 0, none⟩) 2 2, .slice p0.a p0.n p0.c, .slice (some ⟨g1, 0, none⟩) 1 1, .slice p1.a p1.n p1.c, .slice (some ⟨g2, 0, none⟩) 1 1, .slice p2.a p2.n p2.c, .slice (some ⟨g3, 0, none⟩) 1 1] (p0.n + p1.n + p2.n + 5) w7 rfl hNb.lt (fun i x hx => by rw [hNb.cell i]; simpa using hx)
      (all7 (p := TxV w7) rfl ⟨_, _, _, _, rfl, box_texts k0 l0 (by simp [maxLen])⟩ ⟨_, _, _, _, rfl, hU0.below hBW'⟩ ⟨_, _, _, _, rfl, box_texts k1 l1 (by simp [maxLen])⟩ ⟨_, _, _, _, rfl, hU1.below hBW'⟩ ⟨_, _, _, _, rfl, box_texts k2 l2 (by simp [maxLen])⟩ ⟨_, _, _, _, rfl, hU2.below hBW'⟩ ⟨_, _, _, _, rfl, box_texts k3 l3 (by simp [maxLen])⟩)
      (by simp [sumV, lenV]; omega) (by omega) (by omega)
     refine step_enter (f := 259) (args := #[.slice (some ⟨G, 0, none⟩) 7 7]) rfl (by clear hK hF; go_simp) (hTX.mono ?_)
     rintro e w8 ⟨ta, tn, tc, S, rfl, hs, hl, hb8⟩
     refine ⟨_, rfl, hK.out _ _ ⟨(hb8.cell (World.block_lt_of_cell? w7 _ hS.1)).trans hS.1, (hb8.cell (World.block_lt_of_cell? w7 _ hS.2.1)).trans hS.2.1, (hb8.cell (World.block_lt_of_cell? w7 _ hS.2.2)).trans hS.2.2⟩ (fun hS => ?_)⟩
     clear hK K
     (try simp only [PS])
     refine takeN 24 (v := ?_) rfl (by kernel_rfl) (by rfl) (fun w hSw => ?_) (by assumption) ?_
     rotate_left
     focus ((try dsimp only at hSw); (try go_split_ands); go_simp; try with_reducible rfl)
     (try simp only [PS])
     refine wpAnyH_done (by kernel_rfl) ?_ _
     exact ⟨rfl, u, G, ta, tn, tc, rfl, hBW'.on hb8, S, hs, hl⟩
 rintro u G ta tn tc w2 ⟨hB2, S, hs, hl⟩
 have HB2 := Lib.hid hB2
 have HTS := Lib.hid hs
 have hs2 := hB2.size
 have HO0 : Hid ((w2.alloc (.cells #[] 264)).ownsRow w2.heap.size 264 2 (.slice (some ⟨w2.heap.size, 0, none⟩) 0 0) 0 []) := Lib.hid (OwnSL.made0 encPe 2 w2 _ w2.heap.size (Nat.le_refl _))
 clear hB2 hs t0 t1 t2 hw0 hw1 hw2 x1 x2 x3 x4 x10 x11 x12
 go_wp2_with (first | (at_builtin; refine wpList_append_empty rfl _ _ 260 rfl w2.heap.size 264 i9 _ 2 32 Tryz.underlying260 hi9 hz90 hz91 hz92 rfl (some ⟨w2.heap.size, 0, none⟩) HO0.out rfl (some ⟨b, o, none⟩) m c ((ps.take m).flatMap encPe) rfl (fun h => by cases h) HFL.out (HFC.out _ (HB2.out.on (al0 _ _ _))) (by unfold maxLen; omega) (by omega) (by simp) ?_; intro v1 w4 h1 hb4; obtain ⟨a1, c1, rfl, _, _⟩ := own_slice h1) | (at_builtin; refine wpList_append_any rfl _ _ 260 rfl w2.heap.size 264 i9 _ 2 32 Tryz.underlying260 hi9 hz90 hz91 hz92 rfl (by decide) (.slice a1 m c1) m _ (h1.alloc _) rfl (some ⟨w4.heap.size, 0, none⟩) 1 1 [.bool false, .slice ta tn tc] rfl (fun h => by cases h) rfl (fun ad e j x hx => by injection e with e; subst e; rw [Addr.add_mid, Nat.zero_add, (Box.new w4 #[.bool false, .slice ta tn tc] 264).cell j]; simpa using hx) (by simp [Value.oneCell']) (by unfold maxLen; omega) (by omega) (by have := hb4.size; simp at this ⊢ <;> omega) ?_; intro v2 w5 h2 g2 f2))
 have hB25 : Below w2.heap.size w2 w5 := (((al0 w2 _ _).on hb4).on (al0 w4 _ _)).grown g2 (by have := ((al0 w2 #[] 264).on hb4).size; simp; omega) (fun q e => (h1.lt q e).1)
 have hpt := Prts.put (T := T + 6) (m := m) (HB2.out.on hB25) h2 HPM.out HTX.out (HTS.out.below hB25) (by have := HS3.out; have := HSUM.out; omega)
 rw [HST.out] at hpt
 obtain ⟨a', n', c', rfl, hP, hn'⟩ := hpt
 have HB5 := Lib.hid (HB2.out.on hB25)
 have HP := Lib.hid hP
 clear hP h1 h2 g2 f2 hb4 hB25
 go_wp2_with fail
 refine bodyPost_ret (v := .tuple #[.slice a' n' c', .bool true]) (by simp [results, Tryz.results164, go_sem]) rfl ⟨a', n', c', rfl, HB5.out, HP.out, by omega⟩
end Go.Proofs.YtehoidohallfcaaGreatDoor
