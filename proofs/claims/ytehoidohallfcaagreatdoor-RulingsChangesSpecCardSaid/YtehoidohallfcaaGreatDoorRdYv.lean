/- push: a comparison. -/
import Derived.Test.YtehoidohallfcaaGreatDoorRdYw
import Derived.Test.YtehoidohallfcaaGreatDoorRdYz
namespace Go.Proofs.YtehoidohallfcaaGreatDoor
open Go.RowKit
theorem all3 {us : List Value} {p : Value → Prop} {x0 x1 x2 : Value} (hu : us = [x0, x1, x2]) (h0 : p x0) (h1 : p x1) (h2 : p x2) (i : Nat) (u : Value) (h : us[i]? = some u) : p u := by
 have := List.mem_of_getElem? h
 rw [hu] at this
 simp only [List.mem_cons, List.not_mem_nil, or_false] at this
 rcases this with rfl | rfl | rfl <;> assumption
set_option maxRecDepth 20000 in
set_option maxHeartbeats 8000000 in
theorem rpush9 (b o c m : Nat) (st : List Bool) (T : Nat) (W : World) (hP : Prts W (some ⟨b, o, none⟩) (m + 2) c st T) (hn : m + 2 ≤ 100) (hT : T ≤ 1000) (hb0 : st[m]? = some false) (hb1 : st[m + 1]? = some false) :
 Calls Tryz.prog 164 #[.slice (some ⟨b, o, none⟩) (m + 2) c, .agg #[.int .i64 9, .int .i64 0]] W fun e w' => ∃ a' n' c', e = .returned (.tuple #[.slice a' n' c', .bool true]) ∧ Below W.heap.size W w' ∧ Prts w' a' n' c' (st.take m ++ [true]) (T + 6) ∧ n' ≤ m + 3 := by
 obtain ⟨ps, hps, hst, htx, hsum⟩ := hP
 obtain ⟨i9, hi9, hz90, hz91, hz92⟩ := info_parts info_pe
 obtain ⟨p0, hp0⟩ := hps.get (i := m) (by omega)
 obtain ⟨p1, hp1⟩ := hps.get (i := m + 1) (by omega)
 have hbl : b < W.heap.size := by
  obtain ⟨b', o', e, h⟩ := hps.at' (by omega)
  injection e with e; injection e with e1 e2; subst e1; exact h
 have q0 := hps.cell b o rfl m p0 hp0 0 _ rfl
 have q1 := hps.cell b o rfl (m + 1) p1 hp1 0 _ rfl
 have t0 := hps.cell b o rfl m p0 hp0 1 _ rfl
 have t1 := hps.cell b o rfl (m + 1) p1 hp1 1 _ rfl
 rw [Nat.add_zero] at q0 q1
 have r0 : st[m]? = some p0.cmp := by rw [← hst, List.getElem?_map, hp0]; rfl
 have r1 : st[m + 1]? = some p1.cmp := by rw [← hst, List.getElem?_map, hp1]; rfl
 rw [hb0] at r0; rw [hb1] at r1
 injection r0 with r0; injection r1 with r1
 rw [← r0] at q0; rw [← r1] at q1
 have hs3 := sum2 (l := ps.map (·.n)) (by rw [List.length_map, hps.len]) (by rw [List.getElem?_map, hp0]; rfl) (by rw [List.getElem?_map, hp1]; rfl)
 rw [← List.map_take] at hs3
 simp only at hs3
 have hnn : p0.n + p1.n ≤ 1000 := by omega
 have HS3 := Lib.hid hs3
 have HT0 := Lib.hid (htx p0 (List.mem_of_getElem? hp0))
 have HT1 := Lib.hid (htx p1 (List.mem_of_getElem? hp1))
 have HFL : Hid (((ps.take m).flatMap encPe).length = m * 2) := Lib.hid (by rw [flat_len encPe_len, List.length_take, hps.len, Nat.min_eq_left (by omega)])
 have HFC : Hid (∀ w, Below W.heap.size W w → ∀ ad, some (⟨b, o, none⟩ : Addr) = some ad → ∀ j u, ((ps.take m).flatMap encPe)[j]? = some u → w.cell? (ad.add j) = some u) := Lib.hid fun w hb ad e j u hu => (hps.below hb).flatC encPe_len (by decide) ad e j u (flat_take hu)
 have HPM : Hid (m ≤ ps.length) := Lib.hid (by rw [hps.len]; omega)
 have HTX := Lib.hid htx
 have HST : Hid ((ps.take m).map (·.cmp) = st.take m) := Lib.hid (by rw [List.map_take, hst])
 have HSUM := Lib.hid hsum
 have hcap : m + 2 ≤ c := hps.cap
 have hmx := hps.mx
 unfold maxLen at hmx
 clear hps hst htx hsum hp0 hp1 hs3 hb0 hb1 r0 r1
 have x9 : (0 : Int) ≤ (m : Int) := by omega
 have hx1 : Box ((W.alloc (.cells #[.int .i64 9, .int .i64 0] 91)).alloc (.cells #[.bool true, .slice none 0 0] 264)) (W.heap.size + 1) #[.bool true, .slice none 0 0] 264 := box_at _ _ _ _ (by simp)
 have hb2 : Below W.heap.size W ((W.alloc (.cells #[.int .i64 9, .int .i64 0] 91)).alloc (.cells #[.bool true, .slice none 0 0] 264)) := (al0 _ _ _).on (al0 _ _ _)
 have hz2 : ((W.alloc (.cells #[.int .i64 9, .int .i64 0] 91)).alloc (.cells #[.bool true, .slice none 0 0] 264)).heap.size = W.heap.size + 1 + 1 := by simp
 go_enter Tryz.func164, Tryz.ntmps164
 go_wp2_with fail
 obtain ⟨w2, hw2⟩ : ∃ w2, ((W.alloc (.cells #[.int .i64 9, .int .i64 0] 91)).alloc (.cells #[.bool true, .slice none 0 0] 264)) = w2 := ⟨_, rfl⟩
 rw [hw2] at hx1 hb2 hz2 ⊢
 clear hw2
 obtain ⟨B, hB⟩ : ∃ B, W.heap.size + 1 + 1 = B := ⟨_, rfl⟩
 rw [hB] at hz2 ⊢
 obtain ⟨w6, hw6⟩ : ∃ w6, (w2.alloc (.cells #[.string ⟨#[60]⟩] 9)).alloc (.cells #[.slice p0.a p0.n p0.c, .slice (some ⟨B, 0, none⟩) 1 1, .slice p1.a p1.n p1.c] 173) = w6 := ⟨_, rfl⟩
 have k0 : Box w6 B #[.string ⟨#[60]⟩] 9 := by rw [← hw6]; exact (box_at w2 _ _ _ hz2).alloc _
 have k3 : Box w6 (B + 1) #[.slice p0.a p0.n p0.c, .slice (some ⟨B, 0, none⟩) 1 1, .slice p1.a p1.n p1.c] 173 := by rw [← hw6]; exact box_at _ _ _ _ (by simp [hz2])
 have hb26 : Below w2.heap.size w2 w6 := by rw [← hw6]; exact (al0 _ _ _).on (al0 _ _ _)
 rw [hw6]
 have hbW6 := hb2.on hb26
 obtain ⟨U0, hU0⟩ := HT0.out
 obtain ⟨U1, hU1⟩ := HT1.out
 have hTX := rtext_any (B + 1) 3 3 [.slice p0.a p0.n p0.c, .slice (some ⟨B, 0, none⟩) 1 1, .slice p1.a p1.n p1.c] (p0.n + p1.n + 1) w6 rfl k3.lt (fun i x hx => by rw [k3.cell i]; simpa using hx)
  (all3 (p := TxV2 w6) rfl ⟨_, _, _, _, rfl, hU0.below hbW6⟩ ⟨_, _, _, _, rfl, one_text k0⟩ ⟨_, _, _, _, rfl, hU1.below hbW6⟩)
  (by simp [sumV, lenV]; omega) (by omega) (by omega)
 clear hw6
 refine hTX.mono ?_
 rintro e w7 ⟨ta, tn, tc, S, rfl, hs, hl, hb7⟩
 have hB7 := hbW6.on hb7
 have hx7 := (hx1.below hb26).below hb7
 have hne := txt_ne hs hx7
 clear k0 k3 hb26 hbW6 hb7 hx1 hb2 hz2 hU0 hU1 hTX
 simp only [← hB] at *
 clear hB
 have HB7 := Lib.hid hB7
 have HTS := Lib.hid hs
 obtain ⟨y0, y1⟩ := hx7.g2
 have yf := hx7.frozen 1
 have yl := hx7.lt
 have hs7 := hB7.size
 have HX7 := Lib.hid hx7
 clear hB7 hs hx7 t0 t1
 go_wp2_with fail
 have hx8 := HX7.out.set 1 (.slice ta tn tc)
 simp only [s_t, s_z, s_s] at hx8
 have HTS8 := Lib.hid (HTS.out.setOther (p := ⟨W.heap.size + 1, 1, none⟩) (.slice ta tn tc) (fun h e => by have := hne h; exact this e))
 have HB8 : Hid (Below W.heap.size W (w7.setCell ⟨W.heap.size + 1, 1, none⟩ (.slice ta tn tc))) := Lib.hid (HB7.out.setCell (by show W.heap.size ≤ W.heap.size + 1; omega) _)
 have hs8 : W.heap.size + 1 < (w7.setCell ⟨W.heap.size + 1, 1, none⟩ (.slice ta tn tc)).heap.size := hx8.lt
 obtain ⟨w8, hw8⟩ : ∃ w8, w7.setCell ⟨W.heap.size + 1, 1, none⟩ (.slice ta tn tc) = w8 := ⟨_, rfl⟩
 rw [hw8] at hx8 HTS8 HB8 hs8 ⊢
 obtain ⟨y0, y1⟩ := hx8.g2
 clear hw8 HTS HX7 HB7
 have hw0 : IntKind.i64.wrap (m : Int) = (m : Int) := by rw [IntKind.wrap_i64]; omega
 have x10 : (m : Int) ≤ (c : Int) := by omega
 have x11 : (m : Int) ≤ (m : Int) + 2 := by omega
 apply region_ex2 (α := Nat → Value) (β := Value) (R := fun u v w' => Below W.heap.size W w' ∧ SL encStr 1 w' ta tn tc S ∧ w'.ownsRow w8.heap.size 264 2 v (m + 1) ((ps.take m).flatMap encPe ++ [.bool true, .slice ta tn tc]))
 · refine wp_region_held_drew (S := fun w' => w'.cell? ⟨W.heap.size + 1, 0, none⟩ = some (.bool true) ∧ w'.cell? ⟨W.heap.size + 1, 1, none⟩ = some (.slice ta tn tc)) (by kernel_rfl) ⟨y0, y1⟩ (fun hS => ?_)
   have hBd : Below w8.heap.size w8 w8.drew := (Below.refl _ _).drew
   refine takeN 1 (v := ?_) rfl (by kernel_rfl) (by rfl) (fun w hSw => ?_) (by assumption) ?_
   rotate_left
   focus ((try dsimp only at hSw); (try go_split_ands); go_simp; try with_reducible rfl)
   (try simp only [PS])
   refine takeN 2 (v := ?_) rfl (by kernel_rfl) (by rfl) (fun w hSw => ?_) (by assumption) ?_
   rotate_left
   focus ((try dsimp only at hSw); (try go_split_ands); go_simp; try with_reducible rfl)
   (try simp only [PS])
   refine takeN 3 (v := ?_) rfl (by kernel_rfl) (by rfl) (fun w hSw => ?_) (by assumption) ?_
   rotate_left
   focus ((try dsimp only at hSw); (try go_split_ands); go_simp; try with_reducible rfl)
   (try simp only [PS])
   refine takeN 4 (v := ?_) rfl (by kernel_rfl) (by rfl) (fun w hSw => ?_) (by assumption) ?_
   rotate_left
   focus ((try dsimp only at hSw); (try go_split_ands); go_simp; try with_reducible rfl)
   (try simp only [PS])
   refine takeN 6 (v := ?_) rfl (by kernel_rfl) (by rfl) (fun w hSw => ?_) (by assumption) ?_
   rotate_left
   focus ((try dsimp only at hSw); (try go_split_ands); go_simp; try with_reducible rfl)
   (try simp only [PS])
   refine wpAnyH_late [(0, 211), (5, 216), (7, 218)] (Fl w8.heap.size [(0, .e), (5, .r m ((ps.take m).flatMap encPe)), (7, .pp true (.slice ta tn tc))]) (f := 3) (fun _ => undef) (by (simp only [putL, Act.put, l_t, l_s, l_z, s_t, s_z, s_s])) (by kernel_rfl) (fun w w' h hb => ⟨(hb.cell (World.block_lt_of_cell? w _ h.1)).trans h.1, (hb.cell (World.block_lt_of_cell? w _ h.2)).trans h.2⟩) Fl.below hS ?_ ?_
   · (intro i hi; simp only [List.map_cons, List.map_nil, List.mem_cons, List.not_mem_nil, or_false] at hi)
     rcases hi with rfl | rfl | rfl
     · refine LateOp.of rfl rfl (by simp) (by decide) (fun u w A hA hS hB hd K hK => ?_)
       have hBx := hBd.trans (hB.mono hBd.size)
       refine step_value (v := .slice (some ⟨w.heap.size, 0, none⟩) 0 0) (w' := w.alloc (.cells #[] 264)) rfl (by rw [hA]; clear hA hd hK; (simp only [putL, Act.put, l_t, l_s, l_z, s_t, s_z, s_s]); go_simp) ?_
       exact hK.out _ _ ⟨_, rfl, OwnSL.made0 encPe 2 w _ w8.heap.size hBx.size⟩ (al0 _ _ _)
     · refine LateOp.of rfl rfl (by simp) (by decide) (fun u w A hA hS hB hd K hK => ?_)
       have hBx := hBd.trans (hB.mono hBd.size)
       obtain ⟨a0, e0, h0⟩ := hd 0 (by simp) (by kernel_rfl)
       rw [e0] at h0
       refine step_append_empty rfl _ _ 260 rfl w8.heap.size 264 i9 _ 2 32 Tryz.underlying260 hi9 hz90 hz91 hz92 rfl a0 h0 (by rw [hA]; (simp only [putL, Act.put, l_t, l_s, l_z, s_t, s_z, s_s]); exact e0) (some ⟨b, o, none⟩) m c ((ps.take m).flatMap encPe) (by rw [hA]; (simp only [putL, Act.put, l_t, l_s, l_z, s_t, s_z, s_s]); exact rfl) (fun h => by cases h) HFL.out (HFC.out w (HB8.out.on hBx)) (by unfold maxLen; omega) (by omega) hBx.size (fun v' w' h1 h2 => ?_)
       exact hK.out _ _ h1 h2
     · refine LateOp.of rfl rfl (by simp) (by decide) (fun u w A hA hS hB hd K hK => ?_)
       refine step_value (v := .slice (some ⟨w.heap.size, 0, none⟩) 1 1) (w' := w.alloc (.cells #[.bool true, .slice ta tn tc] 264)) rfl (by rw [hA]; clear hA hd hK; (simp only [putL, Act.put, l_t, l_s, l_z, s_t, s_z, s_s]); go_simp) ?_
       exact hK.out _ _ ⟨_, rfl, Box.new _ _ _⟩ (al0 _ _ _)
   · intro u w hS hB hF
     (simp only [putL, Act.put, l_t, l_s, l_z, s_t, s_z, s_s])
     have hBx := hBd.trans (hB.mono hBd.size)
     have hw2 : w.ownsRow w8.heap.size 264 2 (u 5) m ((ps.take m).flatMap encPe) := hF 5 (by simp)
     obtain ⟨g, e8, hg⟩ : Fk w8.heap.size (.pp true (.slice ta tn tc)) (u 7) w := hF 7 (by simp)
     have hnl := hw2.lt
     refine wpAnyH_ready (rs := [8]) (by kernel_rfl) (by simp) (AllReadyH.cons rfl (fun K hK => ?_) AllReadyH.nil)
     refine step_append_any rfl _ _ 260 rfl w8.heap.size 264 i9 _ 2 32 Tryz.underlying260 hi9 hz90 hz91 hz92 rfl (by decide) (u 5) m _ hw2 rfl (some ⟨g, 0, none⟩) 1 1 [.bool true, .slice ta tn tc] e8 (fun h => by cases h) rfl (fun ad e j x hx => by injection e with e; subst e; rw [Addr.add_mid, Nat.zero_add, hg.cell j]; simpa using hx) (by simp [Value.oneCell']) (by unfold maxLen; omega) (by omega) hBx.size ?_
     intro v' w9 hown' hgrow hfr
     have hB89 : Below w8.heap.size w8 w9 := hBx.grown hgrow hBx.size (fun q e => (hnl q e).1)
     refine hK.out _ _ ⟨(hB89.cell (World.block_lt_of_cell? w8 _ y0)).trans y0, (hB89.cell (World.block_lt_of_cell? w8 _ y1)).trans y1⟩ (fun hS => ?_)
     clear hK K
     (try simp only [PS])
     refine takeN 9 (v := ?_) rfl (by kernel_rfl) (by rfl) (fun w hSw => ?_) (by assumption) ?_
     rotate_left
     focus ((try dsimp only at hSw); (try go_split_ands); go_simp; try with_reducible rfl)
     (try simp only [PS])
     refine takeN 10 (v := ?_) rfl (by kernel_rfl) (by rfl) (fun w hSw => ?_) (by assumption) ?_
     rotate_left
     focus ((try dsimp only at hSw); (try go_split_ands); go_simp; try with_reducible rfl)
     (try simp only [PS])
     refine wpAnyH_done (by kernel_rfl) ?_ _
     exact ⟨rfl, u, v', rfl, HB8.out.on hB89, HTS8.out.below hB89, hown'⟩
 rintro u v w9 ⟨hB9, hs9, h2⟩
 have hpt := Prts.put (T := T + 6) (m := m) hB9 h2 HPM.out HTX.out hs9 (by have := HS3.out; have := HSUM.out; omega)
 rw [HST.out] at hpt
 obtain ⟨a', n', c', rfl, hP, hn'⟩ := hpt
 have HB9 := Lib.hid hB9
 have HP := Lib.hid hP
 clear hP h2 hs9 hB9
 go_wp2_with fail
 refine bodyPost_ret (v := .tuple #[.slice a' n' c', .bool true]) (by simp [results, Tryz.results164, go_sem]) rfl ⟨a', n', c', rfl, HB9.out, HP.out, by omega⟩
open Go.RowKit
set_option maxRecDepth 20000 in
set_option maxHeartbeats 8000000 in
theorem rpush3 (b o c m : Nat) (st : List Bool) (T : Nat) (op : Int) (h3 : 3 ≤ op) (h6 : op < 7) (W : World) (hP : Prts W (some ⟨b, o, none⟩) (m + 2) c st T) (hn : m + 2 ≤ 100) (hT : T ≤ 1000) (hb0 : st[m]? = some false) (hb1 : st[m + 1]? = some false) :
 Calls Tryz.prog 164 #[.slice (some ⟨b, o, none⟩) (m + 2) c, .agg #[.int .i64 op, .int .i64 0]] W fun e w' => ∃ a' n' c', e = .returned (.tuple #[.slice a' n' c', .bool true]) ∧ Below W.heap.size W w' ∧ Prts w' a' n' c' (st.take m ++ [false]) (T + 6) ∧ n' ≤ m + 3 := by
 obtain ⟨ps, hps, hst, htx, hsum⟩ := hP
 obtain ⟨i9, hi9, hz90, hz91, hz92⟩ := info_parts info_pe
 obtain ⟨p0, hp0⟩ := hps.get (i := m) (by omega)
 obtain ⟨p1, hp1⟩ := hps.get (i := m + 1) (by omega)
 have hbl : b < W.heap.size := by
  obtain ⟨b', o', e, h⟩ := hps.at' (by omega)
  injection e with e; injection e with e1 e2; subst e1; exact h
 have q0 := hps.cell b o rfl m p0 hp0 0 _ rfl
 have q1 := hps.cell b o rfl (m + 1) p1 hp1 0 _ rfl
 have t0 := hps.cell b o rfl m p0 hp0 1 _ rfl
 have t1 := hps.cell b o rfl (m + 1) p1 hp1 1 _ rfl
 rw [Nat.add_zero] at q0 q1
 have r0 : st[m]? = some p0.cmp := by rw [← hst, List.getElem?_map, hp0]; rfl
 have r1 : st[m + 1]? = some p1.cmp := by rw [← hst, List.getElem?_map, hp1]; rfl
 rw [hb0] at r0; rw [hb1] at r1
 injection r0 with r0; injection r1 with r1
 rw [← r0] at q0; rw [← r1] at q1
 have hs3 := sum2 (l := ps.map (·.n)) (by rw [List.length_map, hps.len]) (by rw [List.getElem?_map, hp0]; rfl) (by rw [List.getElem?_map, hp1]; rfl)
 rw [← List.map_take] at hs3
 simp only at hs3
 have hnn : p0.n + p1.n ≤ 1000 := by omega
 have HS3 := Lib.hid hs3
 have HT0 := Lib.hid (htx p0 (List.mem_of_getElem? hp0))
 have HT1 := Lib.hid (htx p1 (List.mem_of_getElem? hp1))
 have HFL : Hid (((ps.take m).flatMap encPe).length = m * 2) := Lib.hid (by rw [flat_len encPe_len, List.length_take, hps.len, Nat.min_eq_left (by omega)])
 have HFC : Hid (∀ w, Below W.heap.size W w → ∀ ad, some (⟨b, o, none⟩ : Addr) = some ad → ∀ j u, ((ps.take m).flatMap encPe)[j]? = some u → w.cell? (ad.add j) = some u) := Lib.hid fun w hb ad e j u hu => (hps.below hb).flatC encPe_len (by decide) ad e j u (flat_take hu)
 have HPM : Hid (m ≤ ps.length) := Lib.hid (by rw [hps.len]; omega)
 have HTX := Lib.hid htx
 have HST : Hid ((ps.take m).map (·.cmp) = st.take m) := Lib.hid (by rw [List.map_take, hst])
 have HSUM := Lib.hid hsum
 have hcap : m + 2 ≤ c := hps.cap
 have hmx := hps.mx
 unfold maxLen at hmx
 clear hps hst htx hsum hp0 hp1 hs3 hb0 hb1 r0 r1
 have x9 : (0 : Int) ≤ (m : Int) := by omega
 have hx1 : Box ((W.alloc (.cells #[.int .i64 op, .int .i64 0] 91)).alloc (.cells #[.bool false, .slice none 0 0] 264)) (W.heap.size + 1) #[.bool false, .slice none 0 0] 264 := box_at _ _ _ _ (by simp)
 have hb2 : Below W.heap.size W ((W.alloc (.cells #[.int .i64 op, .int .i64 0] 91)).alloc (.cells #[.bool false, .slice none 0 0] 264)) := (al0 _ _ _).on (al0 _ _ _)
 have hz2 : ((W.alloc (.cells #[.int .i64 op, .int .i64 0] 91)).alloc (.cells #[.bool false, .slice none 0 0] 264)).heap.size = W.heap.size + 1 + 1 := by simp
 have k1 : (op == 1) = false := by simp; omega
 have k2 : (op == 2) = false := by simp; omega
 have k7 : (op == 7) = false := by simp; omega
 have k8 : (op == 8) = false := by simp; omega
 have k9 : (op == 9) = false := by simp; omega
 have k10 : (op == 10) = false := by simp; omega
 have kl : decide (op < 3) = false := by simp; omega
 have kg : decide (10 < op) = false := by simp; omega
 clear h3 h6
 go_enter Tryz.func164, Tryz.ntmps164
 go_wp2_with fail
 refine (rsign52_any op _).mono ?_
 rintro e w' ⟨sg, rfl, -, rfl⟩
 go_wp2_with fail
 obtain ⟨w2, hw2⟩ : ∃ w2, ((W.alloc (.cells #[.int .i64 op, .int .i64 0] 91)).alloc (.cells #[.bool false, .slice none 0 0] 264)) = w2 := ⟨_, rfl⟩
 rw [hw2] at hx1 hb2 hz2 ⊢
 clear hw2
 obtain ⟨B, hB⟩ : ∃ B, W.heap.size + 1 + 1 = B := ⟨_, rfl⟩
 rw [hB] at hz2 ⊢
 obtain ⟨w6, hw6⟩ : ∃ w6, ((((w2.alloc (.cells ([(⟨#[40]⟩ : ByteArray)].map Value.string).toArray 9)).alloc (.cells ([sg].map Value.string).toArray 9)).alloc (.cells ([(⟨#[41]⟩ : ByteArray)].map Value.string).toArray 9)).alloc (.cells #[.slice (some ⟨B, 0, none⟩) 1 1, .slice p0.a p0.n p0.c, .slice (some ⟨B + 1, 0, none⟩) 1 1, .slice p1.a p1.n p1.c, .slice (some ⟨B + 1 + 1, 0, none⟩) 1 1] 173)) = w6 := ⟨_, rfl⟩
 have k0 : Box w6 B ([(⟨#[40]⟩ : ByteArray)].map Value.string).toArray 9 := by rw [← hw6]; exact (((box_at w2 _ _ _ hz2).alloc _).alloc _).alloc _
 have k1 : Box w6 (B + 1) ([sg].map Value.string).toArray 9 := by rw [← hw6]; exact ((box_at _ _ _ _ (by simp [hz2])).alloc _).alloc _
 have k2 : Box w6 (B + 1 + 1) ([(⟨#[41]⟩ : ByteArray)].map Value.string).toArray 9 := by rw [← hw6]; exact (box_at _ _ _ _ (by simp [hz2])).alloc _
 have k3 : Box w6 (B + 1 + 1 + 1) #[.slice (some ⟨B, 0, none⟩) 1 1, .slice p0.a p0.n p0.c, .slice (some ⟨B + 1, 0, none⟩) 1 1, .slice p1.a p1.n p1.c, .slice (some ⟨B + 1 + 1, 0, none⟩) 1 1] 173 := by rw [← hw6]; exact box_at _ _ _ _ (by simp [hz2])
 have hb26 : Below w2.heap.size w2 w6 := by rw [← hw6]; exact (((al0 _ _ _).on (al0 _ _ _)).on (al0 _ _ _)).on (al0 _ _ _)
 simp only [List.map_cons, List.map_nil] at hw6
 rw [hw6]
 have hbW6 := hb2.on hb26
 obtain ⟨U0, hU0⟩ := HT0.out
 obtain ⟨U1, hU1⟩ := HT1.out
 have hTX := rtext_any (B + 1 + 1 + 1) 5 5 [.slice (some ⟨B, 0, none⟩) 1 1, .slice p0.a p0.n p0.c, .slice (some ⟨B + 1, 0, none⟩) 1 1, .slice p1.a p1.n p1.c, .slice (some ⟨B + 1 + 1, 0, none⟩) 1 1] (p0.n + p1.n + 3) w6 rfl k3.lt (fun i x hx => by rw [k3.cell i]; simpa using hx)
  (all5 (p := TxV2 w6) rfl ⟨_, _, _, _, rfl, box_texts k0 rfl (by simp [maxLen])⟩ ⟨_, _, _, _, rfl, hU0.below hbW6⟩ ⟨_, _, _, _, rfl, box_texts k1 rfl (by simp [maxLen])⟩ ⟨_, _, _, _, rfl, hU1.below hbW6⟩ ⟨_, _, _, _, rfl, box_texts k2 rfl (by simp [maxLen])⟩)
  (by simp [sumV, lenV]; omega) (by omega) (by omega)
 clear hw6
 refine hTX.mono ?_
 rintro e w7 ⟨ta, tn, tc, S, rfl, hs, hl, hb7⟩
 have hB7 := hbW6.on hb7
 have hx7 := (hx1.below hb26).below hb7
 have hne := txt_ne hs hx7
 clear k0 k1 k2 k3 hb26 hbW6 hb7 hx1 hb2 hz2 hU0 hU1 hTX
 simp only [← hB] at *
 clear hB
 have HB7 := Lib.hid hB7
 have HTS := Lib.hid hs
 obtain ⟨y0, y1⟩ := hx7.g2
 have yf := hx7.frozen 1
 have yl := hx7.lt
 have hs7 := hB7.size
 have HX7 := Lib.hid hx7
 clear hB7 hs hx7 t0 t1
 go_wp2_with fail
 have hx8 := HX7.out.set 1 (.slice ta tn tc)
 simp only [s_t, s_z, s_s] at hx8
 have HTS8 := Lib.hid (HTS.out.setOther (p := ⟨W.heap.size + 1, 1, none⟩) (.slice ta tn tc) (fun h e => by have := hne h; exact this e))
 have HB8 : Hid (Below W.heap.size W (w7.setCell ⟨W.heap.size + 1, 1, none⟩ (.slice ta tn tc))) := Lib.hid (HB7.out.setCell (by show W.heap.size ≤ W.heap.size + 1; omega) _)
 have hs8 : W.heap.size + 1 < (w7.setCell ⟨W.heap.size + 1, 1, none⟩ (.slice ta tn tc)).heap.size := hx8.lt
 obtain ⟨w8, hw8⟩ : ∃ w8, w7.setCell ⟨W.heap.size + 1, 1, none⟩ (.slice ta tn tc) = w8 := ⟨_, rfl⟩
 rw [hw8] at hx8 HTS8 HB8 hs8 ⊢
 obtain ⟨y0, y1⟩ := hx8.g2
 clear hw8 HTS HX7 HB7
 have hw0 : IntKind.i64.wrap (m : Int) = (m : Int) := by rw [IntKind.wrap_i64]; omega
 have x10 : (m : Int) ≤ (c : Int) := by omega
 have x11 : (m : Int) ≤ (m : Int) + 2 := by omega
 apply region_ex2 (α := Nat → Value) (β := Value) (R := fun u v w' => Below W.heap.size W w' ∧ SL encStr 1 w' ta tn tc S ∧ w'.ownsRow w8.heap.size 264 2 v (m + 1) ((ps.take m).flatMap encPe ++ [.bool false, .slice ta tn tc]))
 · refine wp_region_held_drew (S := fun w' => w'.cell? ⟨W.heap.size + 1, 0, none⟩ = some (.bool false) ∧ w'.cell? ⟨W.heap.size + 1, 1, none⟩ = some (.slice ta tn tc)) (by kernel_rfl) ⟨y0, y1⟩ (fun hS => ?_)
   have hBd : Below w8.heap.size w8 w8.drew := (Below.refl _ _).drew
   refine takeN 1 (v := ?_) rfl (by kernel_rfl) (by rfl) (fun w hSw => ?_) (by assumption) ?_
   rotate_left
   focus ((try dsimp only at hSw); (try go_split_ands); go_simp; try with_reducible rfl)
   (try simp only [PS])
   refine takeN 2 (v := ?_) rfl (by kernel_rfl) (by rfl) (fun w hSw => ?_) (by assumption) ?_
   rotate_left
   focus ((try dsimp only at hSw); (try go_split_ands); go_simp; try with_reducible rfl)
   (try simp only [PS])
   refine takeN 3 (v := ?_) rfl (by kernel_rfl) (by rfl) (fun w hSw => ?_) (by assumption) ?_
   rotate_left
   focus ((try dsimp only at hSw); (try go_split_ands); go_simp; try with_reducible rfl)
   (try simp only [PS])
   refine takeN 4 (v := ?_) rfl (by kernel_rfl) (by rfl) (fun w hSw => ?_) (by assumption) ?_
   rotate_left
   focus ((try dsimp only at hSw); (try go_split_ands); go_simp; try with_reducible rfl)
   (try simp only [PS])
   refine takeN 6 (v := ?_) rfl (by kernel_rfl) (by rfl) (fun w hSw => ?_) (by assumption) ?_
   rotate_left
   focus ((try dsimp only at hSw); (try go_split_ands); go_simp; try with_reducible rfl)
   (try simp only [PS])
   refine wpAnyH_late [(0, 211), (5, 216), (7, 218)] (Fl w8.heap.size [(0, .e), (5, .r m ((ps.take m).flatMap encPe)), (7, .pp false (.slice ta tn tc))]) (f := 3) (fun _ => undef) (by (simp only [putL, Act.put, l_t, l_s, l_z, s_t, s_z, s_s])) (by kernel_rfl) (fun w w' h hb => ⟨(hb.cell (World.block_lt_of_cell? w _ h.1)).trans h.1, (hb.cell (World.block_lt_of_cell? w _ h.2)).trans h.2⟩) Fl.below hS ?_ ?_
   · (intro i hi; simp only [List.map_cons, List.map_nil, List.mem_cons, List.not_mem_nil, or_false] at hi)
     rcases hi with rfl | rfl | rfl
     · refine LateOp.of rfl rfl (by simp) (by decide) (fun u w A hA hS hB hd K hK => ?_)
       have hBx := hBd.trans (hB.mono hBd.size)
       refine step_value (v := .slice (some ⟨w.heap.size, 0, none⟩) 0 0) (w' := w.alloc (.cells #[] 264)) rfl (by rw [hA]; clear hA hd hK; (simp only [putL, Act.put, l_t, l_s, l_z, s_t, s_z, s_s]); go_simp) ?_
       exact hK.out _ _ ⟨_, rfl, OwnSL.made0 encPe 2 w _ w8.heap.size hBx.size⟩ (al0 _ _ _)
     · refine LateOp.of rfl rfl (by simp) (by decide) (fun u w A hA hS hB hd K hK => ?_)
       have hBx := hBd.trans (hB.mono hBd.size)
       obtain ⟨a0, e0, h0⟩ := hd 0 (by simp) (by kernel_rfl)
       rw [e0] at h0
       refine step_append_empty rfl _ _ 260 rfl w8.heap.size 264 i9 _ 2 32 Tryz.underlying260 hi9 hz90 hz91 hz92 rfl a0 h0 (by rw [hA]; (simp only [putL, Act.put, l_t, l_s, l_z, s_t, s_z, s_s]); exact e0) (some ⟨b, o, none⟩) m c ((ps.take m).flatMap encPe) (by rw [hA]; (simp only [putL, Act.put, l_t, l_s, l_z, s_t, s_z, s_s]); exact rfl) (fun h => by cases h) HFL.out (HFC.out w (HB8.out.on hBx)) (by unfold maxLen; omega) (by omega) hBx.size (fun v' w' h1 h2 => ?_)
       exact hK.out _ _ h1 h2
     · refine LateOp.of rfl rfl (by simp) (by decide) (fun u w A hA hS hB hd K hK => ?_)
       refine step_value (v := .slice (some ⟨w.heap.size, 0, none⟩) 1 1) (w' := w.alloc (.cells #[.bool false, .slice ta tn tc] 264)) rfl (by rw [hA]; clear hA hd hK; (simp only [putL, Act.put, l_t, l_s, l_z, s_t, s_z, s_s]); go_simp) ?_
       exact hK.out _ _ ⟨_, rfl, Box.new _ _ _⟩ (al0 _ _ _)
   · intro u w hS hB hF
     (simp only [putL, Act.put, l_t, l_s, l_z, s_t, s_z, s_s])
     have hBx := hBd.trans (hB.mono hBd.size)
     have hw2 : w.ownsRow w8.heap.size 264 2 (u 5) m ((ps.take m).flatMap encPe) := hF 5 (by simp)
     obtain ⟨g, e8, hg⟩ : Fk w8.heap.size (.pp false (.slice ta tn tc)) (u 7) w := hF 7 (by simp)
     have hnl := hw2.lt
     refine wpAnyH_ready (rs := [8]) (by kernel_rfl) (by simp) (AllReadyH.cons rfl (fun K hK => ?_) AllReadyH.nil)
     refine step_append_any rfl _ _ 260 rfl w8.heap.size 264 i9 _ 2 32 Tryz.underlying260 hi9 hz90 hz91 hz92 rfl (by decide) (u 5) m _ hw2 rfl (some ⟨g, 0, none⟩) 1 1 [.bool false, .slice ta tn tc] e8 (fun h => by cases h) rfl (fun ad e j x hx => by injection e with e; subst e; rw [Addr.add_mid, Nat.zero_add, hg.cell j]; simpa using hx) (by simp [Value.oneCell']) (by unfold maxLen; omega) (by omega) hBx.size ?_
     intro v' w9 hown' hgrow hfr
     have hB89 : Below w8.heap.size w8 w9 := hBx.grown hgrow hBx.size (fun q e => (hnl q e).1)
     refine hK.out _ _ ⟨(hB89.cell (World.block_lt_of_cell? w8 _ y0)).trans y0, (hB89.cell (World.block_lt_of_cell? w8 _ y1)).trans y1⟩ (fun hS => ?_)
     clear hK K
     (try simp only [PS])
     refine takeN 9 (v := ?_) rfl (by kernel_rfl) (by rfl) (fun w hSw => ?_) (by assumption) ?_
     rotate_left
     focus ((try dsimp only at hSw); (try go_split_ands); go_simp; try with_reducible rfl)
     (try simp only [PS])
     refine takeN 10 (v := ?_) rfl (by kernel_rfl) (by rfl) (fun w hSw => ?_) (by assumption) ?_
     rotate_left
     focus ((try dsimp only at hSw); (try go_split_ands); go_simp; try with_reducible rfl)
     (try simp only [PS])
     refine wpAnyH_done (by kernel_rfl) ?_ _
     exact ⟨rfl, u, v', rfl, HB8.out.on hB89, HTS8.out.below hB89, hown'⟩
 rintro u v w9 ⟨hB9, hs9, h2⟩
 have hpt := Prts.put (T := T + 6) (m := m) hB9 h2 HPM.out HTX.out hs9 (by have := HS3.out; have := HSUM.out; omega)
 rw [HST.out] at hpt
 obtain ⟨a', n', c', rfl, hP, hn'⟩ := hpt
 have HB9 := Lib.hid hB9
 have HP := Lib.hid hP
 clear hP h2 hs9 hB9
 go_wp2_with fail
 refine bodyPost_ret (v := .tuple #[.slice a' n' c', .bool true]) (by simp [results, Tryz.results164, go_sem]) rfl ⟨a', n', c', rfl, HB9.out, HP.out, by omega⟩
open Go.RowKit
theorem Prts.length {w : World} {a : Option Addr} {n c : Nat} {st : List Bool} {T : Nat} (h : Prts w a n c st T) : st.length = n := by
 obtain ⟨ps, h1, h2, _⟩ := h
 rw [← h2, List.length_map, h1.len]
theorem Prts.addr {w : World} {a : Option Addr} {n c : Nat} {st : List Bool} {T : Nat} (h : Prts w a n c st T) (hn : 0 < n) : ∃ b o, a = some ⟨b, o, none⟩ := by
 obtain ⟨ps, h1, _⟩ := h
 obtain ⟨b, o, e, _⟩ := h1.at' hn
 exact ⟨b, o, e⟩
theorem rpuc_any : RPuC := by
 intro a n c st T x W hP hn hT hx
 obtain ⟨op, nn⟩ := x
 simp only at hx ⊢
 have hl := hP.length
 by_cases h1 : op = 1
 · subst h1
   have key : Calls Tryz.prog 164 #[.slice a n c, .agg #[.int .i64 1, .int .i64 nn]] W fun e w' => ∃ a' n' c', e = .returned (.tuple #[.slice a' n' c', .bool (decide (0 ≤ nn ∧ nn ≤ 1048576))]) ∧ Below W.heap.size W w' ∧ Prts w' a' n' c' (st ++ [false]) (T + 6) ∧ n' ≤ n + 1 := by
    by_cases c1 : 0 ≤ nn
    · exact rpush1p a n c st T nn W hP hn hT hx c1
    · exact rpush1n a n c st T nn W hP hn hT hx c1
   refine key.mono ?_
   rintro e w' ⟨a', n', c', rfl, hb, h2, h3⟩
   by_cases c1 : 0 ≤ nn ∧ nn ≤ 1048576
   · have hp := push_one (w := ⟨1, nn⟩) hl (.inl ⟨rfl, c1⟩)
     rw [List.take_of_length_le (by omega)] at hp
     rw [decide_eq_true c1]
     refine ⟨a', n', c', by rw [hp]; rfl, hb, fun st' e => ?_⟩
     rw [hp] at e; injection e with e; subst e
     exact ⟨h2, h3⟩
   · have hp : pushB st ⟨1, nn⟩ = none := pushB_none (fun h => c1 h.2) (fun h => by simp at h) (fun h => by simp at h) (fun h => by simp at h)
     rw [decide_eq_false c1]
     refine ⟨a', n', c', by rw [hp]; rfl, hb, fun st' e => ?_⟩
     rw [hp] at e; cases e
 by_cases h2 : op = 2
 · subst h2
   by_cases c1 : 0 ≤ nn ∧ nn < 5
   · refine (rpush2g a n c st T nn W hP hn hT hx c1.1 c1.2).mono ?_
     rintro e w' ⟨a', n', c', rfl, hb, h2⟩
     have hp := push_one (w := ⟨2, nn⟩) hl (.inr ⟨rfl, c1⟩)
     rw [List.take_of_length_le (by omega)] at hp
     rw [decide_eq_true c1]
     refine ⟨a', n', c', by rw [hp]; rfl, hb, fun st' e => ?_⟩
     rw [hp] at e; injection e with e; subst e
     exact h2 c1
   · refine (rpush2b a n c st T nn W hP hn hT hx c1).mono ?_
     rintro e w' ⟨a', n', c', rfl, hb, _⟩
     have hp : pushB st ⟨2, nn⟩ = none := pushB_none (fun h => by simp at h) (fun h => c1 h.2) (fun h => by simp at h) (fun h => by simp at h)
     rw [decide_eq_false c1]
     refine ⟨a', n', c', by rw [hp]; rfl, hb, fun st' e => ?_⟩
     rw [hp] at e; cases e
 have bad : pushB st ⟨op, nn⟩ = none → (Calls Tryz.prog 164 #[.slice a n c, .agg #[.int .i64 op, .int .i64 nn]] W fun e w' => ∃ a' n' c', e = .returned (.tuple #[.slice a' n' c', .bool false]) ∧ Below W.heap.size W w') → Calls Tryz.prog 164 #[.slice a n c, .agg #[.int .i64 op, .int .i64 nn]] W fun e w' => ∃ a' n' c', e = .returned (.tuple #[.slice a' n' c', .bool (pushB st ⟨op, nn⟩).isSome]) ∧ Below W.heap.size W w' ∧ ∀ st', pushB st ⟨op, nn⟩ = some st' → Prts w' a' n' c' st' (T + 6) ∧ n' ≤ n + 1 := fun hp h => h.mono fun e w' ⟨a', n', c', he, hb⟩ => ⟨a', n', c', by rw [he, hp]; rfl, hb, fun st' e => by rw [hp] at e; cases e⟩
 by_cases h3 : nn ≠ 0 ∨ op < 3 ∨ 10 < op
 · exact bad (pushB_none (fun h => h1 h.1) (fun h => h2 h.1) (fun h => by obtain ⟨e1, e2, _⟩ := h; simp only at e1 e2; omega) (fun h => by obtain ⟨e1, e2, e3, _⟩ := h; simp only at e1 e2 e3; omega)) (rpushbad a n c st T op nn W hP h1 h2 h3)
 obtain rfl : nn = 0 := by omega
 by_cases h10 : op = 10
 · subst h10
   by_cases c1 : 3 ≤ n ∧ st[n - 3]? = some true ∧ st[n - 2]? = some false ∧ st[n - 1]? = some false
   · obtain ⟨c1, c2, c3, c4⟩ := c1
     obtain ⟨m, rfl⟩ : ∃ m, n = m + 3 := ⟨n - 3, by omega⟩
     rw [show m + 3 - 3 = m by omega] at c2
     rw [show m + 3 - 2 = m + 1 by omega] at c3
     rw [show m + 3 - 1 = m + 2 by omega] at c4
     obtain ⟨b, o, rfl⟩ := hP.addr (by omega)
     refine (rpush10 b o c m st T W hP hn hT c2 c3 c4).mono ?_
     rintro e w' ⟨a', n', c', rfl, hb, h2, h3⟩
     have hp := push_choose hl c2 ((plB_iff st).2 ⟨by omega, by rw [hl, show m + 3 - 2 = m + 1 by omega]; exact c3, by rw [hl, show m + 3 - 1 = m + 2 by omega]; exact c4⟩)
     refine ⟨a', n', c', by rw [hp]; rfl, hb, fun st' e => ?_⟩
     rw [hp] at e; injection e with e; subst e
     exact ⟨h2, by omega⟩
   · refine bad (pushB_none (fun h => by simp at h) (fun h => by simp at h) (fun h => c1 ?_) (fun h => by obtain ⟨_, e2, _⟩ := h; simp at e2)) (rpush10bad a n c st T W hP hn c1)
     obtain ⟨_, _, e3, e4, e5⟩ := h
     obtain ⟨_, e6, e7⟩ := (plB_iff st).1 e5
     rw [hl] at e3 e4 e6 e7
     exact ⟨by omega, e4, e6, e7⟩
 by_cases c1 : 2 ≤ n ∧ st[n - 2]? = some false ∧ st[n - 1]? = some false
 · obtain ⟨c1, c3, c4⟩ := c1
   obtain ⟨m, rfl⟩ : ∃ m, n = m + 2 := ⟨n - 2, by omega⟩
   rw [show m + 2 - 2 = m by omega] at c3
   rw [show m + 2 - 1 = m + 1 by omega] at c4
   obtain ⟨b, o, rfl⟩ := hP.addr (by omega)
   obtain ⟨j, rfl⟩ : ∃ j : Nat, op = (j : Int) := ⟨op.toNat, by omega⟩
   have hp := push_bin (j := j) hl (by omega) (by omega) ((plB_iff st).2 ⟨by omega, by rw [hl, show m + 2 - 2 = m by omega]; exact c3, by rw [hl, show m + 2 - 1 = m + 1 by omega]; exact c4⟩)
   have fin : ∀ cm : Bool, ((j : Int) == 9) = cm → (Calls Tryz.prog 164 #[.slice (some ⟨b, o, none⟩) (m + 2) c, .agg #[.int .i64 (j : Int), .int .i64 0]] W fun e w' => ∃ a' n' c', e = .returned (.tuple #[.slice a' n' c', .bool true]) ∧ Below W.heap.size W w' ∧ Prts w' a' n' c' (st.take m ++ [cm]) (T + 6) ∧ n' ≤ m + 3) → Calls Tryz.prog 164 #[.slice (some ⟨b, o, none⟩) (m + 2) c, .agg #[.int .i64 (j : Int), .int .i64 0]] W fun e w' => ∃ a' n' c', e = .returned (.tuple #[.slice a' n' c', .bool (pushB st ⟨(j : Int), 0⟩).isSome]) ∧ Below W.heap.size W w' ∧ ∀ st', pushB st ⟨(j : Int), 0⟩ = some st' → Prts w' a' n' c' st' (T + 6) ∧ n' ≤ m + 2 + 1 := fun cm hcm h => h.mono fun e w' ⟨a', n', c', he, hb, h2, h3⟩ => ⟨a', n', c', by rw [he, hp]; rfl, hb, fun st' e => by
    rw [hp, hcm] at e; injection e with e; subst e
    exact ⟨h2, by omega⟩⟩
   by_cases k7 : j = 7
   · subst k7; exact fin false rfl (rpush7 b o c m st T W hP hn hT c3 c4)
   by_cases k8 : j = 8
   · subst k8; exact fin false rfl (rpush8 b o c m st T W hP hn hT c3 c4)
   by_cases k9 : j = 9
   · subst k9; exact fin true rfl (rpush9 b o c m st T W hP hn hT c3 c4)
   exact fin false (by simp; omega) (rpush3 b o c m st T (j : Int) (by omega) (by omega) W hP hn hT c3 c4)
 · refine bad (pushB_none (fun h => h1 h.1) (fun h => h2 h.1) (fun h => h10 h.1) (fun h => c1 ?_)) (rpush3bad a n c st T op W hP hn (by omega) (by omega) c1)
   obtain ⟨_, _, _, e5⟩ := h
   obtain ⟨e6, e7, e8⟩ := (plB_iff st).1 e5
   rw [hl] at e6 e7 e8
   exact ⟨e6, e7, e8⟩
theorem rptC : RPtC := rptc_any rpuc_any
end Go.Proofs.YtehoidohallfcaaGreatDoor
