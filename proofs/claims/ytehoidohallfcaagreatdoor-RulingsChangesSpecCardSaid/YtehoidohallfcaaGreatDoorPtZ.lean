/- Contracts of points.Print and points.Check. -/
import Derived.Test.YtehoidohallfcaaGreatDoorPtQ
namespace Go.Proofs.YtehoidohallfcaaGreatDoor
open Go.RowKit
theorem print_any (a : Option Addr) (n c : Nat) (ws : List Wd) (W : World) (h0 : SL encW 2 W a n c ws) (ht : Tab W) : Calls Tryz.prog 71 #[.slice a n c] W fun e w' => ∃ s, RetB W (.tuple #[s, .int .i64 (ptE ws)]) e w' := by
 by_cases hn : 256 < n
 · have n0 : decide ((256 : Int) < (n : Int)) = true := by simp; omega
   have HE : Hid (ptE ws = 520) := Lib.hid (by unfold ptE okW; rw [h0.len, decide_eq_false (by omega)]; rfl)
   go_enter Tryz.func71, Tryz.ntmps71
   go_wp2_with fail
   refine bodyPost_ret (v := .tuple #[.string ⟨#[]⟩, .int .i64 520]) (by simp [results, Tryz.results71, go_sem]) rfl ?_
   exact ⟨_, by rw [HE.out], Below.refl _ _⟩
 have n0 : decide ((256 : Int) < (n : Int)) = false := by simp; omega
 have hn' : n ≤ 256 := by omega
 have HT := Lib.hid ht
 clear hn
 go_enter Tryz.func71, Tryz.ntmps71
 go_wp2_with fail
 refine (parts_any _ _ _ ws _ h0 hn').mono ?_
 rintro e w1 ⟨v, rfl, hB, hok⟩
 have HB := Lib.hid hB
 cases h : okW ws
 · have HE : Hid (ptE ws = 520) := Lib.hid (by unfold ptE; rw [h]; rfl)
   clear hok h
   go_wp2_with fail
   refine bodyPost_ret (v := .tuple #[.string ⟨#[]⟩, .int .i64 520]) (by simp [results, Tryz.results71, go_sem]) rfl ?_
   exact ⟨_, by rw [HE.out], HB.out⟩
 · obtain ⟨g, o, cc, p, rfl, hc, hsl, hk, hp⟩ := hok h
   have HE : Hid (ptE ws = 0) := Lib.hid (by unfold ptE; rw [h]; rfl)
   have HS := Lib.hid hsl
   have HK := Lib.hid hk
   clear hok h hsl hk hB
   go_wp2_with fail
   refine (text_any _ _ _ p.ts _ HS.out (by omega) (HT.out.below HB.out) HK.out).mono ?_
   rintro e w2 ⟨s, rfl, hB2⟩
   go_wp2_with fail
   refine bodyPost_ret (v := .tuple #[.string s, .int .i64 0]) (by simp [results, Tryz.results71, go_sem]) rfl ?_
   exact ⟨_, by rw [HE.out], HB.out.on hB2⟩
theorem ptC : PtC := by
 intro a n c l w h0 ht
 have HP := Lib.hid (print_any a n c l w h0 ht)
 go_enter Tryz.func47, Tryz.ntmps47
 go_wp2_with fail
 refine HP.out.mono ?_
 rintro e w1 ⟨s, rfl, hB⟩
 go_wp2_with fail
 go_ret
 exact ⟨rfl, hB⟩
open Go.RowKit
theorem no_wrong {inp : List Int} (h : ∀ x ∈ inp, 0 ≤ x ∧ x ≤ 1048576) : (inp.any fun x => decide (x < 0) || decide (1048576 < x)) = false := by
 rw [List.any_eq_false]
 intro x hx
 have := h x hx
 simp; omega
theorem stW_start (W : World) : StW ((W.alloc (.cells tabR 176)).alloc (.cells #[.slice none 0 0] 22)) W.heap.size (.slice none 0 0) [] where
 box := by have := Box.new (W.alloc (.cells tabR 176)) #[.slice none 0 0] 22; rw [World.size_alloc] at this; exact this
 own := OwnInts.nil _ _ _
 tab := (Box.new W tabR 176).alloc _
structure Wc (w : World) (X : Nat) (op nn : Int) : Prop where
 d0 : w.cell? ⟨X, 0, none⟩ = some (.int .i64 op)
 d1 : w.cell? ⟨X, 1, none⟩ = some (.int .i64 nn)
 lt : X < w.heap.size
theorem Wc.below {w w' : World} {X : Nat} {op nn : Int} (h : Wc w X op nn) (hb : Below w.heap.size w w') : Wc w' X op nn := ⟨(hb.cell (p := ⟨X, 0, none⟩) h.lt).trans h.d0, (hb.cell (p := ⟨X, 1, none⟩) h.lt).trans h.d1, Nat.lt_of_lt_of_le h.lt hb.size⟩
theorem Wc.grown {w w' : World} {X : Nat} {op nn : Int} {row : Option Nat} (h : Wc w X op nn) (hg : w.grownBy w' row) (hne : row ≠ some X) : Wc w' X op nn :=
 ⟨(World.cell?_of_block (w := w) (hg.block X h.lt (Ne.symm hne))).trans h.d0, (World.cell?_of_block (w := w) (hg.block X h.lt (Ne.symm hne))).trans h.d1, Nat.lt_of_lt_of_le h.lt hg.size⟩
theorem wc_of (w : World) (op nn : Int) : Wc (w.alloc (.cells #[.int .i64 op, .int .i64 nn] 91)) w.heap.size op nn := by
 have hn := Box.new w #[.int .i64 op, .int .i64 nn] 91
 exact ⟨hn.cell 0, hn.cell 1, hn.lt⟩
theorem Ints.atI {w : World} {b o n c i : Nat} {l : List Int} (h : Ints w (some ⟨b, o, none⟩) n c l) (hi : i < n) : w.cell? ⟨b, o + i, none⟩ = some (.int .i64 (l.getD i 0)) := by
 rw [h.cell b o rfl i hi, List.getD_eq_getElem?_getD]
theorem news1 (w : World) (x : Value) (t : TypeId) (s : Nat) (h : w.heap.size = s) : ∀ j u, [x][j]? = some u → (w.alloc (.cells #[x] t)).cell? ((⟨s, 0, none⟩ : Addr).add j) = some u := by subst h; exact cell_one_new w x t
set_option maxHeartbeats 8000000 in
set_option maxRecDepth 100000 in
theorem run_any (a : Option Addr) (n c : Nat) (ws : List Wd) (b : Option Addr) (d : Nat) (inp : List Int) (W : World) (hw : SL encW 2 W a n c ws) (hi : Ints W b 5 d inp) (hok : okW ws = true) (hin : ∀ x ∈ inp, 0 ≤ x ∧ x ≤ 1048576) (ht : Tab W) :
 Calls Tryz.prog 59 #[.slice a n c, .slice b 5 d] W fun e w' => RetB W (.tuple #[.int .i64 (runW ws inp), .int .i64 0]) e w' := by
 obtain ⟨i3, hi3, hz30, hz31, hz32⟩ := info_parts info_int
 have HE : Hid (ptE ws = 0) := Lib.hid (by unfold ptE; rw [hok]; rfl)
 have HN := Lib.hid (no_wrong hin)
 have HST0 := Lib.hid (okW_st hok)
 have HBD := Lib.hid (bd_of hin)
 have HL := Lib.hid hw.len
 have HIL := Lib.hid hi.len
 have hn256 : n ≤ 256 := by rw [← hw.len]; exact (okW_st hok).2
 obtain ⟨bi, oi, rfl, hbi⟩ := hi.at' (by omega)
 clear hok hin
 go_enter Tryz.func59, Tryz.ntmps59
 go_wp2_with fail
 refine (ptC _ _ _ ws _ hw ht).mono ?_
 rintro e w1 ⟨rfl, hB1⟩
 rw [HE.out]
 go_wp2_with fail
 refine (inputs_sl _).mono ?_
 rintro e w2 ⟨B2, rfl, hin', hB2⟩
 clear hin'
 have hi2 := hi.below (hB1.on hB2)
 go_wp2_with fail
 refine (int_contains 88 #[] _ _ _ inp (fun x => decide (x < 0) || decide (1048576 < x)) _ (enters_of Tryz.func88 (by kernel_rfl) rfl) hi2 (fun x W' _ => wrong_any x W')).mono ?_
 rintro e w3 ⟨rfl, hB3⟩
 rw [HN.out]
 have hA := (hB1.on hB2).on hB3
 clear hB1 hB2 hB3 hi2
 obtain ⟨wo, hwo⟩ : ∃ wo, wo = w3 := ⟨_, rfl⟩
 rw [← hwo] at hA ⊢
 clear hwo
 go_wp2_with fail
 go_loopw [34] (fun i wr => ∃ (k : Nat) (v : Value) (st : List Int), i = .int .i64 k ∧ k ≤ n ∧ StW wr wo.heap.size v st ∧ Hid (StP ws inp k st) ∧ Below wo.heap.size wo wr) (fun i _ => n - (intOf i).toNat)
 case atStart => exact ⟨0, _, [], rfl, by omega, stW_start wo, Lib.hid (stP_start ws inp), ((Below.refl _ _).alloc (Nat.le_refl _) _).alloc (by simp) _⟩
 case round =>
  obtain ⟨k, v, st, rfl, hk, hP, HS, hB⟩ := hrel
  have hl1 := hP.box.lt
  by_cases hlt : k < n
  rotate_left
  · obtain rfl : n = k := by omega
    have hkk : ws.length = n := HL.out
    have hS := HS.out
    rw [← hkk] at hS
    obtain ⟨y, rfl, hy⟩ := hS.done HST0.out.1
    have HY := Lib.hid hy
    obtain ⟨av, cv, rfl, hI⟩ := hP.own.ints
    have c0 := hP.box.cell 0
    simp only [List.getElem?_toArray, List.getElem?_cons_zero, List.length_singleton] at c0
    obtain ⟨g, o, rfl, hgl⟩ := hI.at' (by simp)
    have c1 := hI.atI (i := 0) (by simp)
    simp only [Nat.add_zero] at c1
    clear hI hP hS hy hkk
    go_wp2_with fail
    refine bodyPost_ret (v := .tuple #[.int .i64 (max 0 (min 1048576 y)), .int .i64 0]) (by simp [results, Tryz.results59, go_sem]) rfl ?_
    exact ⟨by rw [HY.out], hA.on hB⟩
  obtain ⟨b0, o0, rfl, hb0⟩ := hw.at' (by omega)
  obtain ⟨x, hX⟩ := hw.get hlt
  obtain ⟨op, nn⟩ := x
  obtain ⟨e0, e1⟩ := (hw.below (hA.on hB)).w2 hX
  have HX := Lib.hid hX
  have s0 : (0 : Int) ≤ (k : Int) := by omega
  have s1 : (k : Int) < (n : Int) := by omega
  have hstep := HS.out.step HST0.out.1 hX HBD.out
  have HSTEP := Lib.hid hstep
  have hle := HS.out.le
  obtain ⟨av, cv, rfl, hI⟩ := hP.own.ints
  have HIS := Lib.hid hI
  have hcase := HS.out.cases HST0.out.1 hX
  have hbx := al0 wr #[.int .i64 op, .int .i64 nn] 91
  have hwc := wc_of wr op nn
  obtain ⟨N, hN⟩ : ∃ N, st.length = N := ⟨_, rfl⟩
  rw [hN] at hle hP HIS hcase
  have HQ := Lib.hid hN
  have c1 := hP.box.cell 0
  have f1 := hP.box.frozen 0
  have c0 := hP.tab.lt
  simp only [List.getElem?_toArray, List.getElem?_cons_zero] at c1
  have HPR := Lib.hid hP
  have HBR := Lib.hid hB
  have HTK : Hid (st.take N = st) := Lib.hid (by rw [← hN]; exact List.take_length)
  have hin0 := hi.below ((hA.on hB).on hbx)
  obtain ⟨wx, hwx⟩ : ∃ wx, wr.alloc (.cells #[.int .i64 op, .int .i64 nn] 91) = wx := ⟨_, rfl⟩
  have hPx := hP.below hbx
  rw [hwx] at hbx hwc hin0 hPx
  have HWX := Lib.hid hwx
  have HP := Lib.hid hPx
  have HWC := Lib.hid hwc
  have HB : Hid (Below wo.heap.size wo wx) := Lib.hid (hB.on hbx)
  have HIN := Lib.hid hin0
  have hlx : wr.heap.size < wx.heap.size := hwc.lt
  clear hX hP hB hstep hI hbx hwx hN hwc hin0 hPx
  rcases hcase with h1 | ⟨h1, h2, h3⟩ | ⟨h1, h2⟩ | ⟨h1, h2, h3⟩
  · simp only at h1
    subst h1
    rw [push1] at HSTEP
    have HO : Hid (wr.ownsRow (wo.heap.size + 2) 3 1 (.slice av N cv) N ((st.take N).map (Value.int .i64))) := Lib.hid (ownI_take HPR.out.own (by rw [HQ.out]; exact Nat.le_refl _))
    as_aux_lemma =>
     go_wp2_with ((at_builtin; refine wpList_append_own2 _ rfl _ _ 22 rfl (wo.heap.size + 2) 3 i3 _ 1 8 Tryz.underlying22 hi3 hz30 hz31 hz32 rfl (by decide) _ _ _ ((HO.out.alloc _).alloc _) rfl ⟨_, 0, none⟩ 1 1 [.int .i64 nn] rfl rfl (news1 _ _ _ _ (by first | rfl | simp)) (by simp [Value.oneCell']) (by unfold maxLen; omega) (by omega) (by first | omega | (simp; omega)) ?_; intro v' w8 hown' hgrow hfr; obtain ⟨av', cv', rfl, _, _⟩ := own_slice hown'; obtain ⟨cq, fq, lq⟩ := StW.far ((HPR.out.below (al0 wr _ _)).below (al0 _ _ _)) hgrow))
     go_roundw
     case rel =>
      have hY := (HPR.out.below (al0 wr #[.int .i64 1, .int .i64 nn] 91)).below (al0 _ #[.int .i64 nn] 3)
      have hput := hY.put (m := N) (by rw [HQ.out]; exact Nat.le_refl _) hown' hgrow hfr
      rw [HTK.out] at hput
      have hBY : Below wo.heap.size wo _ := (HBR.out.on (al0 wr #[.int .i64 1, .int .i64 nn] 91)).on (al0 _ #[.int .i64 nn] 3)
      exact ⟨k + 1, _, _, by go_num, by omega, hput, HSTEP, (hBY.grown hgrow hBY.size (fun b e => by have := (hY.lt b e).1; omega)).setCell (by simp) _⟩
     case measure => simp [intOf]; omega
  · simp only at h1 h2 h3
    subst h1
    obtain ⟨j, rfl⟩ : ∃ j : Nat, nn = (j : Int) := ⟨nn.toNat, by omega⟩
    rw [push2, Int.toNat_natCast] at HSTEP
    have y1 : (0 : Int) ≤ (j : Int) := by omega
    have y2 : (j : Int) < 5 := by omega
    have hj5 : j < 5 := by omega
    have hinj := HIN.out.atI (i := j) hj5
    obtain ⟨xj, hxj⟩ : ∃ xj, inp.getD j 0 = xj := ⟨_, rfl⟩
    rw [hxj] at HSTEP hinj
    have HO : Hid (wx.ownsRow (wo.heap.size + 2) 3 1 (.slice av N cv) N ((st.take N).map (Value.int .i64))) := Lib.hid (ownI_take HP.out.own (by rw [HQ.out]; exact Nat.le_refl _))
    have HIJ := Lib.hid hinj
    clear hxj h2 h3 hinj
    as_aux_lemma =>
     go_wp2_with fail
     rw [HWX.out]
     clear c1 f1
     obtain ⟨d0, d1, _⟩ := HWC.out
     have c1 := HP.out.box.cell 0
     have f1 := HP.out.box.frozen 0
     have l1 := HP.out.box.lt
     simp only [List.getElem?_toArray, List.getElem?_cons_zero] at c1
     have hij := HIJ.out
     have HSA : Hid ((wx.alloc (.cells #[.int .i64 xj] 3)).cell? ⟨wo.heap.size + 1, 0, none⟩ = some (.slice av N cv) ∧ (wx.alloc (.cells #[.int .i64 xj] 3)).cell? ⟨wr.heap.size, 1, none⟩ = some (.int .i64 (j : Int)) ∧ (wx.alloc (.cells #[.int .i64 xj] 3)).cell? ⟨bi, oi + j, none⟩ = some (.int .i64 xj)) := Lib.hid ⟨(World.cell?_alloc_lt _ _ _ (World.block_lt_of_cell? wx _ c1)).trans c1, (World.cell?_alloc_lt _ _ _ (World.block_lt_of_cell? wx _ d1)).trans d1, (World.cell?_alloc_lt _ _ _ (World.block_lt_of_cell? wx _ hij)).trans hij⟩
     refine region_anyQ (fun w' => w'.cell? ⟨wo.heap.size + 1, 0, none⟩ = some (.slice av N cv) ∧ w'.cell? ⟨wr.heap.size, 1, none⟩ = some (.int .i64 (j : Int)) ∧ w'.cell? ⟨bi, oi + j, none⟩ = some (.int .i64 xj)) 7 (by kernel_rfl) ⟨c1, d1, hij⟩ (fun hS => ?_)
     refine AnyQ.take (i := 0) (v := ?_) rfl (by kernel_rfl) (by kernel_rfl) (by kernel_rfl) (by kernel_rfl) rfl (fun _ _ _ h => h) (Or.inl ⟨by rfl, ?_⟩) (by assumption) ?_
     rotate_left
     focus
      intro w hSw
      (try dsimp only at hSw)
      (try go_split_ands)
      go_simp
      try with_reducible rfl
     (try simp only [Act.put, l_t, l_z, s_t, s_z, s_s])
     refine AnyQ.take (i := 1) (v := ?_) rfl (by kernel_rfl) (by kernel_rfl) (by kernel_rfl) (by kernel_rfl) rfl (fun _ _ _ h => h) (Or.inl ⟨by rfl, ?_⟩) (by assumption) ?_
     rotate_left
     focus
      intro w hSw
      (try dsimp only at hSw)
      (try go_split_ands)
      go_simp
      try with_reducible rfl
     (try simp only [Act.put, l_t, l_s, l_z, s_t, s_z, s_s])
     refine AnyQ.take (i := 2) (v := ?_) rfl (by kernel_rfl) (by kernel_rfl) (by kernel_rfl) (by kernel_rfl) rfl (fun _ _ _ h => h) (Or.inl ⟨by rfl, ?_⟩) (by assumption) ?_
     rotate_left
     focus
      intro w hSw
      (try dsimp only at hSw)
      (try go_split_ands)
      go_simp
      try with_reducible rfl
     (try simp only [Act.put, l_t, l_s, l_z, s_t, s_z, s_s])
     refine AnyQ.take (i := 3) (v := ?_) rfl (by kernel_rfl) (by kernel_rfl) (by kernel_rfl) (by kernel_rfl) rfl (fun _ _ _ h => h) (Or.inl ⟨by rfl, ?_⟩) (by assumption) ?_
     rotate_left
     focus
      intro w hSw
      (try dsimp only at hSw)
      (try go_split_ands)
      go_simp
      try with_reducible rfl
     (try simp only [Act.put, l_t, l_s, l_z, s_t, s_z, s_s])
     refine AnyQ.take (i := 4) (v := ?_) rfl (by kernel_rfl) (by kernel_rfl) (by kernel_rfl) (by kernel_rfl) rfl (fun _ _ _ h => h) (Or.inl ⟨by rfl, ?_⟩) (by assumption) ?_
     rotate_left
     focus
      intro w hSw
      (try dsimp only at hSw)
      (try go_split_ands)
      go_simp
      try with_reducible rfl
     (try simp only [Act.put, l_t, l_s, l_z, s_t, s_z, s_s])
     refine AnyQ.take (i := 5) (v := ?_) rfl (by kernel_rfl) (by kernel_rfl) (by kernel_rfl) (by kernel_rfl) rfl (fun _ _ _ h => h) (Or.inl ⟨by rfl, ?_⟩) (by assumption) ?_
     rotate_left
     focus
      intro w hSw
      (try dsimp only at hSw)
      (try go_split_ands)
      go_simp
      try with_reducible rfl
     (try simp only [Act.put, l_t, l_s, l_z, s_t, s_z, s_s])
     refine AnyQ.one (i := 6) (by kernel_rfl) rfl (fun K hK => ?_)
     go_simp
     refine hK.out _ _ (fun _ => HSA.out) ?_
     clear hK K
     (try simp only [Act.put, l_t, l_s, l_z, s_t, s_z, s_s])
     refine AnyQ.one (i := 7) (by kernel_rfl) rfl (fun K hK => ?_)
     refine step_append_own2 rfl _ _ 22 rfl (wo.heap.size + 2) 3 i3 _ 1 8 Tryz.underlying22 hi3 hz30 hz31 hz32 rfl (by decide) _ _ _ ((ownsRow_drewN HO.out 1).alloc _) rfl ⟨_, 0, none⟩ 1 1 [.int .i64 xj] rfl rfl (news1 _ _ _ _ (by first | rfl | simp)) (by simp [Value.oneCell']) (by unfold maxLen; omega) (by omega) (by first | omega | (simp; omega)) ?_
     intro v' w8 hown' hgrow hfr
     obtain ⟨av', cv', rfl, _, _⟩ := own_slice hown'
     obtain ⟨cq, fq, lq⟩ := StW.far (HP.out.below ((Below.drewN0 wx 1).on (al0 (wx.drewN 1) #[.int .i64 xj] 3))) hgrow
     refine hK.out _ _ (fun h => absurd ((show _ = true from by kernel_rfl).symm.trans h) (by simp)) ?_
     clear hK K
     (try simp only [Act.put, l_t, l_s, l_z, s_t, s_z, s_s])
     refine AnyQ.one (i := 8) (by kernel_rfl) rfl (fun K hK => ?_)
     go_simp
     refine hK.out _ _ (fun h => absurd ((show _ = true from by kernel_rfl).symm.trans h) (by simp)) ?_
     clear hK K
     (try simp only [Act.put, l_t, l_s, l_z, s_t, s_z, s_s])
     refine AnyQ.done (by kernel_rfl) ?_ _
     go_wp2_with fail
     go_roundw
     case rel =>
      have hb2 : Below wx.heap.size wx ((wx.drewN 1).alloc (.cells #[.int .i64 xj] 3)) := (Below.drewN0 wx 1).on (al0 (wx.drewN 1) #[.int .i64 xj] 3)
      have hY := HP.out.below hb2
      have hput := hY.put (m := N) (by rw [HQ.out]; exact Nat.le_refl _) hown' hgrow hfr
      rw [HTK.out] at hput
      have hBY := HB.out.on hb2
      exact ⟨k + 1, _, _, by go_num, by omega, hput, HSTEP, (hBY.grown hgrow hBY.size (fun b e => by have := (hY.lt b e).1; omega)).setCell (by simp) _⟩
     case measure => simp [intOf]; omega
  · simp only at h1 h2
    subst h1
    rw [push3, HQ.out] at HSTEP
    obtain ⟨m, rfl⟩ : ∃ m, N = m + 3 := ⟨N - 3, by omega⟩
    rw [show m + 3 - 3 = m by omega, show m + 3 - 2 = m + 1 by omega, show m + 3 - 1 = m + 2 by omega] at HSTEP
    obtain ⟨z0, hz0⟩ : ∃ z0, st.getD m 0 = z0 := ⟨_, rfl⟩
    obtain ⟨z1, hz1⟩ : ∃ z1, st.getD (m + 1) 0 = z1 := ⟨_, rfl⟩
    obtain ⟨z2, hz2⟩ : ∃ z2, st.getD (m + 2) 0 = z2 := ⟨_, rfl⟩
    rw [hz0, hz1, hz2] at HSTEP
    have HZ0 : Hid ((st.take (m + 1)).getD m 0 = z0) := Lib.hid (by rw [← hz0]; simp [List.getD_eq_getElem?_getD])
    have HZ1 : Hid ((st.take (m + 2)).getD (m + 1) 0 = z1) := Lib.hid (by rw [← hz1]; simp [List.getD_eq_getElem?_getD])
    have HZ2 := Lib.hid hz2
    clear hz0 hz1 hz2 h2
    have HQ4 : Hid ((st.take (m + 2)).length = m + 1 + 1) := Lib.hid (by rw [List.length_take, HQ.out]; omega)
    have HQ5 : Hid ((st.take (m + 1)).length = m + 1) := Lib.hid (by rw [List.length_take, HQ.out]; omega)
    have HT5 : Hid ((st.take (m + 2)).take (m + 1) = st.take (m + 1)) := Lib.hid (by rw [List.take_take]; congr 1; omega)
    have HT6 : Hid ((st.take (m + 1)).take m = st.take m) := Lib.hid (by rw [List.take_take]; congr 1; omega)
    obtain ⟨l6, hl6⟩ : ∃ l6, st.take m = l6 := ⟨_, rfl⟩
    have HL6 : Hid (l6.length = m) := Lib.hid (by rw [← hl6, List.length_take, HQ.out]; omega)
    have HTK6 : Hid (l6.take m = l6) := Lib.hid (by rw [List.take_of_length_le]; rw [HL6.out]; exact Nat.le_refl _)
    rw [hl6] at HT6 HSTEP
    clear hl6
    as_aux_lemma =>
     go_wp2_with fail
     rw [HWX.out]
     clear c1 f1
     obtain ⟨d0, d1, _⟩ := HWC.out
     have c1 := HP.out.box.cell 0
     have f1 := HP.out.box.frozen 0
     have l1 := HP.out.box.lt
     simp only [List.getElem?_toArray, List.getElem?_cons_zero] at c1
     refine (pop_any _ _ _ _ (m + 2) HP.out HQ.out).mono ?_
     rintro e w4 ⟨v4, rfl, h4, g4, -⟩
     rw [HZ2.out]
     have H4 := Lib.hid h4
     clear h4 c1 f1 l1 d0 d1
     go_wp2_with fail
     refine (pop_any _ _ _ _ (m + 1) H4.out HQ4.out).mono ?_
     rintro e w5 ⟨v5, rfl, h5, g5, -⟩
     rw [HZ1.out]
     rw [HT5.out] at h5
     have H5 := Lib.hid h5
     clear h5
     go_wp2_with fail
     refine (pop_any _ _ _ _ m H5.out HQ5.out).mono ?_
     rintro e w6 ⟨v6, rfl, h6, g6, -⟩
     rw [HZ0.out]
     rw [HT6.out] at h6
     have hB6 : Below wo.heap.size wo w6 := ((HB.out.grown g4 HB.out.size (fun b e => by injection e with e; omega)).grown g5 (by have := HB.out.size; have := g4.size; omega) (fun b e => by injection e with e; omega)).grown g6 (by have := HB.out.size; have := g4.size; have := g5.size; omega) (fun b e => by injection e with e; omega)
     have HB6 := Lib.hid hB6
     obtain ⟨a6, cc6, rfl, hI6⟩ := h6.own.ints
     rw [HL6.out] at hI6 h6
     have H6 := Lib.hid h6
     have c1 := h6.box.cell 0
     have f1 := h6.box.frozen 0
     have l1 := h6.box.lt
     simp only [List.getElem?_toArray, List.getElem?_cons_zero] at c1
     have HO6 : Hid (w6.ownsRow (wo.heap.size + 2) 3 1 (.slice a6 m cc6) m ((l6.take m).map (Value.int .i64))) := Lib.hid (ownI_take h6.own (by rw [HL6.out]; exact Nat.le_refl _))
     clear hB6 h6 hI6 g4 g5 g6
     by_cases hz : z0 = 0
     · have gz : (z0 != 0) = false := by simpa using hz
       rw [if_neg (fun h => h hz)] at HSTEP
       clear hz
       go_wp2_with ((at_builtin; refine wpList_append_own2 _ rfl _ _ 22 rfl (wo.heap.size + 2) 3 i3 _ 1 8 Tryz.underlying22 hi3 hz30 hz31 hz32 rfl (by decide) _ _ _ (HO6.out.alloc _) rfl ⟨_, 0, none⟩ 1 1 [.int .i64 z2] rfl rfl (news1 _ _ _ _ (by first | rfl | simp)) (by simp [Value.oneCell']) (by unfold maxLen; omega) (by omega) (by first | omega | (simp; omega)) ?_; intro v' w8 hown' hgrow hfr; obtain ⟨av', cv', rfl, _, _⟩ := own_slice hown'; obtain ⟨cq, fq, lq⟩ := StW.far (H6.out.below (al0 w6 _ _)) hgrow))
       go_roundw
       case rel =>
        have hY := H6.out.below (al0 w6 #[.int .i64 z2] 3)
        have hput := hY.put (m := m) (by rw [HL6.out]; exact Nat.le_refl _) hown' hgrow hfr
        rw [HTK6.out] at hput
        have hBY : Below wo.heap.size wo _ := HB6.out.on (al0 w6 #[.int .i64 z2] 3)
        exact ⟨k + 1, _, _, by go_num, by omega, hput, HSTEP, (hBY.grown hgrow hBY.size (fun b e => by have := (hY.lt b e).1; omega)).setCell (by simp) _⟩
       case measure => simp [intOf]; omega
     · have gz : (z0 != 0) = true := by simpa using hz
       rw [if_pos hz] at HSTEP
       clear hz
       go_wp2_with ((at_builtin; refine wpList_append_own2 _ rfl _ _ 22 rfl (wo.heap.size + 2) 3 i3 _ 1 8 Tryz.underlying22 hi3 hz30 hz31 hz32 rfl (by decide) _ _ _ (HO6.out.alloc _) rfl ⟨_, 0, none⟩ 1 1 [.int .i64 z1] rfl rfl (news1 _ _ _ _ (by first | rfl | simp)) (by simp [Value.oneCell']) (by unfold maxLen; omega) (by omega) (by first | omega | (simp; omega)) ?_; intro v' w8 hown' hgrow hfr; obtain ⟨av', cv', rfl, _, _⟩ := own_slice hown'; obtain ⟨cq, fq, lq⟩ := StW.far (H6.out.below (al0 w6 _ _)) hgrow))
       go_roundw
       case rel =>
        have hY := H6.out.below (al0 w6 #[.int .i64 z1] 3)
        have hput := hY.put (m := m) (by rw [HL6.out]; exact Nat.le_refl _) hown' hgrow hfr
        rw [HTK6.out] at hput
        have hBY : Below wo.heap.size wo _ := HB6.out.on (al0 w6 #[.int .i64 z1] 3)
        exact ⟨k + 1, _, _, by go_num, by omega, hput, HSTEP, (hBY.grown hgrow hBY.size (fun b e => by have := (hY.lt b e).1; omega)).setCell (by simp) _⟩
       case measure => simp [intOf]; omega
  · simp only at h1 h2 h3
    obtain ⟨m, rfl⟩ : ∃ m, N = m + 2 := ⟨N - 2, by omega⟩
    obtain ⟨j, rfl⟩ : ∃ j : Nat, op = (j : Int) := ⟨op.toNat, by omega⟩
    have j3 : 3 ≤ j := by omega
    have j10 : j < 10 := by omega
    rw [push4 _ _ _ _ h1 h2, HQ.out, show m + 2 - 2 = m by omega, show m + 2 - 1 = m + 1 by omega] at HSTEP
    obtain ⟨z0, hz0⟩ : ∃ z0, st.getD m 0 = z0 := ⟨_, rfl⟩
    obtain ⟨z1, hz1⟩ : ∃ z1, st.getD (m + 1) 0 = z1 := ⟨_, rfl⟩
    rw [hz0, hz1] at HSTEP
    have hbd0 : BdX z0 := by rw [← hz0]; exact HS.out.bd.getD _
    have hbd1 : BdX z1 := by rw [← hz1]; exact HS.out.bd.getD _
    obtain ⟨f, htf, hen, hfo⟩ := tabR_get j3 j10
    have HCF : Hid (∀ W' : World, Calls Tryz.prog f #[.int .i64 z0, .int .i64 z1] W' (Int1 (opI j z0 z1) W')) := Lib.hid fun W' => hfo z0 z1 W' hbd0 hbd1
    obtain ⟨r, hr⟩ : ∃ r, opI (j : Int) z0 z1 = r := ⟨_, rfl⟩
    rw [hr] at HSTEP HCF
    have HZ0 : Hid ((st.take (m + 1)).getD m 0 = z0) := Lib.hid (by rw [← hz0]; simp [List.getD_eq_getElem?_getD])
    have HZ1 : Hid (st.getD (m + 1) 0 = z1) := Lib.hid hz1
    have HTF := Lib.hid htf
    have HQ4 : Hid (st.length = m + 1 + 1) := HQ
    have HQ5 : Hid ((st.take (m + 1)).length = m + 1) := Lib.hid (by rw [List.length_take, HQ.out]; omega)
    have HT6 : Hid ((st.take (m + 1)).take m = st.take m) := Lib.hid (by rw [List.take_take]; congr 1; omega)
    obtain ⟨l6, hl6⟩ : ∃ l6, st.take m = l6 := ⟨_, rfl⟩
    have HL6 : Hid (l6.length = m) := Lib.hid (by rw [← hl6, List.length_take, HQ.out]; omega)
    have HTK6 : Hid (l6.take m = l6) := Lib.hid (by rw [List.take_of_length_le]; rw [HL6.out]; exact Nat.le_refl _)
    rw [hl6] at HT6 HSTEP
    have g1 : ((j : Int) == 1) = false := by simp; omega
    have g2 : ((j : Int) == 2) = false := by simp; omega
    have g3 : ((j : Int) == 10) = false := by simp; omega
    have y1 : (0 : Int) ≤ (j : Int) := by omega
    have y2 : (j : Int) < 10 := by omega
    clear hl6 hz0 hz1 hr hbd0 hbd1 htf hfo h1 h2 h3
    unfold Enters at hen
    as_aux_lemma =>
     go_wp2_with fail
     rw [HWX.out]
     clear c1 f1
     obtain ⟨d0, d1, _⟩ := HWC.out
     have c1 := HP.out.box.cell 0
     have f1 := HP.out.box.frozen 0
     have l1 := HP.out.box.lt
     simp only [List.getElem?_toArray, List.getElem?_cons_zero] at c1
     refine (pop_any _ _ _ _ (m + 1) HP.out HQ4.out).mono ?_
     rintro e w5 ⟨v5, rfl, h5, g5, -⟩
     rw [HZ1.out]
     have H5 := Lib.hid h5
     clear h5 c1 f1 l1 d0 d1
     go_wp2_with fail
     refine (pop_any _ _ _ _ m H5.out HQ5.out).mono ?_
     rintro e w6 ⟨v6, rfl, h6, g6, -⟩
     rw [HZ0.out]
     rw [HT6.out] at h6
     have hB6 : Below wo.heap.size wo w6 := (HB.out.grown g5 HB.out.size (fun b e => by injection e with e; omega)).grown g6 (by have := HB.out.size; have := g5.size; omega) (fun b e => by injection e with e; omega)
     have HB6 := Lib.hid hB6
     have hwc6 := (HWC.out.grown g5 (by intro e; injection e with e; omega)).grown g6 (by intro e; injection e with e; omega)
     obtain ⟨d0, d1, _⟩ := hwc6
     have ct := h6.tab.cell j
     rw [HTF.out] at ct
     obtain ⟨a6, cc6, rfl, hI6⟩ := h6.own.ints
     rw [HL6.out] at hI6 h6
     have H6 := Lib.hid h6
     have c1 := h6.box.cell 0
     have f1 := h6.box.frozen 0
     have l1 := h6.box.lt
     simp only [List.getElem?_toArray, List.getElem?_cons_zero] at c1
     have HO6 : Hid (w6.ownsRow (wo.heap.size + 2) 3 1 (.slice a6 m cc6) m ((l6.take m).map (Value.int .i64))) := Lib.hid (ownI_take h6.own (by rw [HL6.out]; exact Nat.le_refl _))
     clear hB6 h6 hI6 g5 g6
     go_wp2_with fail
     have HSA : Hid ((w6.alloc (.cells #[.int .i64 r] 3)).cell? ⟨wo.heap.size + 1, 0, none⟩ = some (.slice a6 m cc6) ∧ (w6.alloc (.cells #[.int .i64 r] 3)).cell? ⟨wr.heap.size, 0, none⟩ = some (.int .i64 (j : Int)) ∧ (w6.alloc (.cells #[.int .i64 r] 3)).cell? ⟨wo.heap.size, j, none⟩ = some (.func (.func f) #[] #[])) := Lib.hid ⟨(World.cell?_alloc_lt _ _ _ (World.block_lt_of_cell? w6 _ c1)).trans c1, (World.cell?_alloc_lt _ _ _ (World.block_lt_of_cell? w6 _ d0)).trans d0, (World.cell?_alloc_lt _ _ _ (World.block_lt_of_cell? w6 _ ct)).trans ct⟩
     refine region_anyQ (fun w' => w'.cell? ⟨wo.heap.size + 1, 0, none⟩ = some (.slice a6 m cc6) ∧ w'.cell? ⟨wr.heap.size, 0, none⟩ = some (.int .i64 (j : Int)) ∧ w'.cell? ⟨wo.heap.size, j, none⟩ = some (.func (.func f) #[] #[])) 9 (by kernel_rfl) ⟨c1, d0, ct⟩ (fun hS => ?_)
     refine AnyQ.take (i := 0) (v := ?_) rfl (by kernel_rfl) (by kernel_rfl) (by kernel_rfl) (by kernel_rfl) rfl (fun _ _ _ h => h) (Or.inl ⟨by rfl, ?_⟩) (by assumption) ?_
     rotate_left
     focus
      intro w hSw
      (try dsimp only at hSw)
      (try go_split_ands)
      go_simp
      try with_reducible rfl
     (try simp only [Act.put, l_t, l_z, s_t, s_z, s_s])
     refine AnyQ.take (i := 1) (v := ?_) rfl (by kernel_rfl) (by kernel_rfl) (by kernel_rfl) (by kernel_rfl) rfl (fun _ _ _ h => h) (Or.inl ⟨by rfl, ?_⟩) (by assumption) ?_
     rotate_left
     focus
      intro w hSw
      (try dsimp only at hSw)
      (try go_split_ands)
      go_simp
      try with_reducible rfl
     (try simp only [Act.put, l_t, l_s, l_z, s_t, s_z, s_s])
     refine AnyQ.take (i := 2) (v := ?_) rfl (by kernel_rfl) (by kernel_rfl) (by kernel_rfl) (by kernel_rfl) rfl (fun _ _ _ h => h) (Or.inl ⟨by rfl, ?_⟩) (by assumption) ?_
     rotate_left
     focus
      intro w hSw
      (try dsimp only at hSw)
      (try go_split_ands)
      go_simp
      try with_reducible rfl
     (try simp only [Act.put, l_t, l_s, l_z, s_t, s_z, s_s])
     refine AnyQ.take (i := 3) (v := ?_) rfl (by kernel_rfl) (by kernel_rfl) (by kernel_rfl) (by kernel_rfl) rfl (fun _ _ _ h => h) (Or.inl ⟨by rfl, ?_⟩) (by assumption) ?_
     rotate_left
     focus
      intro w hSw
      (try dsimp only at hSw)
      (try go_split_ands)
      go_simp
      try with_reducible rfl
     (try simp only [Act.put, l_t, l_s, l_z, s_t, s_z, s_s])
     refine AnyQ.take (i := 4) (v := ?_) rfl (by kernel_rfl) (by kernel_rfl) (by kernel_rfl) (by kernel_rfl) rfl (fun _ _ _ h => h) (Or.inl ⟨by rfl, ?_⟩) (by assumption) ?_
     rotate_left
     focus
      intro w hSw
      (try dsimp only at hSw)
      (try go_split_ands)
      go_simp
      try with_reducible rfl
     (try simp only [Act.put, l_t, l_s, l_z, s_t, s_z, s_s])
     refine AnyQ.take (i := 5) (v := ?_) rfl (by kernel_rfl) (by kernel_rfl) (by kernel_rfl) (by kernel_rfl) rfl (fun _ _ _ h => h) (Or.inl ⟨by rfl, ?_⟩) (by assumption) ?_
     rotate_left
     focus
      intro w hSw
      (try dsimp only at hSw)
      (try go_split_ands)
      go_simp
      try with_reducible rfl
     (try simp only [Act.put, l_t, l_s, l_z, s_t, s_z, s_s])
     refine AnyQ.take (i := 6) (v := ?_) rfl (by kernel_rfl) (by kernel_rfl) (by kernel_rfl) (by kernel_rfl) rfl (fun _ _ _ h => h) (Or.inl ⟨by rfl, ?_⟩) (by assumption) ?_
     rotate_left
     focus
      intro w hSw
      (try dsimp only at hSw)
      (try go_split_ands)
      go_simp
      try with_reducible rfl
     (try simp only [Act.put, l_t, l_s, l_z, s_t, s_z, s_s])
     refine AnyQ.one (i := 7) (by kernel_rfl) rfl (fun K hK => ?_)
     go_simp
     refine (HCF.out _).mono ?_
     rintro e w7 ⟨rfl, rfl⟩
     refine hK.out _ _ (fun _ => hS) ?_
     clear hK K
     (try simp only [Act.put, l_t, l_s, l_z, s_t, s_z, s_s])
     refine AnyQ.one (i := 8) (by kernel_rfl) rfl (fun K hK => ?_)
     go_simp
     refine hK.out _ _ (fun _ => HSA.out) ?_
     clear hK K
     (try simp only [Act.put, l_t, l_s, l_z, s_t, s_z, s_s])
     refine AnyQ.one (i := 9) (by kernel_rfl) rfl (fun K hK => ?_)
     refine step_append_own2 rfl _ _ 22 rfl (wo.heap.size + 2) 3 i3 _ 1 8 Tryz.underlying22 hi3 hz30 hz31 hz32 rfl (by decide) _ _ _ ((ownsRow_drewN HO6.out 1).alloc _) rfl ⟨_, 0, none⟩ 1 1 [.int .i64 r] rfl rfl (news1 _ _ _ _ (by first | rfl | simp)) (by simp [Value.oneCell']) (by unfold maxLen; omega) (by omega) (by first | omega | (simp; omega)) ?_
     intro v' w8 hown' hgrow hfr
     obtain ⟨av', cv', rfl, _, _⟩ := own_slice hown'
     obtain ⟨cq, fq, lq⟩ := StW.far (H6.out.below ((Below.drewN0 w6 1).on (al0 (w6.drewN 1) #[.int .i64 r] 3))) hgrow
     refine hK.out _ _ (fun h => absurd ((show _ = true from by kernel_rfl).symm.trans h) (by simp)) ?_
     clear hK K
     (try simp only [Act.put, l_t, l_s, l_z, s_t, s_z, s_s])
     refine AnyQ.one (i := 10) (by kernel_rfl) rfl (fun K hK => ?_)
     go_simp
     refine hK.out _ _ (fun h => absurd ((show _ = true from by kernel_rfl).symm.trans h) (by simp)) ?_
     clear hK K
     (try simp only [Act.put, l_t, l_s, l_z, s_t, s_z, s_s])
     refine AnyQ.done (by kernel_rfl) ?_ _
     go_wp2_with fail
     go_roundw
     case rel =>
      have hb2 : Below w6.heap.size w6 ((w6.drewN 1).alloc (.cells #[.int .i64 r] 3)) := (Below.drewN0 w6 1).on (al0 (w6.drewN 1) #[.int .i64 r] 3)
      have hY := H6.out.below hb2
      have hput := hY.put (m := m) (by rw [HL6.out]; exact Nat.le_refl _) hown' hgrow hfr
      rw [HTK6.out] at hput
      have hBY := HB6.out.on hb2
      exact ⟨k + 1, _, _, by go_num, by omega, hput, HSTEP, (hBY.grown hgrow hBY.size (fun b e => by have := (hY.lt b e).1; omega)).setCell (by simp) _⟩
     case measure => simp [intOf]; omega
end Go.Proofs.YtehoidohallfcaaGreatDoor
