/- The references' lists of places. -/
import Derived.Test.YtehoidohallfcaaGreatDoorRdEx
namespace Go.Proofs.YtehoidohallfcaaGreatDoor
open Go.RowKit
theorem flatTo_step {α β : Type} {f : α → List β} {l : List α} {k : Nat} {x : α} (h : l[k]? = some x) : (l.take (k + 1)).flatMap f = (l.take k).flatMap f ++ f x := by
 rw [takeF h, List.flatMap_append]; simp
theorem mapTo_step {α β : Type} {f : α → β} {l : List α} {k : Nat} {x : α} (h : l[k]? = some x) : (l.take (k + 1)).map f = (l.take k).map f ++ [f x] := by
 rw [takeF h, List.map_append]; rfl
theorem RowsB.readR {w : World} {base : Nat} {e : TypeId} {v : Value} {ll : List (List Int)} (h : RowsB w base e v ll) : ∃ a c, v = .slice a ll.length c ∧ Rows w a ll.length c ll := h.rows.rows
theorem posTo_ne {iv : Iv} {xs : List (List Int)} (h : xs ≠ []) : (posTo iv xs).length ≠ 0 := by
 intro h0
 obtain ⟨t, ht⟩ := List.exists_mem_of_ne_nil _ h
 have := ((posTo_inc iv xs).2 (placesL t)).2 ⟨t, ht, rfl⟩
 rw [List.eq_nil_of_length_eq_zero h0] at this
 cases this
theorem posTo_le (iv : Iv) : ∀ xs : List (List Int), (posTo iv xs).length ≤ xs.length := by
 have h : ∀ (xs o : List (List Int)), (xs.foldl (fun o t => intoL o (placesL t)) o).length ≤ o.length + xs.length := by
  intro xs
  induction xs with
  | nil => intro o; simp
  | cons t xs ih =>
   intro o
   rw [List.foldl_cons]
   have := ih (intoL o (placesL t))
   have := intoL_len o (placesL t)
   rw [List.length_cons]; omega
 intro xs
 have := h xs []
 simpa [posTo] using this
theorem posTo_each {iv : Iv} {xs : List (List Int)} {m : Nat} (h : ∀ t ∈ xs, t.length = m) : ∀ y ∈ posTo iv xs, y.length = m := fun y hy => by
 obtain ⟨t, ht, rfl⟩ := ((posTo_inc iv xs).2 y).1 hy
 rw [places_len, h t ht]
theorem ints_cells {w : World} {a : Option Addr} {n c : Nat} {l : List Int} (h : Ints w a n c l) : ∀ ad, a = some ad → ∀ j u, (l.map (Value.int .i64))[j]? = some u → w.cell? (ad.add j) = some u := by
 intro ad e j u hu
 rw [List.getElem?_map] at hu
 obtain ⟨x, hx, rfl⟩ := Option.map_eq_some_iff.1 hu
 have hj : j < n := by rw [← h.len]; exact (List.getElem?_eq_some_iff.1 hx).1
 obtain ⟨b, o, e2, _⟩ := h.at' (by omega)
 rw [e] at e2
 injection e2 with e2
 subst e2
 subst e
 rw [Addr.add_mid]
 exact h.get hx
theorem own_ints2 {w : World} {base n c : Nat} {e : TypeId} {a : Option Addr} {l : List Int} (h : w.ownsRow base e 1 (.slice a n c) n (l.map (Value.int .i64))) (hn : l.length = n) : Ints w a n c l := by
 have hO : OwnInts w base e (.slice a n c) l := by unfold OwnInts; rw [hn]; exact h
 obtain ⟨a', c', e1, hI⟩ := hO.ints
 injection e1 with x y z
 subst x z
 rw [hn] at hI; exact hI
theorem ints_one (l : List Int) : ∀ u ∈ l.map (Value.int .i64), u.oneCell' = true := fun u hu => by
 obtain ⟨x, _, rfl⟩ := List.mem_map.1 hu; rfl
set_option maxRecDepth 20000 in
set_option maxHeartbeats 4000000 in
theorem rpossible_any (al : Option Addr) (nl cl : Nat) (l : List Rs) (oa : Option Addr) (on oc : Nat) (own : List Int) (W : World) (h0 : SL encRs 6 W al nl cl l) (ho : Ints W oa on oc own) (hown : ∀ x ∈ own, 0 ≤ x ∧ x < l.length) (hiv : OkIv (ivOf l own)) (hon : on ≤ 4) :
 Calls Tryz.prog 84 #[.slice al nl cl, .slice oa on oc] W (RetLL W (posR (ivOf l own))) := by
 have HVL : Hid ((ivOf l own).length = on) := Lib.hid (by rw [ivOf_len, ho.len])
 have HIV := Lib.hid hiv
 have HOWN := Lib.hid hown
 obtain ⟨iv, hive⟩ : ∃ iv, ivOf l own = iv := ⟨_, rfl⟩
 have HIVE := Lib.hid hive
 have HALL := Lib.hid (fun i => allTo_len iv i)
 rw [hive] at HVL ⊢
 clear hiv hown hive
 have hbx := Box.new W #[.slice none 0 0] 22
 have hbb : Below W.heap.size W (W.alloc (.cells #[.slice none 0 0] 22)) := (Below.refl _ _).alloc (Nat.le_refl _) _
 have HR0 : Hid (Rows (W.alloc (.cells #[.slice none 0 0] 22)) (some ⟨W.heap.size, 0, none⟩) 1 1 (allTo iv 0)) := Lib.hid ⟨rfl, Nat.le_refl _, by simp [maxLen], fun _ => ⟨_, _, rfl, hbx.lt⟩, fun b o e i hi => by
  injection e with e; injection e with e1 e2; subst e1 e2
  obtain rfl : i = 0 := by omega
  exact ⟨none, 0, 0, by simp, Ints.nil _⟩⟩
 have HBB := Lib.hid hbb
 clear hbx hbb
 go_enter Tryz.func84, Tryz.ntmps84
 go_wp2_with fail
 go_loopw [5, 6] (fun u k wr => ∃ (i : Nat) (a : Option Addr) (n c : Nat), k = .int .i64 i ∧ i ≤ on ∧ u = .slice a n c ∧ Rows wr a n c (allTo iv i) ∧ Below W.heap.size W wr) (fun _ k _ => on - (intOf k).toNat)
 case atStart => exact ⟨0, _, 1, 1, rfl, by omega, rfl, HR0.out, HBB.out⟩
 case round =>
  clear HR0 HBB
  obtain ⟨i, a, n, c, rfl, hi, rfl, hR, hB⟩ := hrel
  have i0 : (0 : Int) ≤ (i : Int) := by omega
  have hnl := HALL.out i
  rw [hR.len, HVL.out] at hnl
  have hn1 : n ≤ 65536 := by
   have h1 : (on * on) ^ i ≤ 16 ^ i := Nat.pow_le_pow_left (by have := Nat.mul_le_mul hon hon; omega) i
   have h2 : 16 ^ i ≤ 16 ^ 4 := Nat.pow_le_pow_right (by omega) (by omega)
   have h3 : 16 ^ 4 = 65536 := by decide
   omega
  have HL := Lib.hid hR.len
  by_cases hio : i < on
  · have i1 : (i : Int) < (on : Int) := by omega
    have HTM := Lib.hid (rtimes_any al nl cl l oa on oc own i wr (h0.below hB) (ho.below hB) HOWN.out HIV.out hio (by omega))
    rw [HIVE.out] at HTM
    have HB := Lib.hid hB
    have HR := Lib.hid hR
    clear hB hR
    go_wp2_with fail
    refine HTM.out.mono ?_
    rintro e w1 ⟨vm, rfl, hOm, hB1⟩
    obtain ⟨ma, mc, rfl, hIm⟩ := hOm.ints
    have HTL := Lib.hid (tmL_len iv i)
    obtain ⟨ts, hts⟩ : ∃ ts, tmL iv i = ts := ⟨_, rfl⟩
    have HNX : Hid (allTo iv (i + 1) = (allTo iv i).flatMap fun x => ts.map fun t => x ++ [t]) := Lib.hid (by rw [← hts]; rfl)
    rw [hts] at hIm HTL ⊢
    obtain ⟨mn, hmn⟩ : ∃ mn, ts.length = mn := ⟨_, rfl⟩
    rw [hmn] at hIm HTL ⊢
    have hm16 : mn ≤ 16 := by have := HTL.out; rw [HVL.out] at this; have := Nat.mul_le_mul hon hon; omega
    obtain ⟨AL, hAL⟩ : ∃ AL, allTo iv i = AL := ⟨_, rfl⟩
    rw [hAL] at HR HL HNX
    have HALE := Lib.hid hAL
    replace HR := Lib.hid (HR.out.below hB1)
    replace HB := Lib.hid (HB.out.on hB1)
    have HIM := Lib.hid hIm
    have HMN := Lib.hid hmn
    have mR := HR.out.mx
    have cR := HR.out.cap
    have mM := hIm.mx
    have cM := hIm.cap
    unfold maxLen at mR mM
    clear hOm hB1 hIm hmn HTM hts hAL HTL
    go_wp2_with fail
    go_loopw [8, 9] (fun u k wr => ∃ q : Nat, k = .int .i64 q ∧ q ≤ n ∧ RowsB wr w1.heap.size 22 u ((AL.take q).flatMap fun x => ts.map fun t => x ++ [t]) ∧ Below w1.heap.size w1 wr) (fun _ k _ => n - (intOf k).toNat)
    case atStart => exact ⟨0, rfl, by omega, RowsB.nil _ _ _, Below.refl _ _⟩
    case round =>
     obtain ⟨q, rfl, hq, hN, hBq⟩ := hrel
     have q0 : (0 : Int) ≤ (q : Int) := by omega
     by_cases hqn : q < n
     rotate_left
     · obtain rfl : n = q := by omega
       rw [List.take_of_length_le (by rw [HL.out]; exact Nat.le_refl _), ← HNX.out] at hN
       obtain ⟨a2, c2, rfl, hR2⟩ := hN.readR
       have HR2 := Lib.hid hR2
       have HB2 := Lib.hid (HB.out.on hBq)
       clear hN hBq hR2
       go_wp2_with fail
       go_roundw
       case rel => exact ⟨i + 1, a2, _, c2, by go_num, by omega, rfl, HR2.out, HB2.out⟩
       case measure => simp [intOf]; omega
     have q1 : (q : Int) < (n : Int) := by omega
     obtain ⟨X, hX⟩ : ∃ X, AL[q]? = some X := ⟨_, List.getElem?_eq_getElem (by rw [HL.out]; exact hqn)⟩
     have HST := Lib.hid (flatTo_step (f := fun x => ts.map fun t => x ++ [t]) hX)
     obtain ⟨FM, hFM⟩ : ∃ FM, (AL.take q).flatMap (fun x => ts.map fun t => x ++ [t]) = FM := ⟨_, rfl⟩
     rw [hFM] at hN HST
     have hFMl : FM.length ≤ q * mn := by
      rw [← hFM]
      refine Nat.le_trans (flatMap_le (m := mn) fun x => by rw [List.length_map, HMN.out]; exact Nat.le_refl _) (Nat.mul_le_mul_right _ (by rw [List.length_take]; omega))
     have hFMb : FM.length ≤ 65536 * 16 := Nat.le_trans hFMl (Nat.mul_le_mul (by omega) hm16)
     have HXL : Hid (X.length = i) := Lib.hid (mem_allTo.1 (by rw [HALE.out]; exact List.mem_of_getElem? hX)).1
     obtain ⟨b, o, rfl, hb⟩ := HR.out.at' (by omega)
     obtain ⟨xa, xn, xc, hxc, hXI⟩ := HR.out.row b o rfl q hqn
     rw [hX] at hXI
     have HXC := Lib.hid hxc
     have HXI : Hid (Ints w1 xa xn xc X) := Lib.hid hXI
     have HN := Lib.hid hN
     have HBq := Lib.hid hBq
     clear hX hFM hxc hXI hN hBq
     go_wp2_with fail
     go_loopw [8, 10] (fun u k wr => ∃ j : Nat, k = .int .i64 j ∧ j ≤ mn ∧ RowsB wr w1.heap.size 22 u (FM ++ (ts.take j).map fun t => X ++ [t]) ∧ Below w1.heap.size w1 wr) (fun _ k _ => mn - (intOf k).toNat)
     case atStart => exact ⟨0, rfl, by omega, by simpa using HN.out, HBq.out⟩
     case round =>
      clear HN HBq
      obtain ⟨j, rfl, hj, hN, hBj⟩ := hrel
      have j0 : (0 : Int) ≤ (j : Int) := by omega
      by_cases hjn : j < mn
      rotate_left
      · obtain rfl : mn = j := by omega
        rw [List.take_of_length_le (by rw [HMN.out]; exact Nat.le_refl _), ← HST.out] at hN
        have HN := Lib.hid hN
        have HBj := Lib.hid hBj
        clear hN hBj
        go_wp2_with fail
        go_roundw
        case rel => exact ⟨q + 1, by go_num, by omega, HN.out, HBj.out⟩
        case measure => simp [intOf]; omega
      have j1 : (j : Int) < (mn : Int) := by omega
      obtain ⟨mb, mo, rfl, -⟩ := HIM.out.at' (by omega)
      obtain ⟨t, htt⟩ := HIM.out.has hjn
      have et := (HIM.out.below hBj).get htt
      have HS := Lib.hid (mapTo_step (f := fun t => X ++ [t]) htt)
      have hb1 := World.block_lt_of_cell? w1 _ HXC.out
      have exc := (hBj.cell (p := ⟨b, o + q, none⟩) hb1).trans HXC.out
      have hXI := HXI.out.below hBj
      have hxn : xn = i := by rw [← HXI.out.len]; exact HXL.out
      obtain ⟨PL, hPL⟩ : ∃ PL, FM ++ (ts.take j).map (fun t => X ++ [t]) = PL := ⟨_, rfl⟩
      have hPLl : PL.length ≤ 65536 * 16 + 16 := by
       rw [← hPL, List.length_append, List.length_map, List.length_take]; omega
      have HNX2 : Hid (FM ++ (ts.take (j + 1)).map (fun t => X ++ [t]) = PL ++ [X ++ [t]]) := Lib.hid (by rw [HS.out, ← List.append_assoc, hPL])
      rw [hPL] at hN
      obtain ⟨us, hus, hE⟩ := hN
      obtain ⟨na, nc, rfl, _, _⟩ := own_slice hus
      have HUL := Lib.hid (World.ownsRow.lt hus)
      have HUS := Lib.hid hus
      have HE := Lib.hid hE
      have HBj := Lib.hid hBj
      have hsj := HBj.out.size
      have HXN : Hid (xa = none → xn = 0) := Lib.hid fun e => by
       rcases Nat.eq_zero_or_pos xn with h | h
       · exact h
       · obtain ⟨b', o', e2, _⟩ := hXI.at' h; rw [e] at e2; cases e2
      have HXM : Hid ((X.map (Value.int .i64)).length = xn * 1) := Lib.hid (by rw [List.length_map, HXL.out, hxn]; omega)
      have HXC2 := Lib.hid (ints_cells hXI)
      have HXLn : Hid (X.length = xn) := Lib.hid (by rw [HXL.out, hxn])
      obtain ⟨N, hN⟩ : ∃ N, PL.length = N := ⟨_, rfl⟩
      rw [hN] at hPLl HUS HUL HE ⊢
      have HNL := Lib.hid hN
      have hxn4 : xn ≤ 4 := by omega
      clear hus hE hPL hN htt hXI hxn
      obtain ⟨i3, hi3, hz30, hz31, hz32⟩ := info_parts info_int
      obtain ⟨i22, hi22, hz220, hz221, hz222⟩ := info_parts info_ints
      go_wp2_with (first | (at_builtin; (refine wpList_append_any rfl _ _ 22 rfl wr.heap.size 3 i3 _ 1 8 Tryz.underlying22 hi3 hz30 hz31 hz32 rfl (by decide) (.slice none 0 0) 0 [] (World.ownsRow_nil _ _ _ _) rfl xa xn xc (X.map (Value.int .i64)) rfl HXN.out HXM.out HXC2.out (ints_one X) (by unfold maxLen; omega) (by omega) (by omega) ?_); intro v1 w4 h1 g1 f1; rw [Nat.zero_add, List.nil_append] at h1; obtain ⟨a1, c1, rfl, _, _⟩ := own_slice h1; have hB4 : Below wr.heap.size wr w4 := grown_own g1 (Nat.le_refl _) (fun q e => by cases e); have hs4 := hB4.size; have HO4 := Lib.hid (World.ownsRow.lt h1); have et4 := (hB4.cell (World.block_lt_of_cell? wr _ et)).trans et; clear g1 f1) | (at_builtin; (refine wpList_append_any rfl _ _ 22 rfl wr.heap.size 3 i3 _ 1 8 Tryz.underlying22 hi3 hz30 hz31 hz32 rfl (by decide) (.slice a1 xn c1) xn _ (h1.alloc _) rfl (some ⟨w4.heap.size, 0, none⟩) 1 1 [.int .i64 t] rfl (fun h => by cases h) rfl (fun ad e => by injection e with e; rw [← e]; exact new_one _ _ _) (by simp [Value.oneCell']) (by unfold maxLen; omega) (by omega) (by simp; omega) ?_); intro v2 w5 h2 g2 f2; obtain ⟨a2, c2, rfl, _, _⟩ := own_slice h2; have hB5 : Below wr.heap.size wr w5 := (hB4.alloc hs4 _).grown g2 (by simp; omega) (fun q e => (HO4.out q e).1); have hs5 := hB5.size; have HO5 := Lib.hid (World.ownsRow.lt h2); have H2 := Lib.hid h2; have hu5 := (ownsRow_below' HUS.out hB5).alloc (.cells #[.slice a2 (xn + 1) c2] 22); clear g2 f2 h1 h2) | (at_builtin; (refine wpList_append_any rfl _ _ 106 rfl w1.heap.size 22 i22 _ 1 24 Tryz.underlying106 hi22 hz220 hz221 hz222 rfl (by decide) (.slice na N nc) N us hu5 rfl (some ⟨w5.heap.size, 0, none⟩) 1 1 [.slice a2 (xn + 1) c2] rfl (fun h => by cases h) rfl (fun ad e => by injection e with e; rw [← e]; exact new_one _ _ _) (by simp [Value.oneCell']) (by unfold maxLen; omega) (by omega) (by simp; omega) ?_); intro v3 w6 h3 g3 f3))
      go_roundw
      case rel =>
       have hi2 : Ints w5 a2 (xn + 1) c2 (X ++ [t]) := own_ints2 (by rw [List.map_append]; exact H2.out) (by rw [List.length_append, HXLn.out]; rfl)
       have hbx5 := al0 w5 #[.slice a2 (xn + 1) c2] 22
       have hE6 : ElemsB (w5.alloc (.cells #[.slice a2 (xn + 1) c2] 22)) w1.heap.size (Value.slice na N nc).ownBlock us PL := HE.out.mono fun _ _ hu => (hu.below hB5).below hbx5
       refine ⟨j + 1, by go_num, by omega, ?_, ((HBj.out.on hB5).on hbx5).grown g3 (by have := HBj.out.size; simp; omega) (fun r e => (HUL.out r e).1)⟩
       rw [HNX2.out]
       refine RowsB.push hE6 (by rw [HNL.out]; exact h3) g3 f3 (hi2.below hbx5) fun _ => ⟨fun e => ?_, fun r e => ?_⟩
       · obtain ⟨b2, o2, e2, _⟩ := hi2.at' (by omega)
         subst e2
         have h7 := HO5.out b2 rfl
         have h8 := HUL.out b2 (by rw [← e]; rfl)
         omega
       · have := HO5.out r e
         omega
      case measure => simp [intOf]; omega
  · obtain rfl : on = i := by omega
    have HR := Lib.hid hR
    have HB := Lib.hid hB
    obtain ⟨AL, hAL⟩ : ∃ AL, allTo iv on = AL := ⟨_, rfl⟩
    rw [hAL] at HR HL
    have HALE := Lib.hid hAL
    have HPR : Hid (posTo iv AL = posR iv) := Lib.hid (by unfold posR; rw [HVL.out, hAL])
    have HEA : Hid (∀ t ∈ AL, t.length = on) := Lib.hid fun t ht => (mem_allTo.1 (by rw [hAL]; exact ht)).1
    have mR := HR.out.mx
    have cR := HR.out.cap
    unfold maxLen at mR
    obtain ⟨wo, hwo⟩ : ∃ wo, wo = wr := ⟨_, rfl⟩
    rw [← hwo] at HR HB ⊢
    clear hR hB hAL hwo
    go_wp2_with fail
    go_loopw [12, 13] (fun u k wr => ∃ (q : Nat) (a' : Option Addr) (n' c' : Nat), k = .int .i64 q ∧ q ≤ n ∧ u = .slice a' n' c' ∧ Rows wr a' n' c' (posTo iv (AL.take q)) ∧ (n' = 0 → a' = none ∧ c' = 0) ∧ Below wo.heap.size wo wr) (fun _ k _ => n - (intOf k).toNat)
    case atStart => exact ⟨0, none, 0, 0, rfl, by omega, rfl, ⟨rfl, Nat.le_refl _, by simp [maxLen], fun h => absurd h (by omega), fun _ _ e => by cases e⟩, fun _ => ⟨rfl, rfl⟩, Below.refl _ _⟩
    case round =>
     obtain ⟨q, a', n', c', rfl, hq, rfl, hP, hP0, hBq⟩ := hrel
     have q0 : (0 : Int) ≤ (q : Int) := by omega
     by_cases hqn : q < n
     rotate_left
     · obtain rfl : n = q := by omega
       rw [List.take_of_length_le (by rw [HL.out]; exact Nat.le_refl _), HPR.out] at hP
       have HP := Lib.hid hP
       have HBq := Lib.hid (HB.out.on hBq)
       clear hP hBq
       go_wp2_with fail
       go_ret
       exact ⟨_, _, _, rfl, HP.out, HBq.out⟩
     have q1 : (q : Int) < (n : Int) := by omega
     obtain ⟨X, hX⟩ : ∃ X, AL[q]? = some X := ⟨_, List.getElem?_eq_getElem (by rw [HL.out]; exact hqn)⟩
     have hXl := HEA.out X (List.mem_of_getElem? hX)
     have HNX : Hid (posTo iv (AL.take (q + 1)) = intoL (posTo iv (AL.take q)) (placesL X)) := Lib.hid (by rw [takeF hX, posTo_snoc])
     have HN0 : Hid ((posTo iv (AL.take (q + 1))).length ≠ 0) := Lib.hid (posTo_ne (fun e => by
      have := congrArg List.length e
      rw [List.length_take, HL.out] at this
      simp at this; omega))
     have hPl := posTo_le iv (AL.take q)
     rw [List.length_take, HL.out, hP.len] at hPl
     have hn' : n' ≤ 100000 := by omega
     obtain ⟨b, o, rfl, hb⟩ := HR.out.at' (by omega)
     obtain ⟨xa, xn, xc, hxc, hXI⟩ := HR.out.row b o rfl q hqn
     rw [hX] at hXI
     have hXI' : Ints wo xa xn xc X := hXI
     have exc := (hBq.cell (p := ⟨b, o + q, none⟩) hb).trans hxc
     have hxn : xn = on := by rw [← hXI'.len]; exact hXl
     have HPC := Lib.hid (places_any xa xn xc X wr (hXI'.below hBq) (by omega))
     have HEP : Hid (∀ y ∈ posTo iv (AL.take q), y.length = on) := Lib.hid (posTo_each fun t ht => HEA.out t (List.mem_of_mem_take ht))
     have HPXL : Hid ((placesL X).length = on) := Lib.hid (by rw [places_len, hXl])
     obtain ⟨PT, hPT⟩ : ∃ PT, posTo iv (AL.take q) = PT := ⟨_, rfl⟩
     rw [hPT] at hP HNX HEP
     have HP := Lib.hid hP
     have HP0 := Lib.hid hP0
     have HBq := Lib.hid hBq
     clear hX hXI hXI' hxc hPT hP hP0 hBq hXl hxn hPl
     go_wp2_with fail
     refine HPC.out.mono ?_
     rintro e w3 ⟨v3, rfl, hO3, hB3⟩
     obtain ⟨pa, pc, rfl, hI3⟩ := hO3.ints
     rw [HPXL.out] at hI3 ⊢
     have HIN := Lib.hid (rinto_any a' n' c' PT pa on pc (placesL X) w3 (HP.out.below hB3) hI3 HEP.out hn' HP0.out)
     have HB3 := Lib.hid (HBq.out.on hB3)
     clear hO3 hI3 hB3 exc HPC
     go_wp2_with fail
     refine HIN.out.mono ?_
     rintro e w4 ⟨a4, n4, c4, rfl, hR4, hB4⟩
     rw [← HNX.out] at hR4
     have HR4 := Lib.hid hR4
     have HB4 := Lib.hid (HB3.out.on hB4)
     clear hR4 hB4 HIN
     go_wp2_with fail
     go_roundw
     case rel => exact ⟨q + 1, a4, n4, c4, by go_num, by omega, rfl, HR4.out, fun e => absurd (HR4.out.len.trans e) HN0.out, HB4.out⟩
     case measure => simp [intOf]; omega
end Go.Proofs.YtehoidohallfcaaGreatDoor
