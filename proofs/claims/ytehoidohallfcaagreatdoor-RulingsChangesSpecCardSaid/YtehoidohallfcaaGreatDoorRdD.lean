/- The references' insertion into an increasing list of lists. -/
import Derived.Test.YtehoidohallfcaaGreatDoorRdAx
import Derived.Test.YtehoidohallfcaaGreatDoorNxX
namespace Go.Proofs.YtehoidohallfcaaGreatDoor
open Go.RowKit
def RetLL (W : World) (ll : List (List Int)) (e : Ending) (w' : World) : Prop := ∃ a n c, e = .returned (.slice a n c) ∧ Rows w' a n c ll ∧ Below W.heap.size W w'
theorem grown_own {w w' : World} {base : Nat} {v : Value} (hg : w.grownBy w' v.ownBlock) (hb : base ≤ w.heap.size) (hv : ∀ q, v.ownBlock = some q → base ≤ q) : Below base w w' := (Below.refl base w).grown hg hb hv
theorem new_one (w : World) (x : Value) (t : TypeId) : ∀ j u, [x][j]? = some u → (w.alloc (.cells #[x] t)).cell? (Addr.add ⟨w.heap.size, 0, none⟩ j) = some u := by
 intro j u hu
 have hb := Box.new w #[x] t
 have e : (Addr.add ⟨w.heap.size, 0, none⟩ j) = ⟨w.heap.size, j, none⟩ := by
  simp only [Addr.add]
  split
  · rename_i h0; rw [h0]
  · rw [Nat.zero_add]
 rw [e, hb.cell j]; simpa using hu
set_option maxRecDepth 20000 in
set_option maxHeartbeats 4000000 in
theorem rinto_any (a : Option Addr) (n c : Nat) (ll : List (List Int)) (xa : Option Addr) (xn xc : Nat) (x : List Int) (W : World) (h0 : Rows W a n c ll) (hx : Ints W xa xn xc x) (hl : ∀ y ∈ ll, y.length = xn) (hn : n ≤ 100000) (h00 : n = 0 → a = none ∧ c = 0) :
 Calls Tryz.prog 85 #[.slice a n c, .slice xa xn xc] W (RetLL W (intoL ll x)) := by
 obtain ⟨us, hE, hul, hc, hone⟩ := h0.els
 have HE := Lib.hid hE
 have HUL := Lib.hid hul
 have HC := Lib.hid hc
 have HONE := Lib.hid hone
 have HL := Lib.hid h0.len
 have mL := h0.mx
 have cL := h0.cap
 unfold maxLen at mL
 clear hE hul hc hone
 go_enter Tryz.func85, Tryz.ntmps85
 go_wp2_with fail
 go_loopw [5] (fun i wr => ∃ k : Nat, i = .int .i64 k ∧ k ≤ n ∧ Hid (∀ i y, i < k → ll[i]? = some y → ltP y x = true) ∧ Below W.heap.size W wr) (fun i _ => n - (intOf i).toNat)
 case atStart => exact ⟨0, rfl, by omega, Lib.hid (fun i y hi => by omega), Below.refl _ _⟩
 case round =>
  obtain ⟨k, rfl, hk, HA, hB⟩ := hrel
  have s0 : (0 : Int) ≤ (k : Int) := by omega
  by_cases hlt : k < n
  rotate_left
  · obtain rfl : n = k := by omega
    have HR : Hid (intoL ll x = ll.take n ++ x :: ll.drop n) := Lib.hid (by
     have h1 : atL x ll = n := atL_is HA.out (by rw [HL.out]; exact Nat.le_refl _) (fun z hz => by rw [List.getElem?_eq_none (by rw [HL.out]; exact Nat.le_refl _)] at hz; cases hz)
     unfold intoL
     rw [h1, if_neg (by rw [List.getElem?_eq_none (by rw [HL.out]; exact Nat.le_refl _)]; intro h; cases h)])
    obtain ⟨wz, hwz⟩ : ∃ wz, wz = wr := ⟨_, rfl⟩
    have HBZ : Hid (Below W.heap.size W wz) := Lib.hid (by rw [hwz]; exact hB)
    rw [← hwz]
    clear hwz hB
    rcases Nat.eq_zero_or_pos n with hz | hz
    · obtain ⟨rfl, rfl⟩ := h00 hz
      subst hz
      have HLN : Hid (ll = []) := Lib.hid (List.eq_nil_of_length_eq_zero HL.out)
      have HFIN : Hid (∀ (w6 : World) (a3 : Option Addr) (n3 c3 : Nat), n3 = 1 → w6.ownsRow wz.heap.size 22 1 (.slice a3 n3 c3) n3 (([] ++ [.slice xa xn xc]) ++ []) → Below wz.heap.size wz w6 → Rows w6 a3 n3 c3 (intoL ll x) ∧ Below W.heap.size W w6) := Lib.hid fun w6 a3 n3 c3 h3 h4 h5 => by
       have hb6 : Below W.heap.size W w6 := HBZ.out.trans (h5.mono HBZ.out.size)
       refine ⟨rows_of_own h4 ?_ ?_, hb6⟩
       · rw [HR.out, HLN.out]
         exact ElR.one (hx.below hb6)
       · rw [HR.out, HLN.out, h3]; rfl
      obtain ⟨i22, hi22, hz220, hz221, hz222⟩ := info_parts info_ints
      clear h00
      go_wp2_with (first | (at_builtin; (refine wpList_append_any rfl _ _ 106 rfl wz.heap.size 22 i22 _ 1 24 Tryz.underlying106 hi22 hz220 hz221 hz222 rfl (by decide) (.slice none 0 0) 0 [] (World.ownsRow_nil _ _ _ _) rfl none 0 0 [] rfl (fun _ => rfl) rfl (fun ad e => by cases e) (by simp) (by unfold maxLen; omega) (by omega) (by omega) ?_); intro v1 w4 h1 g1 f1; rw [Nat.zero_add, List.nil_append] at h1; obtain ⟨a1, c1, rfl, _, _⟩ := own_slice h1; have hB4 : Below wz.heap.size wz w4 := grown_own g1 (Nat.le_refl _) (fun q e => by cases e); have hs4 := hB4.size; have HO4 := Lib.hid (World.ownsRow.lt h1); clear g1 f1) | (at_builtin; (refine wpList_append_any rfl _ _ 106 rfl wz.heap.size 22 i22 _ 1 24 Tryz.underlying106 hi22 hz220 hz221 hz222 rfl (by decide) (.slice a1 0 c1) 0 [] (h1.alloc _) rfl (some ⟨w4.heap.size, 0, none⟩) 1 1 [.slice xa xn xc] rfl (fun h => by cases h) rfl (fun ad e => by injection e with e; rw [← e]; exact new_one _ _ _) (by simp [Value.oneCell']) (by unfold maxLen; omega) (by omega) (by simp; omega) ?_); intro v2 w5 h2 g2 f2; rw [Nat.zero_add] at h2; obtain ⟨a2, c2, rfl, _, _⟩ := own_slice h2; have hB5 : Below wz.heap.size wz w5 := (hB4.alloc hs4 _).grown g2 (by simp; omega) (fun q e => (HO4.out q e).1); have hs5 := hB5.size; have HO5 := Lib.hid (World.ownsRow.lt h2); clear g2 f2 h1 HO4) | (at_builtin; (refine wpList_append_any rfl _ _ 106 rfl wz.heap.size 22 i22 _ 1 24 Tryz.underlying106 hi22 hz220 hz221 hz222 rfl (by decide) (.slice a2 1 c2) 1 _ h2 rfl none 0 0 [] rfl (fun _ => rfl) rfl (fun ad e => by cases e) (by simp) (by unfold maxLen; omega) (by omega) (by omega) ?_); intro v3 w6 h3 g3 f3; obtain ⟨a3, c3, rfl, _, _⟩ := own_slice h3; have hB6 : Below wz.heap.size wz w6 := hB5.grown g3 hs5 (fun q e => (HO5.out q e).1); have HRES := Lib.hid (HFIN.out w6 a3 _ c3 rfl h3 hB6); clear g3 f3 h3 h2 HO5))
      go_ret
      exact ⟨_, _, _, rfl, HRES.out.1, HRES.out.2⟩
    obtain ⟨b, o, rfl, hb⟩ := h0.at' hz
    have HDN : Hid (us.drop n = []) := Lib.hid (List.drop_of_length_le (by rw [HUL.out]; exact Nat.le_refl _))
    rcases Nat.lt_or_ge n c with hnc | hnc
    · skip
      have hszz := HBZ.out.size
      have hcz : ∀ i u, us[i]? = some u → wz.cell? ⟨b, o + i, none⟩ = some u := fun i u hu => (HBZ.out.cell (p := ⟨b, o + i, none⟩) hb).trans (HC.out b o rfl i u hu)
      have HN1 : Hid (∀ ad, some (⟨b, o, none⟩ : Addr) = some ad → ∀ j u, (us.take n)[j]? = some u → wz.cell? (ad.add j) = some u) := Lib.hid fun ad e j u hu => by
       injection e with e
       subst e
       rw [List.getElem?_take] at hu
       split at hu
       · have := hcz j u hu
         rw [Addr.add_mid]; exact this
       · cases hu
      have HO1 : Hid (∀ u ∈ us.take n, u.oneCell' = true) := Lib.hid fun u hu => HONE.out u (List.mem_of_mem_take hu)
      have HO2 : Hid (∀ u ∈ us.drop n, u.oneCell' = true) := Lib.hid fun u hu => HONE.out u (List.mem_of_mem_drop hu)
      have HLT : Hid ((us.take n).length = n * 1) := Lib.hid (by rw [List.length_take, HUL.out]; omega)
      have HLD : Hid ((us.drop n).length = 0 * 1) := Lib.hid (by rw [List.length_drop, HUL.out]; omega)
      have HCZ := Lib.hid hcz
      have HCD : Hid (∀ w5 : World, Below wz.heap.size wz w5 → ∀ ad, some (⟨b, o + n, none⟩ : Addr) = some ad → ∀ j u, (us.drop n)[j]? = some u → w5.cell? (ad.add j) = some u) := Lib.hid fun w5 hb5 ad e j u hu => by
       injection e with e
       subst e
       rw [List.getElem?_drop] at hu
       rw [Addr.add_mid, Nat.add_assoc]
       exact (hb5.cell (p := ⟨b, o + (n + j), none⟩) (by show b < wz.heap.size; omega)).trans (HCZ.out (n + j) u hu)
      have HFIN : Hid (∀ (w6 : World) (a3 : Option Addr) (n3 c3 : Nat), n3 = n + 1 + 0 → w6.ownsRow wz.heap.size 22 1 (.slice a3 n3 c3) n3 ((us.take n ++ [.slice xa xn xc]) ++ us.drop n) → Below wz.heap.size wz w6 → Rows w6 a3 n3 c3 (intoL ll x) ∧ Below W.heap.size W w6) := Lib.hid fun w6 a3 n3 c3 h3 h4 h5 => by
       have hb6 : Below W.heap.size W w6 := HBZ.out.trans (h5.mono hszz)
       have hE6 := HE.out.below hb6
       refine ⟨rows_of_own h4 ?_ ?_, hb6⟩
       · rw [HR.out, show ll.take n ++ x :: ll.drop n = (ll.take n ++ [x]) ++ ll.drop n by simp]
         exact ((hE6.take n).app (ElR.one (hx.below hb6))).app (hE6.drop n)
       · rw [HR.out, h3, List.length_append, List.length_take, List.length_cons, List.length_drop, HL.out]
         omega
      obtain ⟨i22, hi22, hz220, hz221, hz222⟩ := info_parts info_ints
      clear hcz
      have s2 : (n : Int) ≤ (n : Int) := by omega
      go_wp2_with (first | (at_builtin; (refine wpList_append_any rfl _ _ 106 rfl wz.heap.size 22 i22 _ 1 24 Tryz.underlying106 hi22 hz220 hz221 hz222 rfl (by decide) (.slice none 0 0) 0 [] (World.ownsRow_nil _ _ _ _) rfl (some ⟨b, o, none⟩) n c (us.take n) rfl (fun h => by cases h) HLT.out HN1.out HO1.out (by unfold maxLen; omega) (by omega) (by omega) ?_); intro v1 w4 h1 g1 f1; rw [Nat.zero_add, List.nil_append] at h1; obtain ⟨a1, c1, rfl, _, _⟩ := own_slice h1; have hB4 : Below wz.heap.size wz w4 := grown_own g1 (Nat.le_refl _) (fun q e => by cases e); have hs4 := hB4.size; have HO4 := Lib.hid (World.ownsRow.lt h1); clear g1 f1) | (at_builtin; (refine wpList_append_any rfl _ _ 106 rfl wz.heap.size 22 i22 _ 1 24 Tryz.underlying106 hi22 hz220 hz221 hz222 rfl (by decide) (.slice a1 n c1) n (us.take n) (h1.alloc _) rfl (some ⟨w4.heap.size, 0, none⟩) 1 1 [.slice xa xn xc] rfl (fun h => by cases h) rfl (fun ad e => by injection e with e; rw [← e]; exact new_one _ _ _) (by simp [Value.oneCell']) (by unfold maxLen; omega) (by omega) (by simp; omega) ?_); intro v2 w5 h2 g2 f2; obtain ⟨a2, c2, rfl, _, _⟩ := own_slice h2; have hB5 : Below wz.heap.size wz w5 := (hB4.alloc hs4 _).grown g2 (by simp; omega) (fun q e => (HO4.out q e).1); have hs5 := hB5.size; have HO5 := Lib.hid (World.ownsRow.lt h2); clear g2 f2 h1 HO4) | (at_builtin; (refine wpList_append_any rfl _ _ 106 rfl wz.heap.size 22 i22 _ 1 24 Tryz.underlying106 hi22 hz220 hz221 hz222 rfl (by decide) (.slice a2 (n + 1) c2) (n + 1) _ h2 rfl (some ⟨b, o + n, none⟩) 0 (c - n) [] rfl (fun h => by cases h) rfl (fun ad e j u hu => by simp at hu) (by simp) (by unfold maxLen; omega) (by omega) (by omega) ?_); intro v3 w6 h3 g3 f3; obtain ⟨a3, c3, rfl, _, _⟩ := own_slice h3; have hB6 : Below wz.heap.size wz w6 := hB5.grown g3 hs5 (fun q e => (HO5.out q e).1); have HRES := Lib.hid (HFIN.out w6 a3 _ c3 rfl (by rw [HDN.out]; exact h3) hB6); clear g3 f3 h3 h2 HO5))
      go_ret
      exact ⟨_, _, _, rfl, HRES.out.1, HRES.out.2⟩
    · obtain rfl : n = c := by omega
      have hszz := HBZ.out.size
      have hcz : ∀ i u, us[i]? = some u → wz.cell? ⟨b, o + i, none⟩ = some u := fun i u hu => (HBZ.out.cell (p := ⟨b, o + i, none⟩) hb).trans (HC.out b o rfl i u hu)
      have HN1 : Hid (∀ ad, some (⟨b, o, none⟩ : Addr) = some ad → ∀ j u, (us.take n)[j]? = some u → wz.cell? (ad.add j) = some u) := Lib.hid fun ad e j u hu => by
       injection e with e
       subst e
       rw [List.getElem?_take] at hu
       split at hu
       · have := hcz j u hu
         rw [Addr.add_mid]; exact this
       · cases hu
      have HO1 : Hid (∀ u ∈ us.take n, u.oneCell' = true) := Lib.hid fun u hu => HONE.out u (List.mem_of_mem_take hu)
      have HO2 : Hid (∀ u ∈ us.drop n, u.oneCell' = true) := Lib.hid fun u hu => HONE.out u (List.mem_of_mem_drop hu)
      have HLT : Hid ((us.take n).length = n * 1) := Lib.hid (by rw [List.length_take, HUL.out]; omega)
      have HLD : Hid ((us.drop n).length = 0 * 1) := Lib.hid (by rw [List.length_drop, HUL.out]; omega)
      have HCZ := Lib.hid hcz
      have HCD : Hid (∀ w5 : World, Below wz.heap.size wz w5 → ∀ ad, some (⟨b, o + n, none⟩ : Addr) = some ad → ∀ j u, (us.drop n)[j]? = some u → w5.cell? (ad.add j) = some u) := Lib.hid fun w5 hb5 ad e j u hu => by
       injection e with e
       subst e
       rw [List.getElem?_drop] at hu
       rw [Addr.add_mid, Nat.add_assoc]
       exact (hb5.cell (p := ⟨b, o + (n + j), none⟩) (by show b < wz.heap.size; omega)).trans (HCZ.out (n + j) u hu)
      have HFIN : Hid (∀ (w6 : World) (a3 : Option Addr) (n3 c3 : Nat), n3 = n + 1 + 0 → w6.ownsRow wz.heap.size 22 1 (.slice a3 n3 c3) n3 ((us.take n ++ [.slice xa xn xc]) ++ us.drop n) → Below wz.heap.size wz w6 → Rows w6 a3 n3 c3 (intoL ll x) ∧ Below W.heap.size W w6) := Lib.hid fun w6 a3 n3 c3 h3 h4 h5 => by
       have hb6 : Below W.heap.size W w6 := HBZ.out.trans (h5.mono hszz)
       have hE6 := HE.out.below hb6
       refine ⟨rows_of_own h4 ?_ ?_, hb6⟩
       · rw [HR.out, show ll.take n ++ x :: ll.drop n = (ll.take n ++ [x]) ++ ll.drop n by simp]
         exact ((hE6.take n).app (ElR.one (hx.below hb6))).app (hE6.drop n)
       · rw [HR.out, h3, List.length_append, List.length_take, List.length_cons, List.length_drop, HL.out]
         omega
      obtain ⟨i22, hi22, hz220, hz221, hz222⟩ := info_parts info_ints
      clear hcz
      have s2 : (n : Int) ≤ (n : Int) := by omega
      go_wp2_with (first | (at_builtin; (refine wpList_append_any rfl _ _ 106 rfl wz.heap.size 22 i22 _ 1 24 Tryz.underlying106 hi22 hz220 hz221 hz222 rfl (by decide) (.slice none 0 0) 0 [] (World.ownsRow_nil _ _ _ _) rfl (some ⟨b, o, none⟩) n n (us.take n) rfl (fun h => by cases h) HLT.out HN1.out HO1.out (by unfold maxLen; omega) (by omega) (by omega) ?_); intro v1 w4 h1 g1 f1; rw [Nat.zero_add, List.nil_append] at h1; obtain ⟨a1, c1, rfl, _, _⟩ := own_slice h1; have hB4 : Below wz.heap.size wz w4 := grown_own g1 (Nat.le_refl _) (fun q e => by cases e); have hs4 := hB4.size; have HO4 := Lib.hid (World.ownsRow.lt h1); clear g1 f1) | (at_builtin; (refine wpList_append_any rfl _ _ 106 rfl wz.heap.size 22 i22 _ 1 24 Tryz.underlying106 hi22 hz220 hz221 hz222 rfl (by decide) (.slice a1 n c1) n (us.take n) (h1.alloc _) rfl (some ⟨w4.heap.size, 0, none⟩) 1 1 [.slice xa xn xc] rfl (fun h => by cases h) rfl (fun ad e => by injection e with e; rw [← e]; exact new_one _ _ _) (by simp [Value.oneCell']) (by unfold maxLen; omega) (by omega) (by simp; omega) ?_); intro v2 w5 h2 g2 f2; obtain ⟨a2, c2, rfl, _, _⟩ := own_slice h2; have hB5 : Below wz.heap.size wz w5 := (hB4.alloc hs4 _).grown g2 (by simp; omega) (fun q e => (HO4.out q e).1); have hs5 := hB5.size; have HO5 := Lib.hid (World.ownsRow.lt h2); clear g2 f2 h1 HO4) | (at_builtin; (refine wpList_append_any rfl _ _ 106 rfl wz.heap.size 22 i22 _ 1 24 Tryz.underlying106 hi22 hz220 hz221 hz222 rfl (by decide) (.slice a2 (n + 1) c2) (n + 1) _ h2 rfl (some ⟨b, o, none⟩) 0 0 [] rfl (fun h => by cases h) rfl (fun ad e j u hu => by simp at hu) (by simp) (by unfold maxLen; omega) (by omega) (by omega) ?_); intro v3 w6 h3 g3 f3; obtain ⟨a3, c3, rfl, _, _⟩ := own_slice h3; have hB6 : Below wz.heap.size wz w6 := hB5.grown g3 hs5 (fun q e => (HO5.out q e).1); have HRES := Lib.hid (HFIN.out w6 a3 _ c3 rfl (by rw [HDN.out]; exact h3) hB6); clear g3 f3 h3 h2 HO5))
      go_ret
      exact ⟨_, _, _, rfl, HRES.out.1, HRES.out.2⟩
  have s1 : (k : Int) < (n : Int) := by omega
  obtain ⟨b, o, rfl, hb⟩ := h0.at' (by omega)
  obtain ⟨y, hy⟩ : ∃ y, ll[k]? = some y := ⟨_, List.getElem?_eq_getElem (by rw [HL.out]; exact hlt)⟩
  obtain ⟨ya, yn, yc, hu, hI⟩ := HE.out.at' k y hy
  obtain rfl : yn = xn := by rw [← hI.len]; exact hl y (List.mem_of_getElem? hy)
  have e0 := (hB.cell (p := ⟨b, o + k, none⟩) hb).trans (HC.out b o rfl k _ hu)
  have HLS := Lib.hid (rless_any ya xa yn yc xc y x wr (hI.below hB) (hx.below hB))
  have HB := Lib.hid hB
  have HI := Lib.hid hI
  have HY := Lib.hid hy
  have HU := Lib.hid hu
  clear hB hI hy hu
  go_wp2_with fail
  refine HLS.out.mono ?_
  rintro e w2 ⟨rfl, hB2⟩
  have e0' := (hB2.cell (World.block_lt_of_cell? wr _ e0)).trans e0
  clear e0 HLS
  cases hyx : ltP y x
  rotate_left
  · have HN : Hid (∀ i y, i < k + 1 → ll[i]? = some y → ltP y x = true) := Lib.hid fun i z hi hz => by
     by_cases e : i = k
     · subst e; rw [HY.out] at hz; injection hz with hz; subst hz; exact hyx
     · exact HA.out i z (by omega) hz
    have HB3 := Lib.hid (HB.out.on hB2)
    clear hyx hB2
    go_wp2_with fail
    go_roundw
    case rel => exact ⟨k + 1, by go_num, by omega, HN, HB3.out⟩
    case measure => simp [intOf]; omega
  have HAT : Hid (atL x ll = k) := Lib.hid (atL_is HA.out (by rw [HL.out]; omega) (fun z hz => by rw [HY.out] at hz; injection hz with hz; subst hz; exact hyx))
  have HB3 := Lib.hid (HB.out.on hB2)
  clear hyx hB2
  have HSM := Lib.hid (same13_any ya xa yn yc yn xc y x w2 (HI.out.below HB3.out) (hx.below HB3.out))
  go_wp2_with fail
  refine HSM.out.mono ?_
  rintro e w3 ⟨rfl, q, rfl⟩
  by_cases hyx : y = x
  · rw [decide_eq_true hyx]
    have HR : Hid (intoL ll x = ll) := Lib.hid (by unfold intoL; rw [HAT.out, if_pos (by rw [HY.out, hyx])])
    clear hyx
    go_wp2_with fail
    go_ret
    exact ⟨_, _, _, rfl, by rw [HR.out]; exact h0.below (below_drewN HB3.out _), below_drewN HB3.out _⟩
  rw [decide_eq_false hyx]
  have HR : Hid (intoL ll x = ll.take k ++ x :: ll.drop k) := Lib.hid (by unfold intoL; rw [HAT.out, if_neg (by rw [HY.out]; intro h; injection h with h; exact hyx h)])
  clear hyx
  obtain ⟨wz, hwz⟩ : ∃ wz, w2.drewN q = wz := ⟨_, rfl⟩
  have HBZ : Hid (Below W.heap.size W wz) := Lib.hid (by rw [← hwz]; exact below_drewN HB3.out _)
  rw [hwz]
  clear hwz e0' HSM
  have hszz := HBZ.out.size
  have hcz : ∀ i u, us[i]? = some u → wz.cell? ⟨b, o + i, none⟩ = some u := fun i u hu => (HBZ.out.cell (p := ⟨b, o + i, none⟩) hb).trans (HC.out b o rfl i u hu)
  have HN1 : Hid (∀ ad, some (⟨b, o, none⟩ : Addr) = some ad → ∀ j u, (us.take k)[j]? = some u → wz.cell? (ad.add j) = some u) := Lib.hid fun ad e j u hu => by
   injection e with e
   subst e
   rw [List.getElem?_take] at hu
   split at hu
   · have := hcz j u hu
     rw [Addr.add_mid]; exact this
   · cases hu
  have HO1 : Hid (∀ u ∈ us.take k, u.oneCell' = true) := Lib.hid fun u hu => HONE.out u (List.mem_of_mem_take hu)
  have HO2 : Hid (∀ u ∈ us.drop k, u.oneCell' = true) := Lib.hid fun u hu => HONE.out u (List.mem_of_mem_drop hu)
  have HLT : Hid ((us.take k).length = k * 1) := Lib.hid (by rw [List.length_take, HUL.out]; omega)
  have HLD : Hid ((us.drop k).length = (n - k) * 1) := Lib.hid (by rw [List.length_drop, HUL.out]; omega)
  have HCZ := Lib.hid hcz
  have HCD : Hid (∀ w5 : World, Below wz.heap.size wz w5 → ∀ ad, some (⟨b, o + k, none⟩ : Addr) = some ad → ∀ j u, (us.drop k)[j]? = some u → w5.cell? (ad.add j) = some u) := Lib.hid fun w5 hb5 ad e j u hu => by
   injection e with e
   subst e
   rw [List.getElem?_drop] at hu
   rw [Addr.add_mid, Nat.add_assoc]
   exact (hb5.cell (p := ⟨b, o + (k + j), none⟩) (by show b < wz.heap.size; omega)).trans (HCZ.out (k + j) u hu)
  have HFIN : Hid (∀ (w6 : World) (a3 : Option Addr) (n3 c3 : Nat), n3 = k + 1 + (n - k) → w6.ownsRow wz.heap.size 22 1 (.slice a3 n3 c3) n3 ((us.take k ++ [.slice xa yn xc]) ++ us.drop k) → Below wz.heap.size wz w6 → Rows w6 a3 n3 c3 (intoL ll x) ∧ Below W.heap.size W w6) := Lib.hid fun w6 a3 n3 c3 h3 h4 h5 => by
   have hb6 : Below W.heap.size W w6 := HBZ.out.trans (h5.mono hszz)
   have hE6 := HE.out.below hb6
   refine ⟨rows_of_own h4 ?_ ?_, hb6⟩
   · rw [HR.out, show ll.take k ++ x :: ll.drop k = (ll.take k ++ [x]) ++ ll.drop k by simp]
     exact ((hE6.take k).app (ElR.one (hx.below hb6))).app (hE6.drop k)
   · rw [HR.out, h3, List.length_append, List.length_take, List.length_cons, List.length_drop, HL.out]
     omega
  obtain ⟨i22, hi22, hz220, hz221, hz222⟩ := info_parts info_ints
  clear hcz
  have s2 : (k : Int) ≤ (n : Int) := by omega
  go_wp2_with (first | (at_builtin; (refine wpList_append_any rfl _ _ 106 rfl wz.heap.size 22 i22 _ 1 24 Tryz.underlying106 hi22 hz220 hz221 hz222 rfl (by decide) (.slice none 0 0) 0 [] (World.ownsRow_nil _ _ _ _) rfl (some ⟨b, o, none⟩) k c (us.take k) rfl (fun h => by cases h) HLT.out HN1.out HO1.out (by unfold maxLen; omega) (by omega) (by omega) ?_); intro v1 w4 h1 g1 f1; rw [Nat.zero_add, List.nil_append] at h1; obtain ⟨a1, c1, rfl, _, _⟩ := own_slice h1; have hB4 : Below wz.heap.size wz w4 := grown_own g1 (Nat.le_refl _) (fun q e => by cases e); have hs4 := hB4.size; have HO4 := Lib.hid (World.ownsRow.lt h1); clear g1 f1) | (at_builtin; (refine wpList_append_any rfl _ _ 106 rfl wz.heap.size 22 i22 _ 1 24 Tryz.underlying106 hi22 hz220 hz221 hz222 rfl (by decide) (.slice a1 k c1) k (us.take k) (h1.alloc _) rfl (some ⟨w4.heap.size, 0, none⟩) 1 1 [.slice xa yn xc] rfl (fun h => by cases h) rfl (fun ad e => by injection e with e; rw [← e]; exact new_one _ _ _) (by simp [Value.oneCell']) (by unfold maxLen; omega) (by omega) (by simp; omega) ?_); intro v2 w5 h2 g2 f2; obtain ⟨a2, c2, rfl, _, _⟩ := own_slice h2; have hB5 : Below wz.heap.size wz w5 := (hB4.alloc hs4 _).grown g2 (by simp; omega) (fun q e => (HO4.out q e).1); have hs5 := hB5.size; have HO5 := Lib.hid (World.ownsRow.lt h2); clear g2 f2 h1 HO4) | (at_builtin; (refine wpList_append_any rfl _ _ 106 rfl wz.heap.size 22 i22 _ 1 24 Tryz.underlying106 hi22 hz220 hz221 hz222 rfl (by decide) (.slice a2 (k + 1) c2) (k + 1) _ h2 rfl (some ⟨b, o + k, none⟩) (n - k) (c - k) (us.drop k) rfl (fun h => by cases h) HLD.out (HCD.out _ hB5) HO2.out (by unfold maxLen; omega) (by omega) (by omega) ?_); intro v3 w6 h3 g3 f3; obtain ⟨a3, c3, rfl, _, _⟩ := own_slice h3; have hB6 : Below wz.heap.size wz w6 := hB5.grown g3 hs5 (fun q e => (HO5.out q e).1); have HRES := Lib.hid (HFIN.out w6 a3 _ c3 rfl h3 hB6); clear g3 f3 h3 h2 HO5))
  go_ret
  exact ⟨_, _, _, rfl, HRES.out.1, HRES.out.2⟩
end Go.Proofs.YtehoidohallfcaaGreatDoor
