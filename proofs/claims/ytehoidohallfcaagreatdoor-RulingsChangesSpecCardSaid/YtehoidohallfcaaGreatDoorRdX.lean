/- The references' Run of a scoring program, out of the contract of Check. -/
import Derived.Test.YtehoidohallfcaaGreatDoorRdOx
namespace Go.Proofs.YtehoidohallfcaaGreatDoor
open Go.RowKit
set_option maxRecDepth 20000 in
set_option maxHeartbeats 4000000 in
theorem rrun52_any (hpt : RPtC) (a : Option Addr) (n c : Nat) (l : List Wd) (ia : Option Addr) (ic : Nat) (inp : List Int) (W : World) (h0 : SL encW 2 W a n c l) (hn : n ≤ 30) (hwr : WdR l) (hi : Ints W ia 5 ic inp) (hin : ∀ x ∈ inp, 0 ≤ x ∧ x ≤ 1048576) (hok : okW l = true) :
 Calls Tryz.prog 125 #[.slice a n c, .slice ia 5 ic] W fun e w' => e = .returned (.tuple #[.int .i64 (runW l inp), .int .i64 0]) ∧ Below W.heap.size W w' := by
 obtain ⟨i3, hi3, hz30, hz31, hz32⟩ := info_parts info_int
 have HPE : Hid (ptE l = 0) := Lib.hid (by unfold ptE; rw [hok]; rfl)
 have HPT := Lib.hid (hpt a n c l W h0 hn hwr)
 have HST0 := Lib.hid (okW_st hok)
 have HBD := Lib.hid (bd_of hin)
 have HIN := Lib.hid hin
 have HL := Lib.hid h0.len
 have HIL := Lib.hid hi.len
 clear hpt hok hin hwr
 go_enter Tryz.func125, Tryz.ntmps125
 go_wp2_with fail
 refine HPT.out.mono ?_
 rintro e w1 ⟨rfl, hB1⟩
 rw [HPE.out]
 have h1 := h0.below hB1
 have hi1 := hi.below hB1
 have HB1 := Lib.hid hB1
 clear hB1 HPT HPE
 go_wp2_with fail
 go_loopw [6] (fun i wr => ∃ k : Nat, i = .int .i64 k ∧ k ≤ 5 ∧ w1 = wr) (fun i _ => 5 - (intOf i).toNat)
 case atStart => exact ⟨0, rfl, by omega, rfl⟩
 case round =>
  obtain ⟨k, rfl, hk, rfl⟩ := hrel
  have s0 : (0 : Int) ≤ (k : Int) := by omega
  by_cases hlt : k < 5
  · have s1 : (k : Int) < 5 := by omega
    obtain ⟨b, o, rfl, hb⟩ := hi1.at' (by omega)
    obtain ⟨z, hz⟩ := hi1.has hlt
    have e0 := hi1.get hz
    have hzb := HIN.out z (List.mem_of_getElem? hz)
    have g1 : decide (z < 0) = false := by simp; omega
    have g2 : decide (1048576 < z) = false := by simp; omega
    clear hz hzb
    go_wp2_with fail
    go_roundw
    case rel => exact ⟨k + 1, by go_num, by omega, trivial⟩
    case measure => simp [intOf]; omega
  obtain rfl : k = 5 := by omega
  clear hlt hk s0
  go_wp2_with fail
  go_loopw [7, 8] (fun u i wx => ∃ (k : Nat) (st : List Int), i = .int .i64 k ∧ k ≤ n ∧ OwnInts wx w1.heap.size 3 u st ∧ Hid (StP l inp k st) ∧ Below w1.heap.size w1 wx) (fun _ i _ => n - (intOf i).toNat)
  case atStart => exact ⟨0, [], rfl, by omega, OwnInts.nil _ _ _, Lib.hid (stP_start _ _), Below.refl _ _⟩
  case round =>
   obtain ⟨k, st, rfl, hk, hO, HS, hB⟩ := hrel
   have s0 : (0 : Int) ≤ (k : Int) := by omega
   have hsz := hB.size
   by_cases hlt : k < n
   rotate_left
   · obtain rfl : n = k := by omega
     have hS := HS.out
     have hkk : l.length = n := HL.out
     rw [← hkk] at hS
     obtain ⟨y, rfl, hy⟩ := hS.done HST0.out.1
     have HY := Lib.hid hy
     obtain ⟨av, cv, rfl, hI⟩ := hO.ints
     obtain ⟨g, o, rfl, hgl⟩ := hI.at' (by simp)
     have c1 := hI.get (i := 0) (x := y) rfl
     simp only [Nat.add_zero] at c1
     have HB2 := Lib.hid (HB1.out.on hB)
     clear hI hO hS hy hkk HS hB
     go_wp2_with fail
     all_goals
      refine bodyPost_ret (v := .tuple #[.int .i64 (runW l inp), .int .i64 0]) (by rw [HY.out]; simp [results, Tryz.results125, go_sem]; try omega) rfl ⟨rfl, HB2.out⟩
   have s1 : (k : Int) < (n : Int) := by omega
   obtain ⟨b, o, rfl, hb⟩ := h1.at' (by omega)
   obtain ⟨x, hX⟩ := h1.get hlt
   obtain ⟨op, nn⟩ := x
   obtain ⟨e0, e1⟩ := (h1.below hB).w2 hX
   have HSTEP := Lib.hid (HS.out.step HST0.out.1 hX HBD.out)
   have hcase := HS.out.cases HST0.out.1 hX
   have hle := HS.out.le
   have hol := hO.lt
   have HOL := Lib.hid hol
   obtain ⟨N, hN⟩ : ∃ N, st.length = N := ⟨_, rfl⟩
   unfold OwnInts at hO
   rw [hN] at hO hcase hle
   obtain ⟨av, cv, rfl, _, _⟩ := own_slice hO
   have hI := own_ints2 hO hN
   have HQ := Lib.hid hN
   have HBX := Lib.hid hB
   have HIX := Lib.hid hI
   clear hN hB hX hol hI
   obtain ⟨wo, hwo⟩ : ∃ wo, wo = w1 := ⟨_, rfl⟩
   rcases hcase with h1' | ⟨h1', h2', h3'⟩ | ⟨h1', h2'⟩ | ⟨h1', h2', h3'⟩
   · simp only at h1'
     subst h1'
     rw [push1] at HSTEP
     go_wp2_with (first | (at_builtin; (refine wpList_append_any rfl _ _ 22 rfl w1.heap.size 3 i3 _ 1 8 Tryz.underlying22 hi3 hz30 hz31 hz32 rfl (by decide) (.slice av N cv) N (st.map (Value.int .i64)) (hO.alloc _) rfl (some ⟨wr.heap.size, 0, none⟩) 1 1 [.int .i64 nn] rfl (fun h => by cases h) rfl (fun ad e => by injection e with e; rw [← e]; exact new_one _ _ _) (by simp [Value.oneCell']) (by unfold maxLen; omega) (by omega) (by simp; omega) ?_); intro v' w4 hh gg ff))
     go_roundw
     case rel =>
      iterate 89 apply Exists.intro
      refine ⟨?_, rfl⟩
      exact ⟨k + 1, _, by go_num, by omega, by unfold OwnInts; rw [List.length_append, HQ.out, List.map_append]; exact hh, HSTEP, (HBX.out.alloc hsz _).grown gg (by simp; omega) (fun q e => (HOL.out q e).1)⟩
     case measure => simp [intOf]; omega
   · simp only at h1' h2' h3'
     subst h1'
     obtain ⟨j, rfl⟩ : ∃ j : Nat, nn = (j : Int) := ⟨nn.toNat, by omega⟩
     rw [push2, Int.toNat_natCast] at HSTEP
     have hj5 : j < 5 := by omega
     obtain ⟨z, hz⟩ := (hi1.below HBX.out).has hj5
     have hgz : inp.getD j 0 = z := by rw [List.getD_eq_getElem?_getD, hz]; rfl
     rw [hgz] at HSTEP
     obtain ⟨ib, io, rfl, hib⟩ := hi1.at' (by omega)
     have ez := (hi1.below HBX.out).get hz
     have y0 : (0 : Int) ≤ (j : Int) := by omega
     have y1 : (j : Int) < 5 := by omega
     clear hz hgz h2' h3'
     go_wp2_with (first | (at_builtin; (refine wpList_append_any rfl _ _ 22 rfl w1.heap.size 3 i3 _ 1 8 Tryz.underlying22 hi3 hz30 hz31 hz32 rfl (by decide) (.slice av N cv) N (st.map (Value.int .i64)) (hO.alloc _) rfl (some ⟨wr.heap.size, 0, none⟩) 1 1 [.int .i64 z] rfl (fun h => by cases h) rfl (fun ad e => by injection e with e; rw [← e]; exact new_one _ _ _) (by simp [Value.oneCell']) (by unfold maxLen; omega) (by omega) (by simp; omega) ?_); intro v' w4 hh gg ff))
     go_roundw
     case rel =>
      iterate 89 apply Exists.intro
      refine ⟨?_, rfl⟩
      exact ⟨k + 1, _, by go_num, by omega, by unfold OwnInts; rw [List.length_append, HQ.out, List.map_append]; exact hh, HSTEP, (HBX.out.alloc hsz _).grown gg (by simp; omega) (fun q e => (HOL.out q e).1)⟩
     case measure => simp [intOf]; omega
   · simp only at h1' h2'
     subst h1'
     obtain ⟨m, rfl⟩ : ∃ m, N = m + 3 := ⟨N - 3, by omega⟩
     rw [push3, HQ.out, show m + 3 - 3 = m by omega, show m + 3 - 2 = m + 1 by omega, show m + 3 - 1 = m + 2 by omega] at HSTEP
     obtain ⟨z0, hz0⟩ := HIX.out.has (show m < m + 3 by omega)
     obtain ⟨z1, hz1⟩ := HIX.out.has (show m + 1 < m + 3 by omega)
     obtain ⟨z2, hz2⟩ := HIX.out.has (show m + 2 < m + 3 by omega)
     rw [List.getD_eq_getElem?_getD, List.getD_eq_getElem?_getD, List.getD_eq_getElem?_getD, hz0, hz1, hz2] at HSTEP
     simp only [Option.getD_some] at HSTEP
     obtain ⟨ga, oa, rfl, hga⟩ := HIX.out.at' (by omega)
     have f0 := HIX.out.get hz0
     have f1 := HIX.out.get hz1
     have f2 := HIX.out.get hz2
     have HO6 : Hid (wr.ownsRow w1.heap.size 3 1 (.slice (some ⟨ga, oa, none⟩) m cv) m ((st.take m).map (Value.int .i64))) := Lib.hid (ownI_take (n := m + 3) (by unfold OwnInts; rw [HQ.out]; exact hO) (by rw [HQ.out]; omega))
     have HT6 : Hid ((st.take m).length = m) := Lib.hid (by rw [List.length_take, HQ.out]; omega)
     clear hz0 hz1 hz2 h2' hO
     by_cases hz : z0 = 0
     · have gz : (z0 != 0) = false := by simpa using hz
       rw [if_neg (fun h => h hz)] at HSTEP
       clear hz
       go_wp2_with (first | (at_builtin; (refine wpList_append_any rfl _ _ 22 rfl w1.heap.size 3 i3 _ 1 8 Tryz.underlying22 hi3 hz30 hz31 hz32 rfl (by decide) (.slice (some ⟨ga, oa, none⟩) m cv) m ((st.take m).map (Value.int .i64)) (HO6.out.alloc _) rfl (some ⟨wr.heap.size, 0, none⟩) 1 1 [.int .i64 z2] rfl (fun h => by cases h) rfl (fun ad e => by injection e with e; rw [← e]; exact new_one _ _ _) (by simp [Value.oneCell']) (by unfold maxLen; omega) (by omega) (by simp; omega) ?_); intro v' w4 hh gg ff))
       go_roundw
       case rel =>
        iterate 89 apply Exists.intro
        refine ⟨?_, rfl⟩
        exact ⟨k + 1, _, by go_num, by omega, by unfold OwnInts; rw [List.length_append, HT6.out, List.map_append]; exact hh, HSTEP, (HBX.out.alloc hsz _).grown gg (by simp; omega) (fun q e => (HOL.out q e).1)⟩
       case measure => simp [intOf]; omega
     · have gz : (z0 != 0) = true := by simpa using hz
       rw [if_pos hz] at HSTEP
       clear hz
       go_wp2_with (first | (at_builtin; (refine wpList_append_any rfl _ _ 22 rfl w1.heap.size 3 i3 _ 1 8 Tryz.underlying22 hi3 hz30 hz31 hz32 rfl (by decide) (.slice (some ⟨ga, oa, none⟩) m cv) m ((st.take m).map (Value.int .i64)) (HO6.out.alloc _) rfl (some ⟨wr.heap.size, 0, none⟩) 1 1 [.int .i64 z1] rfl (fun h => by cases h) rfl (fun ad e => by injection e with e; rw [← e]; exact new_one _ _ _) (by simp [Value.oneCell']) (by unfold maxLen; omega) (by omega) (by simp; omega) ?_); intro v' w4 hh gg ff))
       go_roundw
       case rel =>
        iterate 89 apply Exists.intro
        refine ⟨?_, rfl⟩
        exact ⟨k + 1, _, by go_num, by omega, by unfold OwnInts; rw [List.length_append, HT6.out, List.map_append]; exact hh, HSTEP, (HBX.out.alloc hsz _).grown gg (by simp; omega) (fun q e => (HOL.out q e).1)⟩
       case measure => simp [intOf]; omega
   · simp only at h1' h2' h3'
     obtain ⟨m, rfl⟩ : ∃ m, N = m + 2 := ⟨N - 2, by omega⟩
     rw [push4 inp st op nn h1' h2', HQ.out, show m + 2 - 2 = m by omega, show m + 2 - 1 = m + 1 by omega] at HSTEP
     obtain ⟨z1, hz1⟩ := HIX.out.has (show m < m + 2 by omega)
     obtain ⟨z2, hz2⟩ := HIX.out.has (show m + 1 < m + 2 by omega)
     rw [List.getD_eq_getElem?_getD, List.getD_eq_getElem?_getD, hz1, hz2] at HSTEP
     simp only [Option.getD_some] at HSTEP
     have HZ1 := Lib.hid (HS.out.bd z1 (List.mem_of_getElem? hz1))
     have HZ2 := Lib.hid (HS.out.bd z2 (List.mem_of_getElem? hz2))
     obtain ⟨ga, oa, rfl, hga⟩ := HIX.out.at' (by omega)
     have f1 := HIX.out.get hz1
     have f2 := HIX.out.get hz2
     have hcv : m + 2 ≤ cv := HIX.out.cap
     have HO6 : Hid (wr.ownsRow w1.heap.size 3 1 (.slice (some ⟨ga, oa, none⟩) m cv) m ((st.take m).map (Value.int .i64))) := Lib.hid (ownI_take (n := m + 2) (by unfold OwnInts; rw [HQ.out]; exact hO) (by rw [HQ.out]; omega))
     have HT6 : Hid ((st.take m).length = m) := Lib.hid (by rw [List.length_take, HQ.out]; omega)
     obtain ⟨Z, hZ⟩ : ∃ Z, opI op z1 z2 = Z := ⟨_, rfl⟩
     have HOP := Lib.hid (fun w => roperate52_any op z1 z2 w ⟨by omega, by omega⟩ HZ1.out HZ2.out)
     rw [hZ] at HSTEP HOP
     have k1 : (op == 1) = false := by simp; omega
     have k2 : (op == 2) = false := by simp; omega
     have k10 : (op == 10) = false := by simp; omega
     have hw1 : IntKind.i64.wrap ((m : Int) + 1) = (m : Int) + 1 := by rw [IntKind.wrap_i64]; omega
     have hw2 : IntKind.i64.wrap ((m : Int) + 2 - 1) = (m : Int) + 1 := by rw [IntKind.wrap_i64]; omega
     have hw0 : IntKind.i64.wrap (m : Int) = (m : Int) := by rw [IntKind.wrap_i64]; omega
     have x1 : (0 : Int) ≤ (m : Int) + 1 := by omega
     have x3 : ((m : Int) + 1).toNat = m + 1 := by omega
     have x9 : (0 : Int) ≤ (m : Int) := by omega
     have x10 : (m : Int) < (m : Int) + 2 := by omega
     have x11 : (m : Int) + 1 < (m : Int) + 2 := by omega
     have x5 : (m : Int) < ((m + 2 : Nat) : Int) := by omega
     have x6 : (m : Int) + 1 < ((m + 2 : Nat) : Int) := by omega
     clear hz1 hz2 h1' h2' h3' hO hZ
     go_wp2_with fail
     apply region_fix2 (R := fun w' => w' = wr.drew)
     · refine wp_region_held_drew (S := fun w' => w'.cell? ⟨b, o + k * 2, none⟩ = some (.int .i64 op) ∧ w'.cell? ⟨ga, oa + m, none⟩ = some (.int .i64 z1) ∧ w'.cell? ⟨ga, oa + (m + 1), none⟩ = some (.int .i64 z2)) (by kernel_rfl) ⟨e0, f1, f2⟩ (fun hS => ?_)
       refine takeN 0 (v := ?_) rfl (by kernel_rfl) (by rfl) (fun w hSw => ?_) (by assumption) ?_
       rotate_left
       focus ((try dsimp only at hSw); (try go_split_ands); go_simp; try with_reducible rfl)
       (try simp only [PS])
       refine takeN 1 (v := ?_) rfl (by kernel_rfl) (by rfl) (fun w hSw => ?_) (by assumption) ?_
       rotate_left
       focus ((try dsimp only at hSw); (try go_split_ands); go_simp; try with_reducible rfl)
       (try simp only [PS])
       refine takeN 2 (v := ?_) rfl (by kernel_rfl) (by rfl) (fun w hSw => ?_) (by assumption) ?_
       rotate_left
       focus ((try dsimp only at hSw); (try go_split_ands); go_simp; try with_reducible rfl)
       (try simp only [PS])
       refine takeN 3 (v := ?_) rfl (by kernel_rfl) (by rfl) (fun w hSw => ?_) (by assumption) ?_
       rotate_left
       focus ((try dsimp only at hSw); (try go_split_ands); go_simp; try with_reducible rfl)
       (try simp only [PS])
       refine takeN 4 (v := ?_) rfl (by kernel_rfl) (by rfl) (fun w hSw => ?_) (by assumption) ?_
       rotate_left
       focus ((try dsimp only at hSw); (try go_split_ands); go_simp; try with_reducible rfl)
       (try simp only [PS])
       refine takeN 5 (v := ?_) rfl (by kernel_rfl) (by rfl) (fun w hSw => ?_) (by assumption) ?_
       rotate_left
       focus ((try dsimp only at hSw); (try go_split_ands); go_simp; try with_reducible rfl)
       (try simp only [PS])
       refine takeN 6 (v := ?_) rfl (by kernel_rfl) (by rfl) (fun w hSw => ?_) (by assumption) ?_
       rotate_left
       focus ((try dsimp only at hSw); (try go_split_ands); go_simp; try with_reducible rfl)
       (try simp only [PS])
       refine takeN 7 (v := ?_) rfl (by kernel_rfl) (by rfl) (fun w hSw => ?_) (by assumption) ?_
       rotate_left
       focus ((try dsimp only at hSw); (try go_split_ands); go_simp; try with_reducible rfl)
       (try simp only [PS])
       refine takeN 8 (v := ?_) rfl (by kernel_rfl) (by rfl) (fun w hSw => ?_) (by assumption) ?_
       rotate_left
       focus ((try dsimp only at hSw); (try go_split_ands); go_simp; try with_reducible rfl)
       (try simp only [PS])
       refine takeN 9 (v := ?_) rfl (by kernel_rfl) (by rfl) (fun w hSw => ?_) (by assumption) ?_
       rotate_left
       focus ((try dsimp only at hSw); (try go_split_ands); go_simp; try with_reducible rfl)
       (try simp only [PS])
       refine takeN 10 (v := ?_) rfl (by kernel_rfl) (by rfl) (fun w hSw => ?_) (by assumption) ?_
       rotate_left
       focus ((try dsimp only at hSw); (try go_split_ands); go_simp; try with_reducible rfl)
       (try simp only [PS])
       refine takeN 11 (v := ?_) rfl (by kernel_rfl) (by rfl) (fun w hSw => ?_) (by assumption) ?_
       rotate_left
       focus ((try dsimp only at hSw); (try go_split_ands); go_simp; try with_reducible rfl)
       (try simp only [PS])
       refine takeN 12 (v := ?_) rfl (by kernel_rfl) (by rfl) (fun w hSw => ?_) (by assumption) ?_
       rotate_left
       focus ((try dsimp only at hSw); (try go_split_ands); go_simp; try with_reducible rfl)
       (try simp only [PS])
       refine takeN 13 (v := ?_) rfl (by kernel_rfl) (by rfl) (fun w hSw => ?_) (by assumption) ?_
       rotate_left
       focus ((try dsimp only at hSw); (try go_split_ands); go_simp; try with_reducible rfl)
       (try simp only [PS])
       refine takeN 14 (v := ?_) rfl (by kernel_rfl) (by rfl) (fun w hSw => ?_) (by assumption) ?_
       rotate_left
       focus ((try dsimp only at hSw); (try go_split_ands); go_simp; try with_reducible rfl)
       (try simp only [PS])
       refine wpAnyH_ready (rs := [15]) (by kernel_rfl) (by simp) (AllReadyH.cons rfl (fun K hK => ?_) AllReadyH.nil)
       go_simp
       go_at_call 177
       refine (HOP.out _).mono ?_
       rintro e w' ⟨rfl, rfl⟩
       refine hK.out _ _ (hS) (fun hS => ?_)
       clear hK K
       (try simp only [PS])
       refine takeN 16 (v := ?_) rfl (by kernel_rfl) (by rfl) (fun w hSw => ?_) (by assumption) ?_
       rotate_left
       focus ((try dsimp only at hSw); (try go_split_ands); go_simp; try with_reducible rfl)
       (try simp only [PS])
       refine wpAnyH_done (by kernel_rfl) ?_ _
       exact ⟨rfl, rfl, rfl⟩
     intro w' hw'
     have hbd : Below wr.heap.size wr w' := by rw [hw']; exact (Below.refl _ _).drew
     have HOD := Lib.hid (ownsRow_below' HO6.out hbd)
     have HBD := Lib.hid (HBX.out.on hbd)
     have hszd : w1.heap.size ≤ w'.heap.size := HBD.out.size
     clear hw' hbd e0 f1 f2 hw1 hw2 hw0 x1 x3 x5 x6 x10 x11
     go_wp2_with (first | (at_builtin; (refine wpList_append_any rfl _ _ 22 rfl w1.heap.size 3 i3 _ 1 8 Tryz.underlying22 hi3 hz30 hz31 hz32 rfl (by decide) (.slice (some ⟨ga, oa, none⟩) m cv) m ((st.take m).map (Value.int .i64)) (HOD.out.alloc _) rfl (some ⟨w'.heap.size, 0, none⟩) 1 1 [.int .i64 Z] rfl (fun h => by cases h) rfl (fun ad e => by injection e with e; rw [← e]; exact new_one _ _ _) (by simp [Value.oneCell']) (by unfold maxLen; omega) (by omega) (by simp; omega) ?_); intro v' w4 hh gg ff))
     go_roundw
     case rel =>
      iterate 89 apply Exists.intro
      refine ⟨?_, rfl⟩
      exact ⟨k + 1, _, by go_num, by omega, by unfold OwnInts; rw [List.length_append, HT6.out, List.map_append]; exact hh, HSTEP, (HBD.out.alloc hszd _).grown gg (by simp; omega) (fun q e => (HOL.out q e).1)⟩
     case measure => simp [intOf]; omega
end Go.Proofs.YtehoidohallfcaaGreatDoor
