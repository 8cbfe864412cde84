/- For every grid, the moves are a group of permutations (law14.MovesGroup), at every input. -/
import Derived.Carry
import Derived.Test.YtjiacdihfbbfjaaSane
import Derived.Test.YtjiacdihfbbfjaaArr
import Derived.Test.YtjiacdihfbbfjaaRHas
import Derived.Test.YtjiacdihfbbfjaaRow
import Derived.Test.YtjiacdihfbbfjaaHeadF
import Derived.WalkKit
import Derived.WalkSpells
import Derived.WalkLawsBesides
import Derived.Deep.LoopGhost
import Derived.Deep.QuietTactic
import Derived.BigQuiet
import Derived.StillTailTactics
import Derived.Lib.Hide
import Derived.Outline
import Derived.Lib.QuietBelow
namespace Go.Proofs.Ytjiacdihfbbfjaa
open Go.ChangeShapes Go.WideShapes Go.ChangeAt Go.RowKit Go.Deep

theorem has_true {W : World} {a0 a1 : Option Addr} {n0 c0 n1 c1 : Nat} {ll : List (List Int)} {p : List Int} (h0 : Rows W a0 n0 c0 ll) (h1 : Ints W a1 n1 c1 p) (hm : p ∈ ll) :
    Calls Try.prog 33 #[.slice a0 n0 c0, .slice a1 n1 c1] W fun e w' => e = .returned (.bool true) ∧ ∃ k, w' = W.drewN k := by
  have h := has_any a0 a1 n0 c0 n1 c1 ll p W h0 h1
  have e : hasL ll p = true := by unfold hasL; exact List.contains_iff_mem.2 hm
  rw [e] at h; exact h
/-- The moves of a grid, as the statement wants them. -/
structure Grp (n : Nat) (ll : List (List Int)) : Prop where
  perm : ∀ p ∈ ll, PermL n p
  incr : incrLL ll
  inv : ∀ p ∈ ll, ∀ b, InvL n p b → b ∈ ll
  comp : ∀ p ∈ ll, ∀ q ∈ ll, ∀ c, CompL n p q c → c ∈ ll
  first : ll[0]?.getD [] = ints n
theorem grp_of {g : Grid} (hv : Valid g) : Grp g.cells.length (movesL g) :=
  ⟨fun _ hp => mv_perm hv hp, sortedL_incr _, fun _ hp _ hb => mv_inv hv hp hb, fun _ hp _ hq _ hc => mv_comp hv hp hq hc, (mv_first hv).2⟩
theorem row_mem {ll : List (List Int)} {k : Nat} (h : k < ll.length) : ll[k]?.getD [] ∈ ll := by rw [List.getElem?_eq_getElem h]; exact List.getElem_mem h

set_option maxRecDepth 100000 in
set_option maxHeartbeats 4000000 in
theorem lawGroup_any (s w h : Int) (a0 : Option Addr) (n0 c0 : Nat) (holes : List Int) (W : World) (h0 : Ints W a0 n0 c0 holes) :
    Calls Try.prog 5 #[.int .i64 s, .int .i64 w, .int .i64 h, .slice a0 n0 c0] W fun e w' => e = .returned (.bool true) ∧ Below W.heap.size W w' := by
  obtain ⟨g, hg⟩ : ∃ g, gridL s w h holes = g := ⟨_, rfl⟩
  have hcs := gridL_cases s w h holes
  rw [hg] at hcs
  have HG := Lib.hid hg
  have HCS := Lib.hid hcs
  clear hg hcs
  go_enter Try.func5, Try.ntmps5
  go_wp2_with fail
  refine (sane_any W).mono ?_
  rintro e w1 ⟨rfl, hB1⟩
  go_wp2_with fail
  refine (grid_any s w h a0 n0 c0 holes _ (h0.below hB1)).mono ?_
  rintro e w2 ⟨v2, rfl, ⟨ah, nh, ch, ac, nc, cc, rfl, hI1, hI2, _, _⟩, hB2⟩
  have hfewG := gridL_few s w h holes
  rw [HG.out] at hI1 hI2 hfewG ⊢
  have hal : Below w2.heap.size w2 (w2.alloc (.cells #[.int .i64 g.shape, .int .i64 g.w, .int .i64 g.h, .slice ah nh ch, .slice ac nc cc] 24)) := (Below.refl _ _).alloc (Nat.le_refl _) _
  have hbx := Box.new w2 #[.int .i64 g.shape, .int .i64 g.w, .int .i64 g.h, .slice ah nh ch, .slice ac nc cc] 24
  have hB3 := (hB1.on hB2).on hal
  have hJ1 := hI1.below hal
  have hJ2 := hI2.below hal
  have hln := hI2.len
  have hlh := hI1.len
  have hcc := hI2.cap
  have hmc := hI2.mx
  unfold maxLen at hmc
  clear hB1 hB2 hI1 hI2 hal
  go_wp2_with fail
  obtain ⟨w3, hw3⟩ : ∃ w3, w2.alloc (.cells #[.int .i64 g.shape, .int .i64 g.w, .int .i64 g.h, .slice ah nh ch, .slice ac nc cc] 24) = w3 := ⟨_, rfl⟩
  rw [hw3] at hbx hB3 hJ1 hJ2 ⊢
  clear hw3
  obtain ⟨gB, hgB⟩ : ∃ gB, w2.heap.size = gB := ⟨_, rfl⟩
  rw [hgB] at hbx ⊢
  clear hgB
  cases hf : fewG g
  · have HF := Lib.hid hf
    clear hf
    refine (fewG_any g ah ac nh ch nc cc w3 hJ1 hJ2).mono ?_
    rintro e w4 ⟨rfl, hB4⟩
    rw [HF.out]
    go_wp2_with fail
    go_ret
    exact ⟨rfl, hB3.on hB4⟩
  · have hnc : nc ≤ 30 := by
      unfold fewG at hf
      simp only [Bool.and_eq_true, decide_eq_true_eq] at hf
      omega
    have HF := Lib.hid hf
    clear hf
    refine (fewG_any g ah ac nh ch nc cc w3 hJ1 hJ2).mono ?_
    rintro e w4 ⟨rfl, hB4⟩
    rw [HF.out]
    have hx4 := hbx.below hB4
    have hB5 := hB3.on hB4
    have hv4 : GridV w4 (.agg #[.int .i64 g.shape, .int .i64 g.w, .int .i64 g.h, .slice ah nh ch, .slice ac nc cc]) g := ⟨_, _, _, _, _, _, rfl, hJ1.below hB4, hJ2.below hB4⟩
    clear hbx hB3 hB4 hJ1 hJ2
    obtain ⟨d0, d1, d2, d3, d4⟩ := hx4.g5
    go_wp2_with fail
    rcases HCS.out with ⟨g', e1, hmk, hv, hE, hM⟩ | ⟨e1, hE, hM⟩
    · subst e1
      obtain ⟨ll, hll⟩ : ∃ ll, movesL g = ll := ⟨_, rfl⟩
      obtain ⟨K, hK⟩ : ∃ K, ll.length = K := ⟨_, rfl⟩
      have hG := grp_of hv
      have hK1 := (mv_first hv).1
      have hK2 := movesL_len g
      have hpos := hv.pos
      rw [hll] at hM hG hK1 hK2
      rw [hK] at hK1 hK2
      rw [hln] at hG hpos
      refine (moves_lit hv4 ⟨hfewG.1, by omega⟩ hE hM).mono ?_
      rintro e w5 ⟨v5, rfl, hO, hB6⟩
      obtain ⟨a5, c5, rfl, hR⟩ := hO.rows
      rw [hK] at hR ⊢
      have hx5 := hx4.below hB6
      have hB7 := hB5.on hB6
      have hmc' := hR.mx
      have hcc' := hR.cap
      unfold maxLen at hmc'
      have hmk2 : ∀ w : World, (Instr.makeSlice 22 (.int .i64 nc) (.int .i64 nc)).run Try.prog w = .ok (.slice (some ⟨w.heap.size, 0, none⟩) nc nc) (w.alloc (.cells (arrL (List.replicate nc 0)) 3)) := fun w => by rw [← arrL_made]; exact make_ints nc (by omega) w
      have t1 : ((nc : Int) == 0) = false := by simp; omega
      have t2 : ((K : Int) == 0) = false := by simp; omega
      have k12 : K ≤ 12 := Nat.le_trans hK2 (linMany_le _)
      have t3 : decide (12 < (K : Int)) = false := by simp; omega
      have ts : (g.shape == 1) = true ∧ decide (8 < (K : Int)) = false ∨ (g.shape == 1) = false := by
        by_cases hs : g.shape = 1
        · refine .inl ⟨by rw [hs]; rfl, ?_⟩
          unfold linMany at hK2
          rw [if_pos hs] at hK2
          simp; omega
        · exact .inr (by rw [beq_eq_false_iff_ne]; exact hs)
      obtain ⟨b5, o5, rfl, hb5⟩ := hR.at' (by omega)
      have HK := Lib.hid hK
      have HL := Lib.hid hll
      clear d0 d1 d2 d3 d4 hx4 hv4 hB5 hB6 hO hM hE hmk hK2 hK hll hv
      obtain ⟨d0, d1, d2, d3, d4⟩ := hx5.g5
      rcases ts with ⟨ts1, ts2⟩ | ts1
      all_goals
        go_wp2_with fail
        go_loopw [77] (fun c wr => ∃ k : Nat, k ≤ K ∧ c = .int .i64 k ∧ Below w5.heap.size w5 wr) (fun c _ => K - (intOf c).toNat)
        case atStart => exact ⟨0, by omega, rfl, Below.refl _ _⟩
        case round =>
          clear d0 d1 d2 d3 d4
          obtain ⟨k, hk, rfl, hBo⟩ := hrel
          by_cases hlt : k < K
          · obtain ⟨ai, ni, ci, e0, hI⟩ := hR.row _ _ rfl k hlt
            have e1 := (hBo.cell (p := ⟨b5, o5 + k, none⟩) hb5).trans e0
            have hpk := hG.perm _ (row_mem (k := k) (by rw [HK.out]; exact hlt))
            obtain rfl : ni = nc := by rw [← hI.len, hpk.len]
            have hIo := hI.below hBo
            have HP := Lib.hid hpk
            clear e0 hpk
            cases k with
            | zero =>
              simp only [Nat.add_zero] at e1
              go_wp2_with fail
              refine (perm_any ai ci _ _ _ hIo HP.out (by omega)).mono ?_
              rintro e wp ⟨rfl, hBp⟩
              go_wp2_with fail
              go_roundw
              case rel => exact ⟨1, by omega, rfl, hBo.on hBp⟩
              case measure => simp [intOf]; omega
            | succ j =>
              obtain ⟨aj, nj, cj, e2, hJ⟩ := hR.row _ _ rfl j (by omega)
              have hle := List.pairwise_iff_getElem.1 hG.incr j (j + 1) (by rw [HK.out]; omega) (by rw [HK.out]; omega) (by omega)
              have HLE : Hid (lessL (ll[j]?.getD []) (ll[j + 1]?.getD []) = true) := Lib.hid (by rw [List.getElem?_eq_getElem (by rw [HK.out]; omega), List.getElem?_eq_getElem (by rw [HK.out]; omega)]; exact hle)
              clear hle
              have q0 : (0 : Int) ≤ (j : Int) := by omega
              go_wp2_with fail
              refine (perm_any ai ci _ _ _ hIo HP.out (by omega)).mono ?_
              rintro e wp ⟨rfl, hBp⟩
              have e3 := ((hBo.on hBp).cell (p := ⟨b5, o5 + j, none⟩) hb5).trans e2
              go_wp2_with fail
              have hc := less_any _ _ _ _ _ _ _ _ wp (hJ.below (hBo.on hBp)) (hIo.below hBp)
              rw [HLE.out] at hc
              refine hc.mono ?_
              rintro e wq ⟨rfl, q, rfl⟩
              clear hc
              go_wp2_with fail
              go_roundw
              case rel => exact ⟨j + 1 + 1, by omega, by go_num, below_drewN (hBo.on hBp) q⟩
              case measure => simp [intOf]; omega
          · obtain rfl : k = K := by omega
            obtain ⟨wa, rfl⟩ : ∃ wa, wa = wr := ⟨_, rfl⟩
            have hbo := Box.new wa (arrL (List.replicate nc 0)) 3
            have hao : Below wa.heap.size wa (wa.alloc (.cells (arrL (List.replicate nc 0)) 3)) := (Below.refl _ _).alloc (Nat.le_refl _) _
            have hla := hbo.lt
            go_wp2_with fail
            go_loopw [105] (fun c wr => ∃ k : Nat, k ≤ nc ∧ c = .int .i64 k ∧ (∃ l, Box wr wa.heap.size (arrL l) 3 ∧ l.length = nc ∧ ∀ i, i < k → l[i]?.getD 0 = i) ∧ Below wa.heap.size wa wr) (fun c _ => nc - (intOf c).toNat)
            case atStart => exact ⟨0, by omega, rfl, ⟨_, hbo, by simp, fun i hi => by omega⟩, hao⟩
            case round =>
              clear hbo hao
              obtain ⟨j, hj, rfl, ⟨l, hP, hPl, hPc⟩, hBz⟩ := hrel
              by_cases hlt : j < nc
              · have d5 := hP.cell j
                have f5 := hP.frozen j
                rw [arrL_get l (by omega)] at d5
                have q0 : (j : Int) < (nc : Int) := by omega
                have hP2 := hP.set j (.int .i64 j)
                rw [arrL_set] at hP2
                have hB2 := hBz.setCell (p := ⟨wa.heap.size, j, none⟩) (Nat.le_refl _) (.int .i64 j)
                have HN : Hid ((l.set j (j : Int)).length = nc ∧ ∀ i, i < j + 1 → (l.set j (j : Int))[i]?.getD 0 = i) := Lib.hid ⟨by simp [hPl], fun i hi => by
                  rw [set_getD l _ (by omega)]
                  by_cases e : j = i
                  · subst e; rw [if_pos rfl]
                  · rw [if_neg e]; exact hPc i (by omega)⟩
                have HPL := Lib.hid hPl
                clear hP hPc hPl
                go_wp2_with fail
                go_roundw
                case rel => exact ⟨j + 1, by omega, by go_num, ⟨_, hP2, HN.out.1, HN.out.2⟩, hB2⟩
                case measure => simp [intOf]; omega
              · obtain rfl : j = nc := by omega
                obtain rfl : l = ints j := ext_getD hPl (ints_len _) (fun i hi => by rw [hPc i hi, ints_get _ hi])
                have hone := arrL_ints hP hPl (by omega)
                have hBa := hBo.on hBz
                obtain ⟨wb, rfl⟩ : ∃ wb, wb = wr := ⟨_, rfl⟩
                obtain ⟨oB, hoB⟩ : ∃ oB, wa.heap.size = oB := ⟨_, rfl⟩
                rw [hoB] at hone hla ⊢
                clear hPc hPl hP hBz hBo hoB
                go_wp2_with fail
                go_loopw [115] (fun c wr => ∃ m : Nat, m ≤ k ∧ c = .int .i64 m ∧ Below wb.heap.size wb wr) (fun c _ => k - (intOf c).toNat)
                case atStart => exact ⟨0, by omega, rfl, Below.refl _ _⟩
                case round =>
                  obtain ⟨m, hm, rfl, hBm⟩ := hrel
                  obtain ⟨wm, rfl⟩ : ∃ wm, wm = wr := ⟨_, rfl⟩
                  by_cases hlt : m < k
                  · obtain ⟨ai, ni, ci, e0, hI⟩ := hR.row _ _ rfl m hlt
                    have hBam := hBa.on hBm
                    have e1 := (hBam.cell (p := ⟨b5, o5 + m, none⟩) hb5).trans e0
                    obtain ⟨p, hp⟩ : ∃ p, ll[m]?.getD [] = p := ⟨_, rfl⟩
                    have hpm := row_mem (k := m) (ll := ll) (by rw [HK.out]; exact hlt)
                    rw [hp] at hI hpm
                    have hpk := hG.perm _ hpm
                    obtain rfl : ni = j := by rw [← hI.len, hpk.len]
                    have hIm := hI.below hBam
                    have HP := Lib.hid hpk
                    have HPM := Lib.hid hpm
                    have hcp := hI.cap
                    have hmp := hI.mx
                    unfold maxLen at hmp
                    clear e0 hp hpk hpm hI
                    have hbm := Box.new wm (arrL (List.replicate ni 0)) 3
                    have ham : Below wm.heap.size wm (wm.alloc (.cells (arrL (List.replicate ni 0)) 3)) := (Below.refl _ _).alloc (Nat.le_refl _) _
                    have hlm := hbm.lt
                    go_wp2_with fail
                    go_loopw [123] (fun c wr => ∃ i : Nat, i ≤ ni ∧ c = .int .i64 i ∧ (∃ l, Box wr wm.heap.size (arrL l) 3 ∧ l.length = ni ∧ ∀ z, z < i → ∀ a : Nat, p[z]?.getD 0 = a → l[a]?.getD 0 = z) ∧ Below wm.heap.size wm wr) (fun c _ => ni - (intOf c).toNat)
                    case atStart => exact ⟨0, by omega, rfl, ⟨_, hbm, by simp, fun z hz => by omega⟩, ham⟩
                    case round =>
                      clear hbm ham
                      obtain ⟨i, hi, rfl, ⟨l, hQ, hQl, hQc⟩, hBz⟩ := hrel
                      by_cases hlt2 : i < ni
                      · obtain ⟨a, ha, ea⟩ := HP.out.at hlt2
                        obtain ⟨bp, op, rfl, hbp⟩ := hIm.at' (by omega)
                        have e2 := (hBz.cell (p := ⟨bp, op + i, none⟩) hbp).trans (hIm.cell _ _ rfl i hlt2)
                        rw [ea] at e2
                        have d5 := hQ.cell a
                        have f5 := hQ.frozen a
                        rw [arrL_get l (by omega)] at d5
                        have q0 : (a : Int) < (ni : Int) := by omega
                        have q1 : (0 : Int) ≤ (a : Int) := by omega
                        have hQ2 := hQ.set a (.int .i64 i)
                        rw [arrL_set] at hQ2
                        have hB2 := hBz.setCell (p := ⟨wm.heap.size, a, none⟩) (Nat.le_refl _) (.int .i64 i)
                        have HN : Hid ((l.set a (i : Int)).length = ni ∧ ∀ z, z < i + 1 → ∀ b : Nat, p[z]?.getD 0 = b → (l.set a (i : Int))[b]?.getD 0 = z) := Lib.hid ⟨by simp [hQl], fun z hz b hb => by
                          rw [set_getD l _ (by omega)]
                          by_cases e : z = i
                          · subst e; rw [if_pos (by omega)]
                          · rw [if_neg (fun e2 => e (HP.out.inj (by omega) hlt2 (by rw [hb, ea, e2])))]; exact hQc z (by omega) b hb⟩
                        clear hQ hQc hQl ea
                        go_wp2_with fail
                        go_roundw
                        case rel => exact ⟨i + 1, by omega, by go_num, ⟨_, hQ2, HN.out.1, HN.out.2⟩, hB2⟩
                        case measure => simp [intOf]; omega
                      · obtain rfl : i = ni := by omega
                        have hbk := arrL_ints hQ hQl (by omega)
                        have hin := hG.inv _ HPM.out l ⟨hQl, hQc⟩
                        have hBz' := hBm.on hBz
                        have hBaz := hBa.on hBz'
                        have hRz := hR.below hBaz
                        have HIN := Lib.hid hin
                        clear hQc hQl hQ hin
                        obtain ⟨wz, rfl⟩ : ∃ wz, wz = wr := ⟨_, rfl⟩
                        have hIz := hIm.below hBz
                        go_wp2_with fail
                        refine (has_true hRz hbk HIN.out).mono ?_
                        rintro e wy ⟨rfl, q, rfl⟩
                        obtain ⟨wy, hwy⟩ : ∃ wy, wz.drewN q = wy := ⟨_, rfl⟩
                        have hBy := below_drewN hBz' q
                        have hBay := below_drewN hBaz q
                        have hIy := hIz.drewN q
                        rw [hwy] at hBy hBay hIy ⊢
                        clear hwy hRz hBz hBz' hBaz hIz hbk hIm
                        go_wp2_with fail
                        go_loopw [139] (fun c wr => ∃ n : Nat, n ≤ k ∧ c = .int .i64 n ∧ Below wy.heap.size wy wr) (fun c _ => k - (intOf c).toNat)
                        case atStart => exact ⟨0, by omega, rfl, Below.refl _ _⟩
                        case round =>
                          obtain ⟨n, hn, rfl, hBn⟩ := hrel
                          obtain ⟨wn, rfl⟩ : ∃ wn, wn = wr := ⟨_, rfl⟩
                          by_cases hlt3 : n < k
                          · obtain ⟨aq, nq, cq, e0, hQ⟩ := hR.row _ _ rfl n hlt3
                            have hBan := hBay.on hBn
                            have e4 := (hBan.cell (p := ⟨b5, o5 + n, none⟩) hb5).trans e0
                            obtain ⟨p2, hp2⟩ : ∃ p2, ll[n]?.getD [] = p2 := ⟨_, rfl⟩
                            have hpm2 := row_mem (k := n) (ll := ll) (by rw [HK.out]; exact hlt3)
                            rw [hp2] at hQ hpm2
                            have hpk2 := hG.perm _ hpm2
                            obtain rfl : nq = i := by rw [← hQ.len, hpk2.len]
                            have hQn := hQ.below hBan
                            have hIn := hIy.below hBn
                            have HPM2 := Lib.hid hpm2
                            have hcq := hQ.cap
                            have hmq := hQ.mx
                            unfold maxLen at hmq
                            clear e0 hp2 hpk2 hpm2 hQ
                            have hbn := Box.new wn (arrL (List.replicate nq 0)) 3
                            have han : Below wn.heap.size wn (wn.alloc (.cells (arrL (List.replicate nq 0)) 3)) := (Below.refl _ _).alloc (Nat.le_refl _) _
                            have hln2 := hbn.lt
                            go_wp2_with fail
                            go_loopw [147] (fun c wr => ∃ x : Nat, x ≤ nq ∧ c = .int .i64 x ∧ (∃ l, Box wr wn.heap.size (arrL l) 3 ∧ l.length = nq ∧ ∀ z, z < x → ∀ a : Nat, p[z]?.getD 0 = a → l[z]?.getD 0 = p2[a]?.getD 0) ∧ Below wn.heap.size wn wr) (fun c _ => nq - (intOf c).toNat)
                            case atStart => exact ⟨0, by omega, rfl, ⟨_, hbn, by simp, fun z hz => by omega⟩, han⟩
                            case round =>
                              clear hbn han
                              obtain ⟨x, hx, rfl, ⟨l2, hT, hTl, hTc⟩, hBz⟩ := hrel
                              by_cases hlt4 : x < nq
                              · obtain ⟨a, ha, ea⟩ := HP.out.at hlt4
                                obtain ⟨bp, op, rfl, hbp⟩ := hIn.at' (by omega)
                                have e2 := (hBz.cell (p := ⟨bp, op + x, none⟩) hbp).trans (hIn.cell _ _ rfl x hlt4)
                                rw [ea] at e2
                                obtain ⟨bq, oq, rfl, hbq⟩ := hQn.at' (by omega)
                                have e5 := (hBz.cell (p := ⟨bq, oq + a, none⟩) hbq).trans (hQn.cell _ _ rfl a ha)
                                obtain ⟨y, hy⟩ : ∃ y, p2[a]?.getD 0 = y := ⟨_, rfl⟩
                                rw [hy] at e5
                                have d5 := hT.cell x
                                have f5 := hT.frozen x
                                rw [arrL_get l2 (by omega)] at d5
                                have q0 : (a : Int) < (nq : Int) := by omega
                                have q1 : (0 : Int) ≤ (a : Int) := by omega
                                have q2 : (x : Int) < (nq : Int) := by omega
                                have hT2 := hT.set x (.int .i64 y)
                                rw [arrL_set] at hT2
                                have hB2 := hBz.setCell (p := ⟨wn.heap.size, x, none⟩) (Nat.le_refl _) (.int .i64 y)
                                have HN : Hid ((l2.set x y).length = nq ∧ ∀ z, z < x + 1 → ∀ b : Nat, p[z]?.getD 0 = b → (l2.set x y)[z]?.getD 0 = p2[b]?.getD 0) := Lib.hid ⟨by simp [hTl], fun z hz b hb => by
                                  rw [set_getD l2 _ (by omega)]
                                  by_cases e : x = z
                                  · subst e
                                    have : b = a := by omega
                                    subst this
                                    rw [if_pos rfl, hy]
                                  · rw [if_neg e]; exact hTc z (by omega) b hb⟩
                                clear hT hTc hTl ea hy
                                go_wp2_with fail
                                go_roundw
                                case rel => exact ⟨x + 1, by omega, by go_num, ⟨_, hT2, HN.out.1, HN.out.2⟩, hB2⟩
                                case measure => simp [intOf]; omega
                              · obtain rfl : x = nq := by omega
                                have hbk := arrL_ints hT hTl (by omega)
                                have hin := hG.comp _ HPM.out _ HPM2.out l2 ⟨hTl, hTc⟩
                                have hBz' := hBn.on hBz
                                have hRz := hR.below (hBay.on hBz')
                                have HIN := Lib.hid hin
                                clear hTc hTl hT hin
                                go_wp2_with fail
                                refine (has_true hRz hbk HIN.out).mono ?_
                                rintro e wx ⟨rfl, q, rfl⟩
                                go_wp2_with fail
                                go_roundw
                                case rel => exact ⟨n + 1, by omega, by go_num, below_drewN hBz' q⟩
                                case measure => simp [intOf]; omega
                          · obtain rfl : n = k := by omega
                            go_wp2_with fail
                            go_roundw
                            case rel => exact ⟨m + 1, by omega, by go_num, hBy.on hBn⟩
                            case measure => simp [intOf]; omega
                  · obtain rfl : m = k := by omega
                    have hBam := hBa.on hBm
                    obtain ⟨ai, ni, ci, e0, hI⟩ := hR.row _ _ rfl 0 (by omega)
                    have e1 := (hBam.cell (p := ⟨b5, o5 + 0, none⟩) hb5).trans e0
                    simp only [Nat.add_zero] at e1
                    rw [hG.first] at hI
                    have q0 : (0 : Int) < (m : Int) := by omega
                    have hc := equal_any _ _ _ _ _ _ _ _ wm (hI.below hBam) (hone.below hBm)
                    have HE : Hid (eqL (ints j) (ints j) = true) := Lib.hid (by simp [eqL])
                    rw [HE.out] at hc
                    have HC := Lib.hid hc
                    clear hc e0
                    go_wp2_with fail
                    refine HC.out.mono ?_
                    rintro e wy ⟨rfl, q, rfl⟩
                    go_wp2_with fail
                    go_ret
                    exact ⟨rfl, below_drewN (hB7.on hBam) q⟩
    · subst e1
      refine (moves_lit hv4 ⟨hfewG.1, by omega⟩ hE hM).mono ?_
      rintro e w5 ⟨v5, rfl, hO, hB6⟩
      obtain ⟨a5, c5, rfl, hR⟩ := hO.rows
      have hx5 := hx4.below hB6
      have hB7 := hB5.on hB6
      clear d0 d1 d2 d3 d4
      obtain ⟨d0, d1, d2, d3, d4⟩ := hx5.g5
      have hn0 : nc = 0 := by simp [zeroGrid] at hln; omega
      subst hn0
      clear hx4 hv4 hB5 hB6 hO
      go_wp2_with fail
      go_ret
      exact ⟨by simp, hB7⟩
set_option maxRecDepth 100000 in
set_option maxHeartbeats 2000000 in
theorem group_lifted (os : Os) (started : os.Started) (H : Type) (enc : TypeId × Value → H) :
    ReturnsInHanded {} Try.checked os 5 .any (Rows.movesGroupSpec.pre6 enc Try.prog Try.f5 Rows.movesGroupRow.domain false) (Rows.movesGroupSpec.post enc Try.prog Try.f5 false true false false) := by
  refine returnsInHanded_of_change (C := Try.checked) row_own started (by kernel_rfl) Try.func5
    (ChangeSpec.witness6 (enc := enc) (C := Try.checked) false ⟨#[], #[.int .i64 0, .int .i64 0, .int .i64 0, .slice none 0 0], []⟩ 8 (by kernel_rfl) (by kernel_rfl) (by kernel_rfl) (by kernel_rfl)) ?_
  intro W base args ds gs before hval0 hW _ _
  have hval : ∀ (j : Nat) t v, Try.f5.params[j]? = some t → args[j]? = some v → Value.okWide Try.prog W .any base t v := hval0
  have hW' := hW
  obtain ⟨p, q, hA0, hV, rfl, _, _⟩ := hW
  have hA : DataW.TrodAll enc Try.prog W 0 (fun _ => true) true Try.f5.params.toList args.toList ds p := hA0
  rw [Try.params5] at hA hval
  obtain ⟨v0, v1, v2, v3, d0, d1, d2, d3, p0, p1, p2, p3, rfl, rfl, rfl, h0, h1, h2, h3⟩ := trodAll_four hA
  obtain ⟨rfl, rfl⟩ := trodVars_none hV
  obtain ⟨s, rfl, rfl, rfl, _⟩ := open_int Try.underlying3 (hval 0 3 v0 rfl rfl) h0
  obtain ⟨w, rfl, rfl, rfl, _⟩ := open_int Try.underlying3 (hval 1 3 v1 rfl rfl) h1
  obtain ⟨h, rfl, rfl, rfl, _⟩ := open_int Try.underlying3 (hval 2 3 v2 rfl rfl) h2
  obtain ⟨ap, np, cp, pl, rfl, hp, _⟩ := open_L (hval 3 22 v3 rfl rfl) h3
  refine (lawGroup_any s w h ap np cp pl W hp).mono fun e W' ⟨he, hb⟩ => ?_
  subst he
  exact ⟨_, rfl, law_post hW' rfl rfl (by kernel_rfl) rfl hb⟩
set_option maxHeartbeats 2000000 in
theorem movesGroup_closed : joinedFacts Try.prog 5 Try.f5 Rows.movesGroupSpec Rows.movesGroupRow = true := by
  unfold joinedFacts
  refine bt (bt (bt (bt (bt (bt (bt (bt (bt (bt (bt (bt (bt (bt (bt (bt (bt (bt (bt (bt (bt (bt (bt (bt (bt (bt (bt (bt (bt (bt (bt ?a0 ?a1) ?a2) ?a3) ?a4) ?a5) ?a6) ?a7) ?a8) ?a9) ?a10) ?a11) ?a12) ?a13) ?a14) ?a15) ?a16) ?a17) ?a18) ?a19) ?a20) ?a21) ?a22) ?a23) ?a24) ?a25) ?a26) ?a27) ?a28) ?a29) ?a30) ?a31
  case a25 => exact prog_enter
  case a26 => exact prog_lifts
  case a27 => exact prog_make
  all_goals as_aux_lemma => kernel_rfl
theorem movesGroup_holds : Rows.MovesGroupSaid :=
  OpenClaim.holds_of_wide 5 Try.f5 rfl rfl rfl rfl rfl rfl rfl ⟨rfl, rfl, rfl, rfl, rfl⟩ rfl rfl rfl rfl rfl (by kernel_rfl) Try.func5 movesGroup_closed
    (of_decide_eq_true (by kernel_rfl)) (by unfold Func.isWrapper; rw [if_neg (of_decide_eq_false (by kernel_rfl))]; exact ⟨rfl, rfl⟩)
    (fun os started H enc _ => group_lifted os started H enc)
#print axioms movesGroup_holds
end Go.Proofs.Ytjiacdihfbbfjaa
