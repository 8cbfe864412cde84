/- Contract of perms.Orbits. -/
import Derived.Test.YtkekkbbdhdamjaaPKeep
import Derived.WalkMore
import Derived.WalkKit
import Derived.WalkSpells
import Derived.WalkLawsBesides
import Derived.Deep.LoopGhost
import Derived.Deep.QuietTactic
import Derived.BigQuiet
import Derived.StillTailTactics
import Derived.Lib.Hide
import Derived.Outline
import Derived.Lib.QuietBelow
namespace Go.Proofs.Ytkekkbbdhdamjaa
open Go.RowKit

set_option maxRecDepth 20000 in
set_option maxHeartbeats 8000000 in
theorem orbits_any (n : Int) (a0 : Option Addr) (m c : Nat) (gens : List (List Int)) (W : World) (h0 : Rows W a0 m c gens) :
    Calls Try.prog 21 #[.int .i64 n, .slice a0 m c] W (RetRows W (orbR n gens) (validE n gens)) := by
  have hl0 := Lib.hid h0.len
  have hV := pcheck_any n a0 m c gens W h0
  by_cases hv : validE n gens = 0
  · obtain ⟨hn0, hn1, hg1, hok⟩ := validE_zero hv
    obtain ⟨N, rfl⟩ : ∃ N : Nat, n = (N : Int) := ⟨n.toNat, by omega⟩
    simp only [Int.toNat_natCast] at hok
    have HOK := Lib.hid hok
    have hm : m ≤ 1024 := by rw [← hl0.out]; exact hg1
    have HC : Hid (orbR (N : Int) gens = orbsTo N gens N ∧ validE (N : Int) gens = 0) := Lib.hid (by
      unfold orbR; rw [if_neg (by simp [hv]), Int.toNat_natCast]; exact ⟨rfl, hv⟩)
    rw [hv] at hV
    have hN : N ≤ 256 := by omega
    clear hok hv hg1
    obtain ⟨i3, hi3, hz30, hz31, hz32⟩ := info_parts info_int
    obtain ⟨i22, hi22, hz220, hz221, hz222⟩ := info_parts info_ints
    go_enter Try.func21, Try.ntmps21
    go_wp2_with fail
    refine hV.mono ?_
    rintro e w1 ⟨rfl, hB1⟩
    clear hV
    have hbx := Box.new w1 Try.zeroCells56 56
    have hal : Below w1.heap.size w1 (w1.alloc (.cells Try.zeroCells56 56)) := (Below.refl _ _).alloc (Nat.le_refl _) _
    have hlt1 := hbx.lt
    obtain ⟨w2, hw2⟩ : ∃ w2, w1.alloc (.cells Try.zeroCells56 56) = w2 := ⟨_, rfl⟩
    rw [hw2] at hbx hal hlt1
    rw [zero56, ← flagsP_nil] at hbx
    have hO0 := (OTo.nil w2 W.heap.size w1.heap.size)
    go_wp2_with fail
    (try rw [hw2])
    obtain ⟨B, hBe⟩ : ∃ B, w1.heap.size = B := ⟨_, rfl⟩
    have hWB : W.heap.size ≤ B := by rw [← hBe]; exact hB1.size
    have hBB : Below W.heap.size W w2 := hB1.on hal
    rw [hBe] at hbx hlt1 hO0 ⊢
    have HD0 : Hid (([] : List (List Int)).length = 0 ∧ ([] : List (List Int)) = orbsTo N gens 0 ∧ DInv N gens 0 []) := Lib.hid ⟨rfl, rfl, DInv.zero⟩
    clear hw2 hal hB1 hBe
    go_loopw [4, 20] (fun t i wr => ∃ (k : Nat) (D : List Int) (L : List (List Int)) (ta : Option Addr) (nt tc : Nat), i = .int .i64 k ∧ t = .slice ta nt tc ∧ k ≤ N ∧ nt ≤ k ∧ Hid (L.length = nt ∧ L = orbsTo N gens k ∧ DInv N gens k D) ∧ Box wr B (flagsP 256 D) 56 ∧ OTo wr W.heap.size (.slice ta nt tc) B L ∧ Below W.heap.size W wr) (fun _ i _ => N - (intOf i).toNat)
    case atStart => exact ⟨0, [], [], _, _, _, rfl, rfl, by omega, by omega, HD0, hbx, hO0, hBB⟩
    case round =>
      clear hbx hO0 hBB HD0 hlt1
      obtain ⟨k, D, L, ta, nt, tc, rfl, rfl, hk, hnt, HD, hbx, hT, hB⟩ := hrel
      by_cases hlt : k < N
      · have s0 : (0 : Int) ≤ (k : Int) := by omega
        have s1 : (k : Int) < (256 : Int) := by omega
        have d0 := hbx.cell k
        rw [flagsP_get _ _ (by omega)] at d0
        have gf := hbx.frozen k
        cases t : decide ((k : Int) ∈ D)
        · rw [t] at d0
          have HT := Lib.hid (of_decide_eq_false t)
          have HF : Hid (orbsTo N gens (k + 1) = L ++ [orbL N gens k]) := Lib.hid (by rw [orbsTo_succ, HD.out.2.2.first HOK.out hlt, t, HD.out.2.1]; rfl)
          clear t
          have hset := hbx.set k (.bool true)
          rw [flagsP_set _ _ (by omega)] at hset
          have hgs := kept_set (B := B) (World.grownBy_refl wr (some B)) k (.bool true)
          have hBs : Below W.heap.size W (wr.setCell ⟨B, k, none⟩ (.bool true)) := hB.setCell hWB _
          have hszs : (wr.setCell ⟨B, k, none⟩ (.bool true)).heap.size = wr.heap.size := by simp [World.setCell]
          have hbo := Box.new (wr.setCell ⟨B, k, none⟩ (.bool true)) #[.int .i64 k] 3
          have hal : Below (wr.setCell ⟨B, k, none⟩ (.bool true)).heap.size (wr.setCell ⟨B, k, none⟩ (.bool true)) ((wr.setCell ⟨B, k, none⟩ (.bool true)).alloc (.cells #[.int .i64 k] 3)) := (Below.refl _ _).alloc (Nat.le_refl _) _
          have hBl : B < wr.heap.size := hbx.lt
          rw [hszs] at hbo
          obtain ⟨w3, hw3⟩ : ∃ w3, (wr.setCell ⟨B, k, none⟩ (.bool true)).alloc (.cells #[.int .i64 k] 3) = w3 := ⟨_, rfl⟩
          rw [hw3] at hbo hal
          have hown : OwnInts w3 wr.heap.size 3 (.slice (some ⟨wr.heap.size, 0, none⟩) 1 1) [(k : Int)] := own_of_box hbo rfl rfl (Nat.le_refl _) (by omega)
          replace hset := hset.below hal
          have hgr : wr.grownBy w3 (some B) := kept_below hgs hal
          have hB3 : Below W.heap.size W w3 := hBs.on hal
          have HS0 : Hid (([k] : List Nat).length = 1 ∧ GrowO N gens k [k] ∧ bfsO gens (N - 0) 0 [k] = orbO N gens k) := Lib.hid ⟨rfl, ⟨by simp, by simp, fun x hx => by simp at hx; subst hx; exact .refl, fun x hx => by simp at hx; subst hx; exact hlt⟩, rfl⟩
          clear hgs hBs hbo hal hbx
          go_wp2_with fail
          (try rw [hw3])
          obtain ⟨wo, hwo⟩ : ∃ wo, wo = wr := ⟨_, rfl⟩
          rw [← hwo] at hgr hown hT hBl hB
          obtain ⟨oa0, hoa0⟩ : ∃ oa, some (⟨wr.heap.size, 0, none⟩ : Addr) = oa := ⟨_, rfl⟩
          rw [← hwo] at hoa0
          rw [← hwo]
          rw [hoa0] at hown ⊢
          clear hw3 hwo hszs gf d0 hoa0
          go_loopw [8, 9] (fun o i wz => ∃ (a : Nat) (s : List Nat) (oa : Option Addr) (on oc : Nat), i = .int .i64 a ∧ o = .slice oa on oc ∧ a ≤ on ∧ on ≤ N ∧ Hid (s.length = on ∧ GrowO N gens k s ∧ bfsO gens (N - a) a s = orbO N gens k) ∧ Box wz B (flagsP 256 (D ++ s.map Int.ofNat)) 56 ∧ OwnInts wz wo.heap.size 3 (.slice oa on oc) (s.map Int.ofNat) ∧ wo.grownBy wz (some B) ∧ Below W.heap.size W wz) (fun _ i _ => N - (intOf i).toNat)
          case atStart => exact ⟨0, [k], _, _, _, rfl, rfl, by omega, by omega, HS0, hset, hown, hgr, hB3⟩
          case round =>
            clear HS0 hset hown hgr hB3
            obtain ⟨a, s, oa, on, oc, rfl, rfl, ha, hon, HS, hbx, hO, hgr, hB3⟩ := hrel
            by_cases hla : a < on
            · have s2 : (0 : Int) ≤ (a : Int) := by omega
              have s3 : (a : Int) < (on : Int) := by omega
              obtain ⟨j, hj⟩ : ∃ j, s[a]? = some j := ⟨_, List.getElem?_eq_getElem (by rw [HS.out.1]; exact hla)⟩
              have HR0 : Hid (s.length = on ∧ GrowO N gens k s ∧ s[a]? = some j ∧ bfsO gens (N - (a + 1)) (a + 1) (stepO (gens.drop 0) j s) = orbO N gens k) := Lib.hid ⟨HS.out.1, HS.out.2.1, hj, by rw [List.drop_zero, ← bfsO_round hj (by omega)]; exact HS.out.2.2⟩
              clear hj HS
              go_wp2_with fail
              go_loopw [8, 38] (fun o i wz => ∃ (q : Nat) (s : List Nat) (oa : Option Addr) (on oc : Nat), i = .int .i64 q ∧ o = .slice oa on oc ∧ q ≤ m ∧ a < on ∧ on ≤ N ∧ Hid (s.length = on ∧ GrowO N gens k s ∧ s[a]? = some j ∧ bfsO gens (N - (a + 1)) (a + 1) (stepO (gens.drop q) j s) = orbO N gens k) ∧ Box wz B (flagsP 256 (D ++ s.map Int.ofNat)) 56 ∧ OwnInts wz wo.heap.size 3 (.slice oa on oc) (s.map Int.ofNat) ∧ wo.grownBy wz (some B) ∧ Below W.heap.size W wz) (fun _ i _ => m - (intOf i).toNat)
              case atStart => exact ⟨0, s, _, _, _, rfl, rfl, by omega, hla, hon, HR0, hbx, hO, hgr, hB3⟩
              case round =>
                clear HR0 hbx hO hgr hB3 s3 hla ha hon
                obtain ⟨q, s, oa, on, oc, rfl, rfl, hq, hla, hon, HS, hbx, hO, hgr, hB3⟩ := hrel
                have s3 : (a : Int) < (on : Int) := by omega
                by_cases hlq : q < m
                · obtain ⟨g, hg⟩ := h0.has hlq
                  obtain ⟨gb, go, rfl, hgb⟩ := h0.at' (by omega)
                  obtain ⟨ga, gn, gc, eg, hIg⟩ := (h0.below hB3).get hg
                  have HGO : Hid (okPerm g N) := Lib.hid (HOK.out g (List.mem_of_getElem? hg))
                  have hgn : gn = N := by rw [← hIg.len, HGO.out.len]
                  obtain rfl : N = gn := hgn.symm
                  clear hgn
                  have HST := Lib.hid (stepO_at (j := j) (s := s) hg)
                  have HGM := Lib.hid (List.mem_of_getElem? hg)
                  obtain ⟨oa', oc', eo, hIo⟩ := hO.ints
                  injection eo with e1 e2 e3
                  subst e1 e3
                  clear e2
                  rw [List.length_map, HS.out.1] at hIo
                  obtain ⟨ob, oo, rfl, hob⟩ := hIo.at' (by omega)
                  have eo := hIo.get (i := a) (x := (j : Int)) (by rw [List.getElem?_map, HS.out.2.2.1]; rfl)
                  have hjN : j < N := HS.out.2.1.lt j (List.mem_of_getElem? HS.out.2.2.1)
                  obtain ⟨gab, gao, rfl, hgab⟩ := hIg.at' (by omega)
                  have ej := hIg.get (HGO.out.get hjN).1
                  have HXN : Hid (((ap g j : Nat) : Int) ∈ D ++ s.map Int.ofNat ↔ ap g j ∈ s) := Lib.hid (HD.out.2.2.new HOK.out hlt HT.out HS.out.2.1 HGM.out (List.mem_of_getElem? HS.out.2.2.1))
                  have HADD : Hid (ap g j ∉ s → GrowO N gens k (s ++ [ap g j])) := Lib.hid (fun h => HS.out.2.1.add HOK.out HGM.out (List.mem_of_getElem? HS.out.2.2.1) h)
                  have hx : ap g j < N := HGO.out.lt hjN
                  obtain ⟨X, hX⟩ : ∃ X, ap g j = X := ⟨_, rfl⟩
                  rw [hX] at HST ej HXN HADD hx
                  have s4 : (0 : Int) ≤ (q : Int) := by omega
                  have s5 : (q : Int) < (m : Int) := by omega
                  have s6 : (0 : Int) ≤ (j : Int) := by omega
                  have s7 : (j : Int) < (N : Int) := by omega
                  have s8 : (0 : Int) ≤ (X : Int) := by omega
                  have s9 : (X : Int) < (256 : Int) := by omega
                  have d1 := hbx.cell X
                  rw [flagsP_get _ _ (by omega)] at d1
                  have gf := hbx.frozen X
                  clear hX hg hIg hIo hgb hob hgab
                  cases t : decide ((X : Int) ∈ D ++ s.map Int.ofNat)
                  · rw [t] at d1
                    have HNI : Hid (X ∉ s) := Lib.hid (fun h => of_decide_eq_false t (HXN.out.2 h))
                    clear t
                    have hset := hbx.set X (.bool true)
                    rw [flagsP_set _ _ (by omega)] at hset
                    have HSET := Lib.hid hset
                    have hgs := grownBy_setCell wr ⟨B, X, none⟩ (.bool true)
                    have hg2 := kept_set hgr X (.bool true)
                    have hB4 : Below W.heap.size W (wr.setCell ⟨B, X, none⟩ (.bool true)) := hB3.setCell hWB _
                    have hO2 := hO.grown hgs (.inr (fun e => by have := hO.lt B e; omega))
                    obtain ⟨ll, hll⟩ : ∃ ll, s.map Int.ofNat = ll := ⟨_, rfl⟩
                    have hlll : ll.length = on := by rw [← hll, List.length_map]; exact HS.out.1
                    rw [hll] at hO2
                    unfold OwnInts at hO2
                    rw [hlll] at hO2
                    have hol := hO2.lt
                    have hsz2 : wo.heap.size ≤ (wr.setCell ⟨B, X, none⟩ (.bool true)).heap.size := hg2.size
                    have hszz := hB4.size
                    have HN2 : Hid (s.length = on ∧ on + 1 ≤ N ∧ Box (wr.setCell ⟨B, X, none⟩ (.bool true)) B (flagsP 256 (D ++ s.map Int.ofNat ++ [(X : Int)])) 56) := Lib.hid ⟨HS.out.1, by have := (HADD.out HNI.out).len; rw [List.length_append, HS.out.1] at this; simpa using this, HSET.out⟩
                    have hon1 : on + 1 ≤ N := HN2.out.2.1
                    obtain ⟨w4, hw4⟩ : ∃ w4, wr.setCell ⟨B, X, none⟩ (.bool true) = w4 := ⟨_, rfl⟩
                    rw [hw4] at hg2 hB4 hO2 hol hsz2 hszz HN2
                    clear hset hbx hO hgr hB3 HSET hgs
                    go_wp2_with (at_builtin; refine wpList_append_own2 _ rfl _ _ 22 rfl wo.heap.size 3 i3 (.int .i64 0) 1 8 Try.underlying22 hi3 hz30 hz31 hz32 rfl (by decide) _ _ _ (hO2.alloc _) rfl ⟨_, 0, none⟩ 1 1 [.int .i64 X] rfl rfl (cell_one_new _ _ _) (by simp [Value.oneCell']) (by unfold maxLen; omega) (by omega) (by first | omega | (simp; omega)) ?_; intro v' w1 hown' hgrow hfr)
                    obtain ⟨va, vc, rfl, _, _⟩ := own_slice hown'
                    go_roundw
                    case rel =>
                      have hal : Below w4.heap.size w4 (w4.alloc (.cells #[.int .i64 X] 3)) := (Below.refl _ _).alloc (Nat.le_refl _) _
                      refine ⟨q + 1, s ++ [X], va, on + 1, vc, by go_num, rfl, by omega, by omega, hon1, Lib.hid ⟨by rw [List.length_append, HS.out.1]; rfl, HADD.out HNI.out, ?_, ?_⟩, ?_, ?_, ?_, ?_⟩
                      · rw [List.getElem?_append_left (by rw [HS.out.1]; exact hla)]; exact HS.out.2.2.1
                      · have := HS.out.2.2.2
                        rw [HST.out, if_neg HNI.out] at this
                        exact this
                      · rw [List.map_append, ← List.append_assoc]
                        exact (HN2.out.2.2.below hal).grown hgrow (fun e => by have := hol B e; omega)
                      · rw [List.map_append, hll]
                        exact OwnInts.snoc (by rw [hlll]; exact hown')
                      · exact kept_grown (kept_below hg2 hal) hgrow (fun r e => (hol r e).1)
                      · exact (hB4.on hal).grown hgrow (by have := hal.size; omega) (fun r e => by have := (hol r e).1; have := hB.size; omega)
                    case measure => simp [intOf]; omega
                  · rw [t] at d1
                    have HIN : Hid (X ∈ s) := Lib.hid (HXN.out.1 (of_decide_eq_true t))
                    clear t
                    go_wp2_with fail
                    go_roundw
                    case rel =>
                      refine ⟨q + 1, s, _, on, oc, by go_num, rfl, by omega, hla, hon, Lib.hid ⟨HS.out.1, HS.out.2.1, HS.out.2.2.1, ?_⟩, hbx, hO, hgr, hB3⟩
                      have := HS.out.2.2.2
                      rw [HST.out, if_pos HIN.out] at this
                      exact this
                    case measure => simp [intOf]; omega
                · obtain rfl : m = q := by omega
                  have HE : Hid (s.length = on ∧ GrowO N gens k s ∧ bfsO gens (N - (a + 1)) (a + 1) s = orbO N gens k) := Lib.hid ⟨HS.out.1, HS.out.2.1, by
                    have := HS.out.2.2.2
                    rw [stepO_last (by rw [hl0.out]; omega)] at this
                    exact this⟩
                  go_wp2_with fail
                  go_roundw
                  case rel => exact ⟨a + 1, s, oa, on, oc, by go_num, rfl, by omega, hon, HE, hbx, hO, hgr, hB3⟩
                  case measure => simp [intOf]; omega
            · obtain rfl : on = a := by omega
              have HE : Hid (s = orbO N gens k ∧ sortI (s.map Int.ofNat) = orbL N gens k) := Lib.hid (by
                have h1 : s = orbO N gens k := by rw [← HS.out.2.2, bfsO_end (by rw [HS.out.1]; omega)]
                exact ⟨h1, by rw [h1]; exact orb_sorted HOK.out hlt⟩)
              have HSO := Lib.hid (sort_own hO (by rw [List.length_map, HS.out.1]; omega))
              go_wp2_with fail
              refine HSO.out.mono ?_
              rintro e w6 ⟨rfl, hO6, hg6⟩
              rw [HE.out.2] at hO6
              have hol6 := hO6.lt
              have hol := hO.lt
              have hgr6 := kept_grown hgr hg6 (fun r e => (hol r e).1)
              have hB6 := hB3.grown hg6 hB3.size (fun r e => by have := (hol r e).1; have := hB.size; omega)
              have hbx6 := hbx.grown hg6 (fun e => by have := hol B e; omega)
              have hT6 := hT.kept hgr6
              have htl := hT.rows.lt
              obtain ⟨⟨us, hus, hold⟩, hne⟩ := hT6
              rw [HD.out.1] at hus
              have hul := hus.lt
              have HOLD := Lib.hid hold
              have HNE := Lib.hid hne
              have hoL : (orbL N gens k).length = on := by
                obtain ⟨_, _, e, _⟩ := hO6.ints
                injection e with _ e2 _
                exact e2.symm
              obtain ⟨a6, c6, e6, hI6⟩ := hO6.ints
              rw [hoL] at e6 hI6
              injection e6 with e1 e2 e3
              subst e1 e3
              clear e2
              have hbl6 := hbx6.lt
              have HX := Lib.hid (show D ++ s.map Int.ofNat = D ++ (orbO N gens k).map Int.ofNat by rw [HE.out.1])
              have hs6 := hB6.size
              clear hold hne HSO hg6 hgr hB3 hbx hO hol
              go_wp2_with (at_builtin; refine wpList_append_own2 _ rfl _ _ 31 rfl W.heap.size 22 i22 (.slice none 0 0) 1 24 Try.underlying31 hi22 hz220 hz221 hz222 rfl (by decide) _ _ _ (hus.alloc _) rfl ⟨_, 0, none⟩ 1 1 [.slice oa on oc] rfl rfl (cell_one_new _ _ _) (by simp [Value.oneCell']) (by unfold maxLen; omega) (by omega) (by first | omega | (simp; omega)) ?_; intro v' w1 hown' hgrow hfr)
              obtain ⟨va, vc, rfl, _, _⟩ := own_slice hown'
              go_roundw
              case rel =>
                have hal : Below w6.heap.size w6 (w6.alloc (.cells #[.slice oa on oc] 22)) := (Below.refl _ _).alloc (Nat.le_refl _) _
                refine ⟨k + 1, D ++ s.map Int.ofNat, L ++ [orbL N gens k], va, nt + 1, vc, by go_num, rfl, by omega, by omega, Lib.hid ⟨by rw [List.length_append, HD.out.1]; rfl, HF.out.symm, by rw [HX.out]; exact HD.out.2.2.more HOK.out hlt⟩, ?_, ?_, (hB6.on hal).grown hgrow (by have := hal.size; omega) (fun r e => (hul r e).1)⟩
                · exact (hbx6.below hal).grown hgrow (fun e => HNE.out e)
                · refine OTo.step ((HOLD.out.imp fun r h => PB.on hal.size h).below hal) (hI6.below hal) (fun r h0 e => ?_) HNE.out (by have := hal.size; omega) (by rw [HD.out.1]; exact hown') hgrow hfr
                  have h1 := hol6 r e
                  refine ⟨by have := hal.size; omega, fun e2 => ?_, by omega⟩
                  have h2 := htl r e2
                  omega
              case measure => simp [intOf]; omega
        · rw [t] at d0
          have HF : Hid (orbsTo N gens (k + 1) = L ∧ DInv N gens (k + 1) D) := Lib.hid ⟨by rw [orbsTo_succ, HD.out.2.2.first HOK.out hlt, t, HD.out.2.1]; simp, HD.out.2.2.skip hlt (of_decide_eq_true t)⟩
          clear t
          go_wp2_with fail
          go_roundw
          case rel => exact ⟨k + 1, D, L, ta, nt, tc, by go_num, rfl, by omega, by omega, Lib.hid ⟨HD.out.1, HF.out.1.symm, HF.out.2⟩, hbx, hT, hB⟩
          case measure => simp [intOf]; omega
      · obtain rfl : N = k := by omega
        obtain ⟨ta', tc', e, hR, _⟩ := hT.rows.rows
        injection e with e1 e2 e3
        subst e1 e3
        clear e2
        rw [HD.out.1] at hR
        go_wp2_with fail
        (refine bodyPost_ret (v := .tuple #[.slice ta nt tc, .int .i64 0]) (by simp [results, Try.results21, go_sem]) rfl ?_)
        exact ⟨ta, nt, tc, by rw [HC.out.2], by rw [HC.out.1, ← HD.out.2.1]; exact hR, hB⟩
  · have hne : (validE n gens != 0) = true := by simp [hv]
    have HC : Hid (orbR n gens = []) := Lib.hid (by unfold orbR; rw [if_pos hv])
    obtain ⟨ve, hve⟩ : ∃ ve, validE n gens = ve := ⟨_, rfl⟩
    rw [hve] at hV hne ⊢
    clear hv hve
    go_enter Try.func21, Try.ntmps21
    go_wp2_with fail
    refine hV.mono ?_
    rintro e w1 ⟨rfl, hB1⟩
    clear hV
    go_wp2_with fail
    (refine bodyPost_ret (v := .tuple #[.slice none 0 0, .int .i64 ve]) (by simp [results, Try.results21, go_sem]) rfl ?_)
    exact ⟨none, 0, 0, rfl, by rw [HC.out]; exact Rows.nil _, hB1⟩
end Go.Proofs.Ytkekkbbdhdamjaa
