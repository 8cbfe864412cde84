/- The references' results that count, and the times that suffice. -/
import Derived.Test.YtehoidohallfcaaGreatDoorRdD
namespace Go.Proofs.YtehoidohallfcaaGreatDoor
open Go.RowKit
def cpB (l : List Rs) (p : Int) (i k : Nat) : Bool := ((l.getD i R0).rt && decide ((l.getD i R0).pz = p)) && (List.range k).all fun k => !((l.getD k R0).rt && decide ((l.getD k R0).pz = p) && decide ((l.getD k R0).cm = (l.getD i R0).cm))
theorem cpB_all (l : List Rs) (p : Int) (i : Nat) : cpB l p i i = cntB l p i := rfl
theorem cpB_0 {l : List Rs} {p : Int} {i : Nat} {x : Rs} (hx : l[i]? = some x) : cpB l p i 0 = (x.rt && decide (x.pz = p)) := by
 unfold cpB
 rw [List.getD_eq_getElem?_getD, hx]
 simp
theorem cpB_step {l : List Rs} {p : Int} {i k : Nat} {x y : Rs} (hx : l[i]? = some x) (hy : l[k]? = some y) : cpB l p i (k + 1) = (cpB l p i k && !(y.rt && decide (y.pz = p) && decide (y.cm = x.cm))) := by
 unfold cpB
 rw [List.range_succ, List.all_append, ← Bool.and_assoc]
 congr 1
 rw [List.all_cons, List.all_nil, Bool.and_true, List.getD_eq_getElem?_getD, hy, List.getD_eq_getElem?_getD, hx]
 rfl
theorem cntTo_len' (l : List Rs) (p : Int) (n : Nat) : (cntTo l p n).length ≤ n := by
 unfold cntTo
 rw [List.length_map]
 exact Nat.le_trans (List.length_filter_le _ _) (by simp)
set_option maxRecDepth 20000 in
set_option maxHeartbeats 4000000 in
theorem rcounted_any (al : Option Addr) (nl cl : Nat) (l : List Rs) (p : Int) (W : World) (h0 : SL encRs 6 W al nl cl l) (hn : nl ≤ 1000000) :
 Calls Tryz.prog 83 #[.slice al nl cl, .int .i64 p] W (RetOwn W 3 (cntL l p)) := by
 have HL := Lib.hid h0.len
 have mL := h0.mx
 have cL := h0.cap
 unfold maxLen at mL
 go_enter Tryz.func83, Tryz.ntmps83
 go_wp2_with fail
 go_loopw [5, 6] (fun u i wr => ∃ k : Nat, i = .int .i64 k ∧ k ≤ nl ∧ OwnInts wr W.heap.size 3 u (cntTo l p k) ∧ Below W.heap.size W wr) (fun _ i _ => nl - (intOf i).toNat)
 case atStart => exact ⟨0, rfl, by omega, OwnInts.nil _ _ _, Below.refl _ _⟩
 case round =>
  obtain ⟨i, rfl, hi, hO, hB⟩ := hrel
  have s0 : (0 : Int) ≤ (i : Int) := by omega
  by_cases hlt : i < nl
  rotate_left
  · obtain rfl : nl = i := by omega
    have HO : Hid (OwnInts wr W.heap.size 3 u5 (cntL l p)) := Lib.hid (by unfold cntL; rw [HL.out]; exact hO)
    clear hO
    go_wp2_with fail
    go_ret
    exact ⟨_, rfl, HO.out, hB⟩
  have s1 : (i : Int) < (nl : Int) := by omega
  obtain ⟨b, o, rfl, hb⟩ := h0.at' (by omega)
  obtain ⟨x, hx⟩ := h0.get hlt
  obtain ⟨e0, e1, -, -, -, e5⟩ := (h0.below hB).rs6 hx
  have HX := Lib.hid hx
  have HC0 := Lib.hid (cpB_0 (p := p) hx)
  have hlen := cntTo_len' l p i
  have HST := Lib.hid (cntTo_succ l p i)
  obtain ⟨L, hLe⟩ : ∃ L, cntTo l p i = L := ⟨_, rfl⟩
  obtain ⟨N, hN⟩ : ∃ N, L.length = N := ⟨_, rfl⟩
  rw [hLe] at hO hlen HST
  rw [hN] at hlen
  have hol := hO.lt
  have hsz := hB.size
  unfold OwnInts at hO
  rw [hN] at hO
  have HN := Lib.hid hN
  obtain ⟨av, cv, rfl, _, _⟩ := own_slice hO
  have HO := Lib.hid hO
  have HOL := Lib.hid hol
  obtain ⟨wo, hwo⟩ : ∃ wo, wo = wr := ⟨_, rfl⟩
  rw [← hwo] at HO hB hsz e0 e1 e5 ⊢
  have HB := Lib.hid hB
  clear hwo hx hLe hN hO hol hB
  obtain ⟨xr, hxr⟩ : ∃ xr, x.rt = xr := ⟨_, rfl⟩
  rw [hxr] at e5 HC0
  clear hxr
  cases xr
  · skip
    go_wp2_with fail
    go_loopw [7, 8] (fun f i' wr => ∃ k : Nat, i' = .int .i64 k ∧ k ≤ i ∧ f = .bool (cpB l p i k) ∧ Below wo.heap.size wo wr) (fun _ i' _ => i - (intOf i').toNat)
    case atStart => exact ⟨0, rfl, by omega, by rw [HC0.out]; simp [*], Below.refl _ _⟩
    case round =>
     clear e0 e1 e5
     obtain ⟨k, rfl, hk, rfl, hBk⟩ := hrel
     have t0 : (0 : Int) ≤ (k : Int) := by omega
     have hsk := hBk.size
     have HB2 := Lib.hid (HB.out.on hBk)
     have HBk := Lib.hid hBk
     by_cases hki : k < i
     · have t1 : (k : Int) < (i : Int) := by omega
       have t2 : (k : Int) < (nl : Int) := by omega
       obtain ⟨y, hy⟩ := h0.get (show k < nl by omega)
       obtain ⟨e0, -, -, -, -, -⟩ := (h0.below HB2.out).rs6 HX.out
       obtain ⟨f0, f1, -, -, -, f5⟩ := (h0.below HB2.out).rs6 hy
       have HS := Lib.hid (cpB_step (p := p) HX.out hy)
       obtain ⟨c, hc⟩ : ∃ c, cpB l p i k = c := ⟨_, rfl⟩
       rw [hc] at HS ⊢
       obtain ⟨yr, hyr⟩ : ∃ yr, y.rt = yr := ⟨_, rfl⟩
       rw [hyr] at f5 HS
       clear hy hc hyr hBk
       cases yr
       · have HS2 : Hid (cpB l p i (k + 1) = c) := Lib.hid (by rw [HS.out]; simp)
         clear HS
         go_wp2_with (go_quiet (fail))
         go_roundw
         case rel => exact ⟨k + 1, by go_num, by omega, by rw [HS2.out], below_drewN HBk.out _⟩
         case measure => simp [intOf]; omega
       by_cases c1 : y.pz = p
       rotate_left
       · have n1 : (y.pz == p) = false := by simpa using c1
         have HS2 : Hid (cpB l p i (k + 1) = c) := Lib.hid (by rw [HS.out]; simp [c1])
         clear c1 HS
         go_wp2_with (go_quiet (fail))
         go_roundw
         case rel => exact ⟨k + 1, by go_num, by omega, by rw [HS2.out], below_drewN HBk.out _⟩
         case measure => simp [intOf]; omega
       have n1 : (y.pz == p) = true := by simpa using c1
       by_cases c2 : y.cm = x.cm
       rotate_left
       · have n2 : (y.cm == x.cm) = false := by simpa using c2
         have HS2 : Hid (cpB l p i (k + 1) = c) := Lib.hid (by rw [HS.out]; simp [c2])
         clear c1 c2 HS
         go_wp2_with (go_quiet (fail))
         go_roundw
         case rel => exact ⟨k + 1, by go_num, by omega, by rw [HS2.out], below_drewN HBk.out _⟩
         case measure => simp [intOf]; omega
       have n2 : (y.cm == x.cm) = true := by simpa using c2
       have HS2 : Hid (cpB l p i (k + 1) = false) := Lib.hid (by rw [HS.out]; simp [c1, c2])
       clear c1 c2 HS
       go_wp2_with (go_quiet (fail))
       go_roundw
       case rel => exact ⟨k + 1, by go_num, by omega, by rw [HS2.out], below_drewN HBk.out _⟩
       case measure => simp [intOf]; omega
     · obtain rfl : i = k := by omega
       rw [cpB_all]
       have hO2 := ownsRow_below' HO.out hBk
       have hsz2 := HB2.out.size
       cases hcb : cntB l p i
       · have HS2 : Hid (cntTo l p (i + 1) = L) := Lib.hid (by rw [HST.out, hcb]; simp)
         have HO2 := Lib.hid hO2
         clear hcb hO2 hBk
         go_wp2_with fail
         go_roundw
         case rel => exact ⟨i + 1, by go_num, by omega, by rw [HS2.out]; unfold OwnInts; rw [HN.out]; exact HO2.out, HB2.out⟩
         case measure => simp [intOf]; omega
       · have HS2 : Hid (cntTo l p (i + 1) = L ++ [(i : Int)]) := Lib.hid (by rw [HST.out, hcb]; simp)
         obtain ⟨i3, hi3, hz30, hz31, hz32⟩ := info_parts info_int
         clear hcb hBk
         go_wp2_with (at_builtin; refine wpList_append_own2 _ rfl _ _ 22 rfl W.heap.size 3 i3 (.int .i64 0) 1 8 Tryz.underlying22 hi3 hz30 hz31 hz32 rfl (by decide) _ _ _ (hO2.alloc _) rfl ⟨_, 0, none⟩ 1 1 [.int .i64 (i : Int)] rfl rfl (cell_one_new _ _ _) (by simp [Value.oneCell']) (by unfold maxLen; omega) (by omega) (by first | omega | (simp; omega)) ?_; intro v' w1 hown' hgrow hfr)
         go_roundw
         case rel =>
          refine ⟨i + 1, by go_num, by omega, ?_, (HB2.out.alloc hsz2 _).grown hgrow (by simp; omega) (fun q e => (HOL.out q e).1)⟩
          rw [HS2.out]
          exact OwnInts.snoc (by rw [HN.out]; exact hown')
         case measure => simp [intOf]; omega
  by_cases c0 : x.pz = p
  · have n0 : (x.pz == p) = true := by simpa using c0
    go_wp2_with fail
    go_loopw [7, 8] (fun f i' wr => ∃ k : Nat, i' = .int .i64 k ∧ k ≤ i ∧ f = .bool (cpB l p i k) ∧ Below wo.heap.size wo wr) (fun _ i' _ => i - (intOf i').toNat)
    case atStart => exact ⟨0, rfl, by omega, by rw [HC0.out]; simp [*], Below.refl _ _⟩
    case round =>
     clear e0 e1 e5
     obtain ⟨k, rfl, hk, rfl, hBk⟩ := hrel
     have t0 : (0 : Int) ≤ (k : Int) := by omega
     have hsk := hBk.size
     have HB2 := Lib.hid (HB.out.on hBk)
     have HBk := Lib.hid hBk
     by_cases hki : k < i
     · have t1 : (k : Int) < (i : Int) := by omega
       have t2 : (k : Int) < (nl : Int) := by omega
       obtain ⟨y, hy⟩ := h0.get (show k < nl by omega)
       obtain ⟨e0, -, -, -, -, -⟩ := (h0.below HB2.out).rs6 HX.out
       obtain ⟨f0, f1, -, -, -, f5⟩ := (h0.below HB2.out).rs6 hy
       have HS := Lib.hid (cpB_step (p := p) HX.out hy)
       obtain ⟨c, hc⟩ : ∃ c, cpB l p i k = c := ⟨_, rfl⟩
       rw [hc] at HS ⊢
       obtain ⟨yr, hyr⟩ : ∃ yr, y.rt = yr := ⟨_, rfl⟩
       rw [hyr] at f5 HS
       clear hy hc hyr hBk
       cases yr
       · have HS2 : Hid (cpB l p i (k + 1) = c) := Lib.hid (by rw [HS.out]; simp)
         clear HS
         go_wp2_with (go_quiet (fail))
         go_roundw
         case rel => exact ⟨k + 1, by go_num, by omega, by rw [HS2.out], below_drewN HBk.out _⟩
         case measure => simp [intOf]; omega
       by_cases c1 : y.pz = p
       rotate_left
       · have n1 : (y.pz == p) = false := by simpa using c1
         have HS2 : Hid (cpB l p i (k + 1) = c) := Lib.hid (by rw [HS.out]; simp [c1])
         clear c1 HS
         go_wp2_with (go_quiet (fail))
         go_roundw
         case rel => exact ⟨k + 1, by go_num, by omega, by rw [HS2.out], below_drewN HBk.out _⟩
         case measure => simp [intOf]; omega
       have n1 : (y.pz == p) = true := by simpa using c1
       by_cases c2 : y.cm = x.cm
       rotate_left
       · have n2 : (y.cm == x.cm) = false := by simpa using c2
         have HS2 : Hid (cpB l p i (k + 1) = c) := Lib.hid (by rw [HS.out]; simp [c2])
         clear c1 c2 HS
         go_wp2_with (go_quiet (fail))
         go_roundw
         case rel => exact ⟨k + 1, by go_num, by omega, by rw [HS2.out], below_drewN HBk.out _⟩
         case measure => simp [intOf]; omega
       have n2 : (y.cm == x.cm) = true := by simpa using c2
       have HS2 : Hid (cpB l p i (k + 1) = false) := Lib.hid (by rw [HS.out]; simp [c1, c2])
       clear c1 c2 HS
       go_wp2_with (go_quiet (fail))
       go_roundw
       case rel => exact ⟨k + 1, by go_num, by omega, by rw [HS2.out], below_drewN HBk.out _⟩
       case measure => simp [intOf]; omega
     · obtain rfl : i = k := by omega
       rw [cpB_all]
       have hO2 := ownsRow_below' HO.out hBk
       have hsz2 := HB2.out.size
       cases hcb : cntB l p i
       · have HS2 : Hid (cntTo l p (i + 1) = L) := Lib.hid (by rw [HST.out, hcb]; simp)
         have HO2 := Lib.hid hO2
         clear hcb hO2 hBk
         go_wp2_with fail
         go_roundw
         case rel => exact ⟨i + 1, by go_num, by omega, by rw [HS2.out]; unfold OwnInts; rw [HN.out]; exact HO2.out, HB2.out⟩
         case measure => simp [intOf]; omega
       · have HS2 : Hid (cntTo l p (i + 1) = L ++ [(i : Int)]) := Lib.hid (by rw [HST.out, hcb]; simp)
         obtain ⟨i3, hi3, hz30, hz31, hz32⟩ := info_parts info_int
         clear hcb hBk
         go_wp2_with (at_builtin; refine wpList_append_own2 _ rfl _ _ 22 rfl W.heap.size 3 i3 (.int .i64 0) 1 8 Tryz.underlying22 hi3 hz30 hz31 hz32 rfl (by decide) _ _ _ (hO2.alloc _) rfl ⟨_, 0, none⟩ 1 1 [.int .i64 (i : Int)] rfl rfl (cell_one_new _ _ _) (by simp [Value.oneCell']) (by unfold maxLen; omega) (by omega) (by first | omega | (simp; omega)) ?_; intro v' w1 hown' hgrow hfr)
         go_roundw
         case rel =>
          refine ⟨i + 1, by go_num, by omega, ?_, (HB2.out.alloc hsz2 _).grown hgrow (by simp; omega) (fun q e => (HOL.out q e).1)⟩
          rw [HS2.out]
          exact OwnInts.snoc (by rw [HN.out]; exact hown')
         case measure => simp [intOf]; omega
  · have n0 : (x.pz == p) = false := by simpa using c0
    go_wp2_with fail
    go_loopw [7, 8] (fun f i' wr => ∃ k : Nat, i' = .int .i64 k ∧ k ≤ i ∧ f = .bool (cpB l p i k) ∧ Below wo.heap.size wo wr) (fun _ i' _ => i - (intOf i').toNat)
    case atStart => exact ⟨0, rfl, by omega, by rw [HC0.out]; simp [*], Below.refl _ _⟩
    case round =>
     clear e0 e1 e5
     obtain ⟨k, rfl, hk, rfl, hBk⟩ := hrel
     have t0 : (0 : Int) ≤ (k : Int) := by omega
     have hsk := hBk.size
     have HB2 := Lib.hid (HB.out.on hBk)
     have HBk := Lib.hid hBk
     by_cases hki : k < i
     · have t1 : (k : Int) < (i : Int) := by omega
       have t2 : (k : Int) < (nl : Int) := by omega
       obtain ⟨y, hy⟩ := h0.get (show k < nl by omega)
       obtain ⟨e0, -, -, -, -, -⟩ := (h0.below HB2.out).rs6 HX.out
       obtain ⟨f0, f1, -, -, -, f5⟩ := (h0.below HB2.out).rs6 hy
       have HS := Lib.hid (cpB_step (p := p) HX.out hy)
       obtain ⟨c, hc⟩ : ∃ c, cpB l p i k = c := ⟨_, rfl⟩
       rw [hc] at HS ⊢
       obtain ⟨yr, hyr⟩ : ∃ yr, y.rt = yr := ⟨_, rfl⟩
       rw [hyr] at f5 HS
       clear hy hc hyr hBk
       cases yr
       · have HS2 : Hid (cpB l p i (k + 1) = c) := Lib.hid (by rw [HS.out]; simp)
         clear HS
         go_wp2_with (go_quiet (fail))
         go_roundw
         case rel => exact ⟨k + 1, by go_num, by omega, by rw [HS2.out], below_drewN HBk.out _⟩
         case measure => simp [intOf]; omega
       by_cases c1 : y.pz = p
       rotate_left
       · have n1 : (y.pz == p) = false := by simpa using c1
         have HS2 : Hid (cpB l p i (k + 1) = c) := Lib.hid (by rw [HS.out]; simp [c1])
         clear c1 HS
         go_wp2_with (go_quiet (fail))
         go_roundw
         case rel => exact ⟨k + 1, by go_num, by omega, by rw [HS2.out], below_drewN HBk.out _⟩
         case measure => simp [intOf]; omega
       have n1 : (y.pz == p) = true := by simpa using c1
       by_cases c2 : y.cm = x.cm
       rotate_left
       · have n2 : (y.cm == x.cm) = false := by simpa using c2
         have HS2 : Hid (cpB l p i (k + 1) = c) := Lib.hid (by rw [HS.out]; simp [c2])
         clear c1 c2 HS
         go_wp2_with (go_quiet (fail))
         go_roundw
         case rel => exact ⟨k + 1, by go_num, by omega, by rw [HS2.out], below_drewN HBk.out _⟩
         case measure => simp [intOf]; omega
       have n2 : (y.cm == x.cm) = true := by simpa using c2
       have HS2 : Hid (cpB l p i (k + 1) = false) := Lib.hid (by rw [HS.out]; simp [c1, c2])
       clear c1 c2 HS
       go_wp2_with (go_quiet (fail))
       go_roundw
       case rel => exact ⟨k + 1, by go_num, by omega, by rw [HS2.out], below_drewN HBk.out _⟩
       case measure => simp [intOf]; omega
     · obtain rfl : i = k := by omega
       rw [cpB_all]
       have hO2 := ownsRow_below' HO.out hBk
       have hsz2 := HB2.out.size
       cases hcb : cntB l p i
       · have HS2 : Hid (cntTo l p (i + 1) = L) := Lib.hid (by rw [HST.out, hcb]; simp)
         have HO2 := Lib.hid hO2
         clear hcb hO2 hBk
         go_wp2_with fail
         go_roundw
         case rel => exact ⟨i + 1, by go_num, by omega, by rw [HS2.out]; unfold OwnInts; rw [HN.out]; exact HO2.out, HB2.out⟩
         case measure => simp [intOf]; omega
       · have HS2 : Hid (cntTo l p (i + 1) = L ++ [(i : Int)]) := Lib.hid (by rw [HST.out, hcb]; simp)
         obtain ⟨i3, hi3, hz30, hz31, hz32⟩ := info_parts info_int
         clear hcb hBk
         go_wp2_with (at_builtin; refine wpList_append_own2 _ rfl _ _ 22 rfl W.heap.size 3 i3 (.int .i64 0) 1 8 Tryz.underlying22 hi3 hz30 hz31 hz32 rfl (by decide) _ _ _ (hO2.alloc _) rfl ⟨_, 0, none⟩ 1 1 [.int .i64 (i : Int)] rfl rfl (cell_one_new _ _ _) (by simp [Value.oneCell']) (by unfold maxLen; omega) (by omega) (by first | omega | (simp; omega)) ?_; intro v' w1 hown' hgrow hfr)
         go_roundw
         case rel =>
          refine ⟨i + 1, by go_num, by omega, ?_, (HB2.out.alloc hsz2 _).grown hgrow (by simp; omega) (fun q e => (HOL.out q e).1)⟩
          rw [HS2.out]
          exact OwnInts.snoc (by rw [HN.out]; exact hown')
         case measure => simp [intOf]; omega
open Go.RowKit
theorem rs_of_own {l : List Rs} {own : List Int} {i : Nat} {xi : Int} {x : Rs} (ho : own[i]? = some xi) (hx : l[xi.toNat]? = some x) : rsAt l (own.getD i 0) = x := by
 unfold rsAt
 rw [List.getD_eq_getElem?_getD, List.getD_eq_getElem?_getD, ho]
 simp only [Option.getD_some]
 rw [hx]; rfl
set_option maxRecDepth 20000 in
set_option maxHeartbeats 4000000 in
theorem rtimes_any (al : Option Addr) (nl cl : Nat) (l : List Rs) (oa : Option Addr) (on oc : Nat) (own : List Int) (i : Nat) (W : World) (h0 : SL encRs 6 W al nl cl l) (ho : Ints W oa on oc own) (hown : ∀ x ∈ own, 0 ≤ x ∧ x < l.length) (hiv : OkIv (ivOf l own)) (hi : i < on) (hon : on ≤ 100) :
 Calls Tryz.prog 122 #[.slice al nl cl, .slice oa on oc, .int .i64 i] W (RetOwn W 3 (tmL (ivOf l own) i)) := by
 have HL := Lib.hid h0.len
 have HON := Lib.hid ho.len
 have mL := h0.mx
 have cL := h0.cap
 have mO := ho.mx
 have cO := ho.cap
 unfold maxLen at mL mO
 have HVL : Hid ((ivOf l own).length = on) := Lib.hid (by rw [ivOf_len, ho.len])
 have HIV := Lib.hid hiv
 have HOWN := Lib.hid hown
 clear hiv hown
 obtain ⟨ob, oo, rfl, hob⟩ := ho.at' (by omega)
 obtain ⟨xi, hxi⟩ := ho.has hi
 obtain ⟨xi0, xi1⟩ := HOWN.out xi (List.mem_of_getElem? hxi)
 rw [HL.out] at xi1
 obtain ⟨ni, rfl⟩ : ∃ ni : Nat, xi = (ni : Int) := ⟨xi.toNat, by omega⟩
 have hni : ni < nl := by omega
 obtain ⟨lb, lo, rfl, hlb⟩ := h0.at' (by omega)
 obtain ⟨x, hx⟩ := h0.get hni
 obtain ⟨-, -, -, e3, e4, -⟩ := h0.rs6 hx
 have ei := ho.get hxi
 have hiR := iv_get (l := l) (own := own) (i := i) (by rw [HON.out]; exact hi)
 rw [rs_of_own hxi hx] at hiR
 have hbd := HIV.out i (by rw [HVL.out]; exact hi)
 rw [hiR.1, hiR.2] at hbd
 have HIR := Lib.hid hiR
 have hbx := Box.new W #[.int .i64 x.lo, .int .i64 x.hi] 51
 have hbb : Below W.heap.size W (W.alloc (.cells #[.int .i64 x.lo, .int .i64 x.hi] 51)) := (Below.refl _ _).alloc (Nat.le_refl _) _
 have s0 : (0 : Int) ≤ (i : Int) := by omega
 have s1 : (i : Int) < (on : Int) := by omega
 clear hxi hx hiR
 go_enter Tryz.func122, Tryz.ntmps122
 go_wp2_with fail
 clear e3 e4 ei
 obtain ⟨w0, hw0⟩ : ∃ w0, W.alloc (.cells #[.int .i64 x.lo, .int .i64 x.hi] 51) = w0 := ⟨_, rfl⟩
 rw [hw0] at hbx hbb ⊢
 clear hw0
 have HBX := Lib.hid hbx
 have HBB := Lib.hid hbb
 have hz0 := hbx.lt
 clear hbx hbb
 go_loopw [7, 9] (fun u k wr => ∃ k' : Nat, k = .int .i64 k' ∧ k' ≤ on ∧ OwnInts wr w0.heap.size 3 u (tmTo (ivOf l own) i k') ∧ Below w0.heap.size w0 wr) (fun _ k _ => on - (intOf k).toNat)
 case atStart => exact ⟨0, rfl, by omega, OwnInts.nil _ _ _, Below.refl _ _⟩
 case round =>
  obtain ⟨k, rfl, hk, hO, hB⟩ := hrel
  have k0 : (0 : Int) ≤ (k : Int) := by omega
  by_cases hlt : k < on
  rotate_left
  · obtain rfl : on = k := by omega
    have HO : Hid (OwnInts wr w0.heap.size 3 u7 (tmL (ivOf l own) i)) := Lib.hid (by unfold tmL; rw [HVL.out]; exact hO)
    have hzz := HBB.out.size
    have HB := Lib.hid hB
    clear hO hB
    go_wp2_with fail
    go_ret
    exact ⟨_, rfl, HO.out.mono hzz, HBB.out.on HB.out⟩
  have k1 : (k : Int) < (on : Int) := by omega
  obtain ⟨xk, hxk⟩ := ho.has hlt
  obtain ⟨xk0, xk1⟩ := HOWN.out xk (List.mem_of_getElem? hxk)
  rw [HL.out] at xk1
  obtain ⟨nk, rfl⟩ : ∃ nk : Nat, xk = (nk : Int) := ⟨xk.toNat, by omega⟩
  have hnk : nk < nl := by omega
  obtain ⟨y, hy⟩ := h0.get hnk
  have hkR := iv_get (l := l) (own := own) (i := k) (by rw [HON.out]; exact hlt)
  rw [rs_of_own hxk hy] at hkR
  have hbk := HIV.out k (by rw [HVL.out]; exact hlt)
  rw [hkR.1, hkR.2] at hbk
  have HNX : Hid (tmTo (ivOf l own) i (k + 1) = tmRow x.lo x.hi y.lo (tmTo (ivOf l own) i k) on) := Lib.hid (by
   show tmRow (ivLo (ivOf l own) i) (ivHi (ivOf l own) i) (ivLo (ivOf l own) k) (tmTo (ivOf l own) i k) (ivOf l own).length = _
   rw [HIR.out.1, HIR.out.2, hkR.1, HVL.out])
  have hlen := tmTo_len (ivOf l own) i k
  rw [HVL.out] at hlen
  have hlen2 : k * on ≤ 10000 := Nat.le_trans (Nat.mul_le_mul (show k ≤ 100 by omega) hon) (by omega)
  obtain ⟨L0, hL0⟩ : ∃ L0, tmTo (ivOf l own) i k = L0 := ⟨_, rfl⟩
  rw [hL0] at hO HNX hlen
  have HXK := Lib.hid hxk
  have HY := Lib.hid hy
  obtain ⟨wo, hwo⟩ : ∃ wo, wo = wr := ⟨_, rfl⟩
  rw [← hwo] at hO hB ⊢
  have HO := Lib.hid hO
  have HB := Lib.hid hB
  clear hwo hxk hy hkR hO hB hL0
  go_wp2_with fail
  go_loopw [7, 10] (fun u d wr => ∃ d' : Nat, d = .int .i64 d' ∧ d' ≤ on ∧ OwnInts wr w0.heap.size 3 u (tmRow x.lo x.hi y.lo L0 d') ∧ Below w0.heap.size w0 wr) (fun _ d _ => on - (intOf d).toNat)
  case atStart => exact ⟨0, rfl, by omega, HO.out, HB.out⟩
  case round =>
   clear HO HB
   obtain ⟨d, rfl, hd, hO, hB⟩ := hrel
   have d0 : (0 : Int) ≤ (d : Int) := by omega
   by_cases hdn : d < on
   rotate_left
   · obtain rfl : on = d := by omega
     rw [← HNX.out] at hO
     have HO := Lib.hid hO
     have HB := Lib.hid hB
     clear hO hB
     go_wp2_with fail
     go_roundw
     case rel => exact ⟨k + 1, by go_num, by omega, HO.out, HB.out⟩
     case measure => simp [intOf]; omega
   have d1 : (d : Int) < (on : Int) := by omega
   have hBW := HBB.out.on hB
   have ek := (ho.below hBW).get HXK.out
   obtain ⟨-, -, -, f3, -, -⟩ := (h0.below hBW).rs6 HY.out
   have hbx := HBX.out.below hB
   have b0 : wr.cell? ⟨W.heap.size, 0, none⟩ = some (.int .i64 x.lo) := by simpa using hbx.cell 0
   have b1 : wr.cell? ⟨W.heap.size, 1, none⟩ = some (.int .i64 x.hi) := by simpa using hbx.cell 1
   have hrl := tmRow_len x.lo x.hi y.lo L0 d
   have HPT : Hid (tmRow x.lo x.hi y.lo L0 (d + 1) = tmPut x.lo x.hi (tmRow x.lo x.hi y.lo L0 d) (y.lo + (d : Int))) := Lib.hid rfl
   obtain ⟨L, hL⟩ : ∃ L, tmRow x.lo x.hi y.lo L0 d = L := ⟨_, rfl⟩
   rw [hL] at hO HPT hrl
   obtain ⟨N, hN⟩ : ∃ N, L.length = N := ⟨_, rfl⟩
   have HN := Lib.hid hN
   have hol := hO.lt
   obtain ⟨ua, uc, rfl, hUI⟩ := hO.ints
   rw [hN] at hUI hrl hol ⊢
   have hO2 := hO
   unfold OwnInts at hO2
   rw [hN] at hO2
   have HO := Lib.hid hO2
   have HOL := Lib.hid hol
   have HUI := Lib.hid hUI
   have HB := Lib.hid hB
   have hwz := hB.size
   have hwr : IntKind.i64.wrap (y.lo + (d : Int)) = y.lo + (d : Int) := by rw [IntKind.wrap_i64]; omega
   obtain ⟨t, ht⟩ : ∃ t, y.lo + (d : Int) = t := ⟨_, rfl⟩
   rw [ht] at hwr HPT
   have HTT := Lib.hid ht
   clear hO hO2 hol hUI hB hBW hbx hL hN
   by_cases c1 : x.lo ≤ t
   rotate_left
   · have n1 : decide (x.lo ≤ t) = false := by simpa using c1
     have HS : Hid (tmRow x.lo x.hi y.lo L0 (d + 1) = L) := Lib.hid (by rw [HPT.out]; unfold tmPut; rw [if_neg (by omega)])
     go_wp2_with fail
     go_roundw
     case rel => exact ⟨d + 1, by go_num, by omega, by rw [HS.out]; unfold OwnInts; rw [HN.out]; exact HO.out, HB.out⟩
     case measure => simp [intOf]; omega
   have n1 : decide (x.lo ≤ t) = true := by simpa using c1
   by_cases c2 : t ≤ x.hi
   rotate_left
   · have n2 : decide (t ≤ x.hi) = false := by simpa using c2
     have HS : Hid (tmRow x.lo x.hi y.lo L0 (d + 1) = L) := Lib.hid (by rw [HPT.out]; unfold tmPut; rw [if_neg (by omega)])
     go_wp2_with fail
     go_roundw
     case rel => exact ⟨d + 1, by go_num, by omega, by rw [HS.out]; unfold OwnInts; rw [HN.out]; exact HO.out, HB.out⟩
     case measure => simp [intOf]; omega
   have n2 : decide (t ≤ x.hi) = true := by simpa using c2
   have HIN := Lib.hid (in13_any ua N uc L t wr HUI.out)
   go_wp2_with fail
   refine HIN.out.mono ?_
   rintro e w' ⟨rfl, rfl⟩
   by_cases c3 : t ∈ L
   · rw [decide_eq_true c3]
     have HS : Hid (tmRow x.lo x.hi y.lo L0 (d + 1) = L) := Lib.hid (by rw [HPT.out]; unfold tmPut; rw [if_neg (fun h => h.2.2 c3)])
     clear c3
     go_wp2_with fail
     go_roundw
     case rel => exact ⟨d + 1, by go_num, by omega, by rw [HS.out]; unfold OwnInts; rw [HN.out]; exact HO.out, HB.out⟩
     case measure => simp [intOf]; omega
   · rw [decide_eq_false c3]
     have HS : Hid (tmRow x.lo x.hi y.lo L0 (d + 1) = L ++ [t]) := Lib.hid (by rw [HPT.out]; unfold tmPut; rw [if_pos ⟨c1, c2, c3⟩])
     have hO2 := HO.out
     obtain ⟨i3, hi3, hz30, hz31, hz32⟩ := info_parts info_int
     clear c3
     go_wp2_with (at_builtin; refine wpList_append_own2 _ rfl _ _ 22 rfl w0.heap.size 3 i3 (.int .i64 0) 1 8 Tryz.underlying22 hi3 hz30 hz31 hz32 rfl (by decide) _ _ _ (hO2.alloc _) rfl ⟨_, 0, none⟩ 1 1 [.int .i64 t] rfl rfl (cell_one_new _ _ _) (by simp [Value.oneCell']) (by unfold maxLen; omega) (by omega) (by first | omega | (simp; omega)) ?_; intro v' w1 hown' hgrow hfr)
     go_roundw
     case rel =>
      refine ⟨d + 1, by go_num, by omega, ?_, (HB.out.alloc hwz _).grown hgrow (by simp; omega) (fun q e => (HOL.out q e).1)⟩
      rw [HS.out]
      exact OwnInts.snoc (by rw [HN.out]; exact hown')
     case measure => simp [intOf]; omega
end Go.Proofs.YtehoidohallfcaaGreatDoor
