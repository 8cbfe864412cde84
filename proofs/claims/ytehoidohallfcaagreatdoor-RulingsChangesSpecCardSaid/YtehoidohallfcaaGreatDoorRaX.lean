/- The references' Add: the points of a puzzle added to totals. -/
import Derived.Test.YtehoidohallfcaaGreatDoorRdX
import Derived.Test.YtehoidohallfcaaGreatDoorRuX
import Derived.Test.YtehoidohallfcaaGreatDoorOrX
namespace Go.Proofs.YtehoidohallfcaaGreatDoor
open Go.RowKit
theorem ownIs_set {w : World} {base b n c : Nat} {e : TypeId} {l : List Int} (h : OwnInts w base e (.slice (some ⟨b, 0, none⟩) n c) l) (hn : l.length = n) {x : Nat} (hx : x < n) (v : Int) : OwnInts (w.setCell ⟨b, x, none⟩ (.int .i64 v)) base e (.slice (some ⟨b, 0, none⟩) n c) (l.set x v) := by
 unfold OwnInts at h ⊢
 rw [List.length_set, List.map_set, hn]
 rw [hn] at h
 exact ownsRow_set h x _ (by omega)
theorem own_ints3 {w : World} {base n c : Nat} {e : TypeId} {a : Option Addr} {l : List Int} (h : OwnInts w base e (.slice a n c) l) (hn : l.length = n) : Ints w a n c l := by
 unfold OwnInts at h
 rw [hn] at h
 exact own_ints2 h hn
set_option maxHeartbeats 8000000 in
set_option maxRecDepth 100000 in
theorem radd53_any (hpt : RPtC) (S : Sp) (al : Option Addr) (nl cl : Nat) (l : List Rs) (p : Nat) (oa : Option Addr) (on oc : Nat) (own : List Int) (qa : Option Addr) (qc : Nat) (pl : List Int) (ta : Option Addr) (tn tc : Nat) (t : List Int) (W : World)
 (hS : S.In W) (h0 : SL encRs 6 W al nl cl l) (ho : Ints W oa on oc own) (hq : Ints W qa on qc pl) (hTI : Ints W ta tn tc t) (hok : OkIn S.sh l) (hpn : S.pn ≤ 30) (hwr : WdR S.sh.pg) (hp : (p : Int) < S.sh.ps) (hown : ∀ i ∈ own, 0 ≤ i ∧ i < l.length) (hpl : ∀ x ∈ pl, 0 ≤ x ∧ x ≤ 1048576)
 (hon : on ≤ 1000) (ht : tn = S.sh.cs.toNat) (hb : BdT 1000000000000 t) :
 Calls Tryz.prog 86 #[.agg #[.int .i64 S.sh.cs, .int .i64 S.sh.ps, .slice S.la S.ln S.lc, .slice S.ca S.cn S.cc, .slice S.pa S.pn S.pc, .slice S.ra S.rn S.rc], .slice al nl cl, .int .i64 p, .slice oa on oc, .slice qa on qc, .slice ta tn tc] W (RetOwn W 3 (addTo S.sh l p own pl on t)) := by
 obtain ⟨⟨k1, k2⟩, ⟨k3, k4⟩, k5, k6, k7, k8⟩ := hok.parts
 have hlvl : S.sh.lv.length = S.ln := hS.lv.len
 have hcll : S.sh.cl.length = S.cn := hS.cl.len
 have hpn1 : p < S.ln := by omega
 have hpn2 : p < S.cn := by omega
 obtain ⟨lb, lo, hla, hlb⟩ := hS.lv.at' (by omega)
 obtain ⟨cb, co, hca, hcb⟩ := hS.cl.at' (by omega)
 have hlv9 := betw_getD k7 (i := p) (by omega)
 have hcl9 := betw_getD k8 (i := p) (by omega)
 have htl := hTI.len
 have htn1 : 0 < tn ∧ tn ≤ 8 := by omega
 obtain ⟨htn1, htn8⟩ := htn1
 have HTN := Lib.hid ht
 have HPT := Lib.hid hpt
 have HWR := Lib.hid hwr
 have HPN := Lib.hid hpn
 have HS := Lib.hid hS
 have HOK := Lib.hid hok
 have HOWN := Lib.hid hown
 have HPL := Lib.hid hpl
 have HLA := Lib.hid hla
 have HCA := Lib.hid hca
 have HTL := Lib.hid (fun k => (addTo_len S.sh l p own pl t k).trans htl)
 have HBD := Lib.hid (fun k => addTo_bd S.sh l p own pl (B := 1000000000000) (by omega) hb k)
 have HLV9 := Lib.hid hlv9
 have HCL9 := Lib.hid hcl9
 have HNL := Lib.hid h0.len
 have y1 : (0 : Int) ≤ (p : Int) := by omega
 have y2 : (p : Int) < (S.ln : Int) := by omega
 have y3 : (p : Int) < (S.cn : Int) := by omega
 have HBX : Hid (Box (W.alloc (.cells #[.int .i64 S.sh.cs, .int .i64 S.sh.ps, .slice S.la S.ln S.lc, .slice S.ca S.cn S.cc, .slice S.pa S.pn S.pc, .slice S.ra S.rn S.rc] 25)) W.heap.size #[.int .i64 S.sh.cs, .int .i64 S.sh.ps, .slice S.la S.ln S.lc, .slice S.ca S.cn S.cc, .slice S.pa S.pn S.pc, .slice S.ra S.rn S.rc] 25) := Lib.hid (Box.new W _ _)
 have HBB : Hid (Below W.heap.size W (W.alloc (.cells #[.int .i64 S.sh.cs, .int .i64 S.sh.ps, .slice S.la S.ln S.lc, .slice S.ca S.cn S.cc, .slice S.pa S.pn S.pc, .slice S.ra S.rn S.rc] 25))) := Lib.hid (al0 _ _ _)
 have HXN : Hid (ta = none → tn = 0) := Lib.hid fun h => by
  obtain ⟨b, o, e, _⟩ := hTI.at' htn1
  rw [e] at h; cases h
 have HXM : Hid ((t.map (Value.int .i64)).length = tn * 1) := Lib.hid (by rw [List.length_map, htl]; omega)
 have HXC := Lib.hid (ints_cells (hTI.below (al0 W #[.int .i64 S.sh.cs, .int .i64 S.sh.ps, .slice S.la S.ln S.lc, .slice S.ca S.cn S.cc, .slice S.pa S.pn S.pc, .slice S.ra S.rn S.rc] 25)))
 obtain ⟨i3, hi3, hz30, hz31, hz32⟩ := info_parts info_int
 clear hok hown hpl hla hca ht hb hlv9 hcl9 k5 k6 k7 k8 hlvl hcll k1 k2 k3 k4 hp hS hpt hwr hpn hTI
 go_enter Tryz.func86, Tryz.ntmps86
 go_wp2_with (first | (at_builtin; (refine wpList_append_any rfl _ _ 22 rfl (W.heap.size + 1) 3 i3 _ 1 8 Tryz.underlying22 hi3 hz30 hz31 hz32 rfl (by decide) (.slice none 0 0) 0 [] (World.ownsRow_nil _ _ _ _) rfl ta tn tc (t.map (Value.int .i64)) rfl HXN.out HXM.out HXC.out (ints_one t) (by unfold maxLen; omega) (by omega) (by simp) ?_); intro v1 w4 h1 g1 f1; rw [Nat.zero_add, List.nil_append] at h1; obtain ⟨a1, gc, rfl, _, _⟩ := own_slice h1; obtain ⟨g, rfl, hg1, hg2, hg3⟩ := own_spot h1 htn1))
 have HO4 : Hid (OwnInts w4 (W.heap.size + 1) 3 (.slice (some ⟨g, 0, none⟩) tn gc) t) := Lib.hid (by unfold OwnInts; rw [htl]; exact h1)
 have HX4 := Lib.hid (HBX.out.grown g1 (by simp [Value.ownBlock]))
 have HB4 := Lib.hid (HBB.out.grown g1 HBB.out.size (fun q e => by cases e))
 clear h1 g1 f1 hg2 hg3 HXC HXN HXM
 go_loopw [14] (fun i wr => ∃ k : Nat, i = .int .i64 k ∧ k ≤ on ∧ OwnInts wr (W.heap.size + 1) 3 (.slice (some ⟨g, 0, none⟩) tn gc) (addTo S.sh l p own pl k t) ∧ Box wr W.heap.size #[.int .i64 S.sh.cs, .int .i64 S.sh.ps, .slice S.la S.ln S.lc, .slice S.ca S.cn S.cc, .slice S.pa S.pn S.pc, .slice S.ra S.rn S.rc] 25 ∧ Below W.heap.size W wr) (fun i _ => on - (intOf i).toNat)
 case atStart => exact ⟨0, rfl, by omega, HO4.out, HX4.out, HB4.out⟩
 case round =>
  clear HO4 HX4 HB4
  obtain ⟨k, rfl, hk, hO, hx1, hB⟩ := hrel
  have s0 : (0 : Int) ≤ (k : Int) := by omega
  by_cases hlt : k < on
  rotate_left
  · obtain rfl : on = k := by omega
    have HO := Lib.hid (hO.mono (base' := W.heap.size) (by omega))
    have HB := Lib.hid hB
    clear hO hx1 hB
    go_wp2_with fail
    go_ret
    exact ⟨_, rfl, HO.out, HB.out⟩
  obtain ⟨ob, oo, rfl, hob⟩ := ho.at' (by omega)
  obtain ⟨qb, qo, rfl, hqb⟩ := hq.at' (by omega)
  have hown1 := HOWN.out (own.getD k 0) (own_mem (by rw [ho.len]; exact hlt))
  obtain ⟨i, hi⟩ : ∃ i : Nat, own.getD k 0 = (i : Int) := ⟨(own.getD k 0).toNat, by omega⟩
  obtain ⟨x, hX⟩ : ∃ x, l[i]? = some x := ⟨_, List.getElem?_eq_getElem (by omega)⟩
  have hil : i < nl := by rw [← HNL.out]; omega
  obtain ⟨xb, xo, rfl, hxb⟩ := h0.at' (by omega)
  have hxr : rsAt l (own.getD k 0) = x := by rw [hi]; exact getD_of hX
  have hokx := okRs_iv (List.all_eq_true.1 HOK.out.rs x (List.mem_of_getElem? hX))
  obtain ⟨cm, hcm⟩ : ∃ cm : Nat, x.cm = (cm : Int) := ⟨x.cm.toNat, by omega⟩
  have hcmt : cm < tn := by have := HTN.out; omega
  obtain ⟨pk, hpk⟩ : ∃ pk, pl.getD k 0 = pk := ⟨_, rfl⟩
  have hpk1 : 0 ≤ pk ∧ pk ≤ 1048576 := by rw [← hpk]; exact HPL.out _ (own_mem (by rw [hq.len]; exact hlt))
  obtain ⟨vl, hvl⟩ : ∃ vl, S.sh.lv.getD p 0 = vl := ⟨_, rfl⟩
  obtain ⟨vc, hvc⟩ : ∃ vc, S.sh.cl.getD p 0 = vc := ⟨_, rfl⟩
  have hvl9 := HLV9.out
  have hvc9 := HCL9.out
  rw [hvl] at hvl9
  rw [hvc] at hvc9
  have co1 := (ho.below hB).atI hlt
  rw [hi] at co1
  obtain ⟨r0, r1, r2, r3, r4, r5⟩ := (h0.below hB).rs6 hX
  have hal : Below wr.heap.size wr (wr.alloc (.cells #[.int .i64 x.cm, .int .i64 x.pz, .int .i64 x.tr, .int .i64 x.lo, .int .i64 x.hi, .bool x.rt] 53)) := al0 _ _ _
  have hbx : Box (wr.alloc (.cells #[.int .i64 x.cm, .int .i64 x.pz, .int .i64 x.tr, .int .i64 x.lo, .int .i64 x.hi, .bool x.rt] 53)) wr.heap.size #[.int .i64 x.cm, .int .i64 x.pz, .int .i64 x.tr, .int .i64 x.lo, .int .i64 x.hi, .bool x.rt] 53 := Box.new _ _ _
  have hba := hB.on hal
  have hO2 := hO.below hal
  have hx2 := hx1.below hal
  have s1 : (k : Int) < (on : Int) := by omega
  have s2 : (0 : Int) ≤ (i : Int) := by omega
  have s3 : (i : Int) < (nl : Int) := by omega
  have HHAL : Hid (wr.heap.size + 1 = (wr.alloc (.cells #[.int .i64 x.cm, .int .i64 x.pz, .int .i64 x.tr, .int .i64 x.lo, .int .i64 x.hi, .bool x.rt] 53)).heap.size) := Lib.hid (by simp)
  have HX := Lib.hid hX
  have HXR := Lib.hid hxr
  have HCM := Lib.hid hcm
  have HHI := Lib.hid hi
  have HBA := Lib.hid hba
  have HO2 := Lib.hid hO2
  have HX2 := Lib.hid hx2
  have HBXX := Lib.hid hbx
  have hgl : W.heap.size + 1 ≤ g ∧ g < wr.heap.size := hO.lt g rfl
  obtain ⟨hgl1, hgl2⟩ := hgl
  clear hX hxr hcm hi hba hO2 hx2 hbx hal hO hx1 hB hown1 hokx
  go_wp2_with fail
  obtain ⟨wb, hwb⟩ : ∃ wb, wr.alloc (.cells #[.int .i64 x.cm, .int .i64 x.pz, .int .i64 x.tr, .int .i64 x.lo, .int .i64 x.hi, .bool x.rt] 53) = wb := ⟨_, rfl⟩
  rw [hwb] at HHAL HBA HO2 HX2 HBXX ⊢
  obtain ⟨d0, d1, d2, d3, d4, d5⟩ := HX2.out.g6
  rw [HLA.out] at d2
  rw [HCA.out] at d3
  have cq1 := (hq.below HBA.out).atI hlt
  rw [hpk] at cq1
  have hSw := HS.out.below HBA.out
  have hlv' := hSw.lv
  rw [HLA.out] at hlv'
  have cl1 := hlv'.atI hpn1
  rw [hvl] at cl1
  have hcl' := hSw.cl
  rw [HCA.out] at hcl'
  have cc1 := hcl'.atI hpn2
  rw [hvc] at cc1
  obtain ⟨z0, z1, z2, z3, z4, z5⟩ := HBXX.out.g6
  have HRUN : Hid (∀ q, Calls Tryz.prog 125 #[.slice S.pa S.pn S.pc, .slice (some ⟨wb.heap.size, 0, none⟩) 5 5] ((wb.drewN q).alloc (.cells #[.int .i64 pk, .int .i64 on, .int .i64 vl, .int .i64 vc, .int .i64 x.tr] 3)) (RetB ((wb.drewN q).alloc (.cells #[.int .i64 pk, .int .i64 on, .int .i64 vl, .int .i64 vc, .int .i64 x.tr] 3)) (.tuple #[.int .i64 (ptsOf S.sh l p own pl k), .int .i64 0]))) := Lib.hid fun q => by
   have hb2 : Below wb.heap.size wb ((wb.drewN q).alloc (.cells #[.int .i64 pk, .int .i64 on, .int .i64 vl, .int .i64 vc, .int .i64 x.tr] 3)) := (Below.drewN0 wb q).on (al0 (wb.drewN q) _ _)
   have hptq : ptsOf S.sh l p own pl k = runW S.sh.pg [pk, (on : Int), vl, vc, x.tr] := by unfold ptsOf; rw [HXR.out, hpk, hvl, hvc, ho.len]
   have hokr := okRs_iv (List.all_eq_true.1 HOK.out.rs x (List.mem_of_getElem? HX.out))
   rw [hptq]
   exact rrun52_any HPT.out _ _ _ S.sh.pg _ _ [pk, (on : Int), vl, vc, x.tr] _ (hSw.pg.below hb2) HPN.out HWR.out (ints_new (wb.drewN q) _ [pk, (on : Int), vl, vc, x.tr] 5 _ rfl rfl (by omega)) (fun z hz => by
    simp only [List.mem_cons, List.not_mem_nil, or_false] at hz
    rcases hz with rfl | rfl | rfl | rfl | rfl <;> omega) HOK.out.pg
  obtain ⟨np, hnp⟩ : ∃ np, ptsOf S.sh l p own pl k = np := ⟨_, rfl⟩
  have hnpb := pts_bd S.sh l p own pl k
  rw [hnp] at HRUN hnpb
  have HNP := Lib.hid hnp
  clear hpk hvl hvc hlv' hcl' hSw hnp hwb r0 r1 r2 r3 r4 r5 co1 z1 z3 z4 z5
  go_region_held3 (fun w' => w'.cell? ⟨W.heap.size, 4, none⟩ = some (.slice S.pa S.pn S.pc) ∧ w'.cell? ⟨W.heap.size, 2, none⟩ = some (.slice (some ⟨lb, lo, none⟩) S.ln S.lc) ∧ w'.cell? ⟨W.heap.size, 3, none⟩ = some (.slice (some ⟨cb, co, none⟩) S.cn S.cc) ∧ w'.cell? ⟨qb, qo + k, none⟩ = some (.int .i64 pk) ∧ w'.cell? ⟨lb, lo + p, none⟩ = some (.int .i64 vl) ∧ w'.cell? ⟨cb, co + p, none⟩ = some (.int .i64 vc) ∧ w'.cell? ⟨wr.heap.size, 2, none⟩ = some (.int .i64 x.tr) ∧ Below wb.heap.size wb w')
   (first | exact ⟨d4, d2, d3, cq1, cl1, cc1, z2, (Below.refl _ _).drew⟩ | exact keep7 (by assumption) (by assumption) | exact keep7 (by assumption) (al0 _ _ _) | exact keep7 ⟨d4, d2, d3, cq1, cl1, cc1, z2, Below.refl _ _⟩ (by assumption))
   (first | (go_at_call 125; refine (HRUN.out 1).mono ?_; rintro e w7 ⟨rfl, hb7⟩))
  have hB7 : Below wb.heap.size wb w7 := ((Below.drewN0 wb 1).on (al0 (wb.drewN 1) _ _)).on hb7
  have hO7 := HO2.out.below hB7
  have hx7 := HX2.out.below hB7
  have z0' := (hB7.cell (p := ⟨wr.heap.size, 0, none⟩) (World.block_lt_of_cell? wb _ z0)).trans z0
  rw [HCM.out] at z0'
  obtain ⟨T1, hT1⟩ : ∃ T1, addTo S.sh l p own pl k t = T1 := ⟨_, rfl⟩
  have hT1l : T1.length = tn := by rw [← hT1]; exact HTL.out k
  have hzb := (HBD.out k).getD (by omega) cm
  rw [hT1] at hO7 hzb
  have HT1 := Lib.hid hT1
  have hI7 := own_ints3 hO7 hT1l
  obtain ⟨z, hz⟩ : ∃ z, T1[cm]? = some z := ⟨_, List.getElem?_eq_getElem (by omega)⟩
  have hzd : T1.getD cm 0 = z := by rw [List.getD_eq_getElem?_getD, hz]; rfl
  rw [hzd] at hzb
  have ct := hI7.get hz
  simp only [Nat.zero_add] at ct
  have hO7u := hO7
  unfold OwnInts at hO7u
  rw [hT1l] at hO7u
  obtain ⟨_, ez1, _, hb1, f1⟩ := own_spot hO7u htn1
  injection ez1 with ez1; injection ez1 with ez1 _
  subst ez1
  have f1c := f1 cm
  have hw : IntKind.i64.wrap (z + np) = z + np := by rw [IntKind.wrap_i64]; omega
  have y4 : (0 : Int) ≤ (cm : Int) := by omega
  have y5 : (cm : Int) < (tn : Int) := by omega
  have HOZ : Hid (OwnInts (w7.setCell ⟨g, cm, none⟩ (.int .i64 (z + np))) (W.heap.size + 1) 3 (.slice (some ⟨g, 0, none⟩) tn gc) (T1.set cm (z + np))) := Lib.hid (ownIs_set hO7 hT1l hcmt _)
  have HXZ : Hid (Box (w7.setCell ⟨g, cm, none⟩ (.int .i64 (z + np))) W.heap.size #[.int .i64 S.sh.cs, .int .i64 S.sh.ps, .slice S.la S.ln S.lc, .slice S.ca S.cn S.cc, .slice S.pa S.pn S.pc, .slice S.ra S.rn S.rc] 25) := Lib.hid (hx7.setOther _ (by show W.heap.size ≠ g; omega))
  have HBZ : Hid (Below W.heap.size W (w7.setCell ⟨g, cm, none⟩ (.int .i64 (z + np)))) := Lib.hid ((HBA.out.on hB7).setCell (by show W.heap.size ≤ g; omega) _)
  have HNX : Hid (addTo S.sh l p own pl (k + 1) t = T1.set cm (z + np)) := Lib.hid (by
   show (addTo S.sh l p own pl k t).set (rsAt l (own.getD k 0)).cm.toNat ((addTo S.sh l p own pl k t).getD (rsAt l (own.getD k 0)).cm.toNat 0 + ptsOf S.sh l p own pl k) = _
   rw [HXR.out, HCM.out, Int.toNat_natCast, HT1.out, hzd, HNP.out])
  clear hT1 hz hzd hO7 hx7 hO7u hI7 f1 hB7 hb7 hzb d0 d1 d2 d3 d4 d5 z0 z2 cl1 cc1 cq1
  go_wp2_with fail
  go_region
  go_wp2_with fail
  go_roundw
  case rel => exact ⟨k + 1, by go_num, by omega, by rw [HNX.out]; exact HOZ.out.below (Below.refl _ _).drew, HXZ.out.below (Below.refl _ _).drew, HBZ.out.on (Below.refl _ _).drew⟩
  case measure => simp [intOf]; omega
open Go.RowKit
def RetLE (W : World) (E : Int) (ll : List (List Int)) (e : Ending) (w' : World) : Prop := ∃ a n c, e = .returned (.tuple #[.slice a n c, .int .i64 E]) ∧ Rows w' a n c ll ∧ Below W.heap.size W w'
theorem ints_tA {w : World} {b n : Nat} {t : List Int} {ty : TypeId} (h : Box w b (tA t) ty) (hn : t.length = n) (hm : n ≤ maxLen) : Ints w (some ⟨b, 0, none⟩) n n t where
 len := hn
 cap := Nat.le_refl _
 mx := hm
 at' := fun _ => ⟨b, 0, rfl, h.lt⟩
 cell := fun b' o e i hi => by
  injection e with e; injection e with e1 e2
  subst e1 e2
  rw [Nat.zero_add, h.cell i]
  unfold tA
  rw [List.getElem?_toArray, List.getElem?_map, List.getElem?_eq_getElem (by omega)]
  rfl
theorem rows_oneB {w : World} {b n : Nat} {a : Option Addr} {c : Nat} {t : List Int} {ty : TypeId} (h : Box w b #[.slice a n c] ty) (hI : Ints w a n c t) : Rows w (some ⟨b, 0, none⟩) 1 1 [t] where
 len := rfl
 cap := Nat.le_refl _
 mx := by simp [maxLen]
 at' := fun _ => ⟨b, 0, rfl, h.lt⟩
 row := fun b' o e i hi => by
  injection e with e; injection e with e1 e2
  subst e1 e2
  obtain rfl : i = 0 := by omega
  exact ⟨a, n, c, by simpa using h.cell 0, hI⟩
theorem intoL_ne (l : List (List Int)) (x : List Int) : (intoL l x).length ≠ 0 := fun h => by
 have : x ∈ intoL l x := mem_intoL.2 (.inl rfl)
 rw [List.eq_nil_of_length_eq_zero h] at this
 cases this
theorem ordS_facts {s : Sh} {l : List Rs} (h : l.all (okRs s) = true) {C p : Nat} (hC : s.cs = (C : Int)) (hC4 : C ≤ 4) (hp : p ≤ 8) {out : List (List Int)} (ho : ordS s l p = some out) : (∀ t ∈ out, t.length = C ∧ BdT 1000000000000 t) ∧ out.length ≤ 4096 := by
 obtain ⟨al, h1, rfl⟩ := ordS_some ho
 obtain ⟨h2, h3⟩ := ordTo_all h (C := C) (by omega) h1
 refine ⟨fun t ht => ?_, by rw [sortP_len]; exact h3⟩
 have ht' := (mem_sortP al).1 ht
 refine ⟨by rw [h2.len t ht', hC, Int.toNat_natCast], fun x hx => ?_⟩
 have h4 := h2.bd t ht' x hx
 have h5 : (p : Int) * ((C : Int) * 1048576) ≤ 8 * (4 * 1048576) := Int.mul_le_mul (by omega) (by omega) (by omega) (by omega)
 omega
theorem Mo.len {s : Sh} {l : List Rs} {p : Nat} {out pos next : List (List Int)} {i k C : Nat} (h : Mo s l p out pos i k next) (ho : ∀ t ∈ out, t.length = C) : ∀ y ∈ next, y.length = C := fun y hy => by
 obtain ⟨a, b, t, q, h1, _, _, rfl⟩ := (h.mem y).1 hy
 unfold addT
 rw [addTo_len, ho t (List.mem_of_getElem? h1)]
section
variable {P : Program} {Q : Exit → Act → World → Prop}
theorem region_ex5b {α β γ δ ε : Type} {c : Code} {a : Act} {w : World} {R : α → β → γ → δ → ε → World → Prop} {F : α → β → γ → δ → ε → Act}
 (h : c.wp P (NormQ fun _ a' w' => ∃ x y z p q, a' = F x y z p q ∧ R x y z p q w') a w) (hk : ∀ x y z p q w', R x y z p q w' → Q .normal (F x y z p q) w') : c.wp P Q a w :=
 wp_mono h fun e a' w' ⟨he, x, y, z, p, q, ha, hr⟩ => by subst he ha; exact hk _ _ _ _ _ _ hr
end
set_option maxHeartbeats 8000000 in
set_option maxRecDepth 100000 in
theorem rorders53_any (hpt : RPtC) (S : Sp) (al : Option Addr) (nl cl : Nat) (l : List Rs) (W : World) (hS : S.In W) (h0 : SL encRs 6 W al nl cl l) (hpn : S.pn ≤ 30) (hwr : WdR S.sh.pg) (h4 : S.sh.cs ≤ 4) :
 Calls Tryz.prog 56 #[.agg #[.int .i64 S.sh.cs, .int .i64 S.sh.ps, .slice S.la S.ln S.lc, .slice S.ca S.cn S.cc, .slice S.pa S.pn S.pc, .slice S.ra S.rn S.rc], .slice al nl cl] W (RetLE W (rankE S.sh l) (ordR S.sh l)) := by
 have hx1 := Box.new W #[.int .i64 S.sh.cs, .int .i64 S.sh.ps, .slice S.la S.ln S.lc, .slice S.ca S.cn S.cc, .slice S.pa S.pn S.pc, .slice S.ra S.rn S.rc] 25
 have hbb : Below W.heap.size W (W.alloc (.cells #[.int .i64 S.sh.cs, .int .i64 S.sh.ps, .slice S.la S.ln S.lc, .slice S.ca S.cn S.cc, .slice S.pa S.pn S.pc, .slice S.ra S.rn S.rc] 25)) := al0 _ _ _
 obtain ⟨w0, hw0⟩ : ∃ w0, W.alloc (.cells #[.int .i64 S.sh.cs, .int .i64 S.sh.ps, .slice S.la S.ln S.lc, .slice S.ca S.cn S.cc, .slice S.pa S.pn S.pc, .slice S.ra S.rn S.rc] 25) = w0 := ⟨_, rfl⟩
 rw [hw0] at hx1 hbb
 have HCK := Lib.hid (rcheck53_any hpt S al nl cl l w0 (hS.below hbb) (h0.below hbb) hpn hwr)
 have HW0 := Lib.hid hw0
 have HPT := Lib.hid hpt
 have HWR := Lib.hid hwr
 have HPN := Lib.hid hpn
 have HS := Lib.hid hS
 have HNL := Lib.hid h0.len
 clear hw0 hpt hwr hpn hS
 obtain ⟨d0, d1, d2, d3, d4, d5⟩ := hx1.g6
 by_cases he : rkE S.sh l = 0
 rotate_left
 · obtain ⟨E, hE⟩ : ∃ E, rkE S.sh l = E := ⟨_, rfl⟩
   have HR := Lib.hid (ordE_bad he)
   rw [hE] at HR he HCK
   have g1 : (E != 0) = true := by simpa using he
   clear hE he
   go_enter Tryz.func56, Tryz.ntmps56
   go_wp2_with fail
   rw [HW0.out]
   go_wp2_with fail
   refine HCK.out.mono ?_
   rintro e w1 ⟨rfl, hB1⟩
   have hx1 := hx1.below hB1
   have hbb := hbb.on hB1
   clear d0 d1 d2 d3 d4 d5 hB1 HCK
   obtain ⟨d0, d1, d2, d3, d4, d5⟩ := hx1.g6
   go_wp2_with fail
   refine bodyPost_ret (v := .tuple #[.slice none 0 0, .int .i64 E]) (by simp [results, Tryz.results56, go_sem]) rfl ⟨none, 0, 0, by rw [HR.out.1], by rw [HR.out.2]; exact Rows.nil _, hbb⟩
 have hok := okIn_of he
 obtain ⟨⟨k1, k2⟩, ⟨k3, k4⟩, _⟩ := hok.parts
 have hl32 := hok.len
 have hnl : nl ≤ 1000000 := by rw [← HNL.out]; omega
 have HOK := Lib.hid hok
 have HE := Lib.hid he
 rw [he] at HCK
 obtain ⟨C, hC⟩ : ∃ C : Nat, S.sh.cs = (C : Int) := ⟨S.sh.cs.toNat, by omega⟩
 obtain ⟨PS, hPS⟩ : ∃ PS : Nat, S.sh.ps = (PS : Int) := ⟨S.sh.ps.toNat, by omega⟩
 have HC := Lib.hid hC
 have HPS := Lib.hid hPS
 have hC4 : C ≤ 4 := by omega
 have hC1 : 1 ≤ C := by omega
 have hPS8 : PS ≤ 8 := by omega
 clear hok he hl32 hC hPS
 go_enter Tryz.func56, Tryz.ntmps56
 go_wp2_with fail
 rw [HW0.out]
 go_wp2_with fail
 refine HCK.out.mono ?_
 rintro e w1 ⟨rfl, hB1⟩
 have hx1 := hx1.below hB1
 have hbb := hbb.on hB1
 clear d0 d1 d2 d3 d4 d5 hB1 HCK
 obtain ⟨d0, d1, d2, d3, d4, d5⟩ := hx1.g6
 rw [HC.out] at d0
 rw [HPS.out] at d1
 have hmk := fun w => make_tA C (by omega) w
 have HB0 := Lib.hid hbb
 have HX0 := Lib.hid hx1
 have e1 : (0 : Int) ≤ (C : Int) := by omega
 clear hbb hx1
 go_wp2_with fail
 have hg := Box.new w1 (tA (List.replicate C 0)) 3
 have hg2 : Box ((w1.alloc (.cells (tA (List.replicate C 0)) 3)).alloc (.cells #[.slice (some ⟨w1.heap.size, 0, none⟩) C C] 22)) (w1.heap.size + 1) #[.slice (some ⟨w1.heap.size, 0, none⟩) C C] 22 := box_at _ _ _ _ (by simp)
 have HR0 : Hid (Rows ((w1.alloc (.cells (tA (List.replicate C 0)) 3)).alloc (.cells #[.slice (some ⟨w1.heap.size, 0, none⟩) C C] 22)) (some ⟨w1.heap.size + 1, 0, none⟩) 1 1 [List.replicate C 0]) := Lib.hid (rows_oneB hg2 (ints_tA (hg.alloc _) (by simp) (by simp [maxLen]; omega)))
 have HO0 : Hid (ordS S.sh l 0 = some [List.replicate C 0]) := Lib.hid (by rw [ordS_0, HC.out, Int.toNat_natCast])
 have HXZ : Hid (Box ((w1.alloc (.cells (tA (List.replicate C 0)) 3)).alloc (.cells #[.slice (some ⟨w1.heap.size, 0, none⟩) C C] 22)) W.heap.size #[.int .i64 S.sh.cs, .int .i64 S.sh.ps, .slice S.la S.ln S.lc, .slice S.ca S.cn S.cc, .slice S.pa S.pn S.pc, .slice S.ra S.rn S.rc] 25) := Lib.hid ((HX0.out.alloc _).alloc _)
 have HBZ : Hid (Below W.heap.size W ((w1.alloc (.cells (tA (List.replicate C 0)) 3)).alloc (.cells #[.slice (some ⟨w1.heap.size, 0, none⟩) C C] 22))) := Lib.hid ((HB0.out.on (al0 _ _ _)).on (al0 _ _ _))
 clear hg hg2 hmk
 go_loopw [7, 8] (fun u i wr => ∃ (p : Nat) (a : Option Addr) (n c : Nat) (out : List (List Int)), i = .int .i64 p ∧ p ≤ PS ∧ u = .slice a n c ∧ Rows wr a n c out ∧ Hid (ordS S.sh l p = some out) ∧ Box wr W.heap.size #[.int .i64 S.sh.cs, .int .i64 S.sh.ps, .slice S.la S.ln S.lc, .slice S.ca S.cn S.cc, .slice S.pa S.pn S.pc, .slice S.ra S.rn S.rc] 25 ∧ Below W.heap.size W wr) (fun _ i _ => PS - (intOf i).toNat)
 case atStart => exact ⟨0, _, 1, 1, _, rfl, by omega, rfl, HR0.out, HO0.out, HXZ.out, HBZ.out⟩
 case round =>
  clear HR0 HO0 HXZ HBZ d0 d1 d2 d3 d4 d5
  obtain ⟨p, a, n, c, out, rfl, hp, rfl, hR, HO, hx1, hB⟩ := hrel
  have s0 : (0 : Int) ≤ (p : Int) := by omega
  obtain ⟨-, d1, -, -, -, -⟩ := hx1.g6
  rw [HPS.out] at d1
  by_cases hlt : p < PS
  rotate_left
  · obtain rfl : PS = p := by omega
    have HF := Lib.hid (ordE_some HE.out (x := out) (by rw [ordS_ordO, HPS.out, Int.toNat_natCast]; exact HO.out))
    have HR := Lib.hid hR
    have HB := Lib.hid hB
    clear hR hB hx1
    go_wp2_with fail
    refine bodyPost_ret (v := .tuple #[.slice a n c, .int .i64 0]) (by simp [results, Tryz.results56, go_sem]) rfl ⟨a, n, c, by rw [HF.out.1], by rw [HF.out.2]; exact HR.out, HB.out⟩
  have s1 : (p : Int) < (PS : Int) := by omega
  obtain ⟨hof, hol⟩ := ordS_facts HOK.out.rs HC.out hC4 (by omega) HO.out
  have hn4 : n ≤ 4096 := by rw [← hR.len]; exact hol
  have HOF := Lib.hid hof
  have HCN := Lib.hid (rcounted_any al nl cl l p wr (h0.below hB) hnl)
  have HR := Lib.hid hR
  have HB := Lib.hid hB
  have HX1 := Lib.hid hx1
  clear hof hol hR hB hx1
  go_wp2_with fail
  refine HCN.out.mono ?_
  rintro e w2 ⟨vo, rfl, hOo, hB2⟩
  obtain ⟨oa, oc, rfl, hIo⟩ := hOo.ints
  have hown1 : ∀ x ∈ cntL l p, 0 ≤ x ∧ x < l.length := fun x hx => ⟨(cntL_mem hx).1, (cntL_mem hx).2.1⟩
  have hiv := iv_ok HOK.out.rs p
  have hon4 := cnt_len HOK.out.rs (C := 4) h4 (p : Int)
  obtain ⟨on, hon⟩ : ∃ on, (cntL l p).length = on := ⟨_, rfl⟩
  rw [hon] at hIo hon4 ⊢
  have HPO := Lib.hid (rpossible_any al nl cl l oa on oc (cntL l p) w2 (h0.below (HB.out.on hB2)) hIo hown1 hiv hon4)
  have HOW1 := Lib.hid hown1
  have HIV := Lib.hid hiv
  have HON := Lib.hid hon
  have hivl : (ivOf l (cntL l p)).length = on := by rw [ivOf_len, hon]
  have HIVL := Lib.hid hivl
  have hplen := posR_len hiv (by rw [hivl]; exact hon4)
  have HIO := Lib.hid hIo
  replace HB := Lib.hid (HB.out.on hB2)
  replace HR := Lib.hid (HR.out.below hB2)
  replace HX1 := Lib.hid (HX1.out.below hB2)
  clear hOo hB2 hown1 hiv hon hivl hIo HCN d1
  go_wp2_with fail
  refine HPO.out.mono ?_
  rintro e w3 ⟨pa, pn, pc, rfl, hRp, hB3⟩
  have hpn75 : pn ≤ 75 := by rw [← hRp.len]; exact hplen
  have g1 : decide ((4096 : Int) < (pn : Int)) = false := by simp; omega
  have g2 : decide (4096 < pn) = false := by simp; omega
  replace HB := Lib.hid (HB.out.on hB3)
  replace HR := Lib.hid (HR.out.below hB3)
  replace HX1 := Lib.hid (HX1.out.below hB3)
  replace HIO := Lib.hid (HIO.out.below hB3)
  have HRP := Lib.hid hRp
  clear hRp hB3 HPO hplen
  go_wp2_with fail
  go_loopw [11, 12] (fun u i wv => ∃ (q : Nat) (a2 : Option Addr) (n2 c2 : Nat) (next : List (List Int)), i = .int .i64 q ∧ q ≤ n ∧ u = .slice a2 n2 c2 ∧ Rows wv a2 n2 c2 next ∧ (n2 = 0 → a2 = none ∧ c2 = 0) ∧ n2 ≤ 4096 ∧ Hid (Mo S.sh l p out (posR (ivOf l (cntL l p))) q 0 next) ∧ Below w3.heap.size w3 wv) (fun _ i _ => n - (intOf i).toNat)
  case atStart => exact ⟨0, none, 0, 0, [], rfl, by omega, rfl, Rows.nil _, fun _ => ⟨rfl, rfl⟩, by omega, Lib.hid Mo.start, Below.refl _ _⟩
  case round =>
   obtain ⟨q, a2, n2, c2, next, rfl, hq, rfl, hRn, hn0, hn2, HM, hBv⟩ := hrel
   have q0 : (0 : Int) ≤ (q : Int) := by omega
   by_cases hqn : q < n
   rotate_left
   · obtain rfl : n = q := by omega
     have HNX : Hid (ordS S.sh l (p + 1) = some next) := Lib.hid (Mo.all (by rw [HR.out.len]; exact HM.out) HIV.out HO.out (by rw [hRn.len]; exact hn2))
     have HRN := Lib.hid hRn
     have HB2 := Lib.hid (HB.out.on hBv)
     have HX2 := Lib.hid (HX1.out.below hBv)
     clear hRn hBv hn0 HM
     go_wp2_with fail
     go_roundw
     case rel => exact ⟨p + 1, a2, n2, c2, next, by go_num, by omega, rfl, HRN.out, HNX.out, HX2.out, HB2.out⟩
     case measure => simp [intOf]; omega
   have q1 : (q : Int) < (n : Int) := by omega
   have HRN := Lib.hid hRn
   have HN0 := Lib.hid hn0
   have HBV := Lib.hid hBv
   clear hRn hBv hn0
   go_wp2_with fail
   go_loopw [11, 13] (fun u i wv => ∃ (k : Nat) (a2 : Option Addr) (n2 c2 : Nat) (next : List (List Int)), i = .int .i64 k ∧ k ≤ pn ∧ u = .slice a2 n2 c2 ∧ Rows wv a2 n2 c2 next ∧ (n2 = 0 → a2 = none ∧ c2 = 0) ∧ n2 ≤ 4096 ∧ Hid (Mo S.sh l p out (posR (ivOf l (cntL l p))) q k next) ∧ Below w3.heap.size w3 wv) (fun _ i _ => pn - (intOf i).toNat)
   case atStart => exact ⟨0, a2, n2, c2, next, rfl, by omega, rfl, HRN.out, HN0.out, hn2, HM, HBV.out⟩
   case round =>
    clear HRN HN0 HBV HM hn2
    obtain ⟨k, a2, n2, c2, next, rfl, hk, rfl, hRn, hn0, hn2, HM, hBv⟩ := hrel
    have k0 : (0 : Int) ≤ (k : Int) := by omega
    by_cases hkn : k < pn
    rotate_left
    · obtain rfl : pn = k := by omega
      have HM2 := Lib.hid (Mo.row (by rw [HRP.out.len]; exact HM.out))
      have HRN := Lib.hid hRn
      have HN0 := Lib.hid hn0
      have HBV := Lib.hid hBv
      clear hRn hBv hn0 HM
      go_wp2_with fail
      go_roundw
      case rel => exact ⟨q + 1, a2, n2, c2, next, by go_num, by omega, rfl, HRN.out, HN0.out, hn2, HM2, HBV.out⟩
      case measure => simp [intOf]; omega
    have k1 : (k : Int) < (pn : Int) := by omega
    obtain ⟨T, hT⟩ : ∃ T, out[q]? = some T := ⟨_, List.getElem?_eq_getElem (by rw [HR.out.len]; exact hqn)⟩
    obtain ⟨PL, hPL⟩ : ∃ PL, (posR (ivOf l (cntL l p)))[k]? = some PL := ⟨_, List.getElem?_eq_getElem (by rw [HRP.out.len]; exact hkn)⟩
    obtain ⟨ob, oo, rfl, hob⟩ := HR.out.at' (by omega)
    obtain ⟨pb, po, rfl, hpb⟩ := HRP.out.at' (by omega)
    obtain ⟨ta, tn, tc, hct, hIt⟩ := (HR.out.below hBv).row ob oo rfl q hqn
    obtain ⟨qa, qn, qc, hcq, hIq⟩ := (HRP.out.below hBv).row pb po rfl k hkn
    rw [hT] at hIt
    rw [hPL] at hIq
    simp only [Option.getD_some] at hIt hIq
    obtain ⟨htl, htb⟩ := HOF.out T (List.mem_of_getElem? hT)
    have hqe := posR_each (List.mem_of_getElem? hPL)
    rw [HIVL.out] at hqe
    obtain rfl : tn = C := by rw [← hIt.len]; exact htl
    obtain rfl : qn = on := by rw [← hIq.len]; exact hqe
    have hqb := posR_bd (List.mem_of_getElem? hPL)
    rw [HIVL.out] at hqb
    obtain ⟨X, hX⟩ : ∃ X, addT S.sh l p PL T = X := ⟨_, rfl⟩
    have HST := Lib.hid (HM.out.step hT hPL)
    rw [hX] at HST
    have hXl : X.length = tn := by rw [← hX]; unfold addT; rw [addTo_len, htl]
    have hlen := HM.out.len (C := tn) (fun t ht => (HOF.out t ht).1)
    have HADD : Hid (∀ wd, Below wr.heap.size wr wd → Calls Tryz.prog 86 #[.agg #[.int .i64 S.sh.cs, .int .i64 S.sh.ps, .slice S.la S.ln S.lc, .slice S.ca S.cn S.cc, .slice S.pa S.pn S.pc, .slice S.ra S.rn S.rc], .slice al nl cl, .int .i64 p, .slice oa qn oc, .slice qa qn qc, .slice ta tn tc] wd (RetOwn wd 3 X)) := Lib.hid fun wd hbd => by
     have hb := (HB.out.on hBv).on hbd
     have := radd53_any HPT.out S al nl cl l p oa qn oc (cntL l p) qa qc PL ta tn tc T wd (HS.out.below hb) (h0.below hb) ((HIO.out.below hBv).below hbd) (hIq.below hbd) (hIt.below hbd) HOK.out HPN.out HWR.out (by rw [HPS.out]; omega) HOW1.out (fun x hx => by have := hqb x hx; omega) (by omega) (by rw [HC.out, Int.toNat_natCast]) htb
     rw [← hX]
     unfold addT
     rw [HON.out]; exact this
    have HINTO : Hid (∀ wd xa xc, Below wr.heap.size wr wd → Ints wd xa tn xc X → Calls Tryz.prog 85 #[.slice a2 n2 c2, .slice xa tn xc] wd (RetLL wd (intoL next X))) := Lib.hid fun wd xa xc hbd hx =>
     rinto_any a2 n2 c2 next xa tn xc X wd (hRn.below hbd) hx hlen (by omega) hn0
    have hx1 := HX1.out.below hBv
    obtain ⟨d0, d1, d2, d3, d4, d5⟩ := hx1.g6
    have HXL := Lib.hid hXl
    have HBV := Lib.hid hBv
    have HIN := Lib.hid (intoL_ne next X)
    clear hT hPL hIt hIq htb hqe hqb hX hXl hlen hRn hn0 hBv hx1 HM htl
    go_wp2_with fail
    apply region_ex5b (α := Option Addr) (β := Nat) (γ := Option Addr) (δ := Nat) (ε := Nat) (R := fun _ _ a3 n3 c3 w' => Rows w' a3 n3 c3 (intoL next X) ∧ Below wr.heap.size wr w')
    · refine wp_region_held_drew (S := fun w' => w'.cell? ⟨W.heap.size, 0, none⟩ = some (.int .i64 S.sh.cs) ∧ w'.cell? ⟨W.heap.size, 1, none⟩ = some (.int .i64 S.sh.ps) ∧ w'.cell? ⟨W.heap.size, 2, none⟩ = some (.slice S.la S.ln S.lc) ∧ w'.cell? ⟨W.heap.size, 3, none⟩ = some (.slice S.ca S.cn S.cc) ∧ w'.cell? ⟨W.heap.size, 4, none⟩ = some (.slice S.pa S.pn S.pc) ∧ w'.cell? ⟨W.heap.size, 5, none⟩ = some (.slice S.ra S.rn S.rc) ∧ w'.cell? ⟨pb, po + k, none⟩ = some (.slice qa qn qc) ∧ w'.cell? ⟨ob, oo + q, none⟩ = some (.slice ta tn tc)) (by kernel_rfl) ⟨d0, d1, d2, d3, d4, d5, hcq, hct⟩ (fun hS => ?_)
      refine takeN 0 (v := ?_) rfl (by kernel_rfl) (by rfl) (fun w hSw => ?_) (by assumption) ?_
      rotate_left
      focus ((try dsimp only at hSw); (try go_split_ands); go_simp; try with_reducible rfl)
      (try simp only [PS])
      refine takeN 1 (v := ?_) rfl (by kernel_rfl) (by rfl) (fun w hSw => ?_) (by assumption) ?_
      rotate_left
      focus ((try dsimp only at hSw); (try go_split_ands); go_simp; try with_reducible rfl)
      (try simp only [PS])
      refine takeN 2 (v := ?_) rfl (by kernel_rfl) (by rfl) (fun w hSw => ?_) (by assumption) ?_
      rotate_left
      focus ((try dsimp only at hSw); (try go_split_ands); go_simp; try with_reducible rfl)
      (try simp only [PS])
      refine takeN 3 (v := ?_) rfl (by kernel_rfl) (by rfl) (fun w hSw => ?_) (by assumption) ?_
      rotate_left
      focus ((try dsimp only at hSw); (try go_split_ands); go_simp; try with_reducible rfl)
      (try simp only [PS])
      refine takeN 4 (v := ?_) rfl (by kernel_rfl) (by rfl) (fun w hSw => ?_) (by assumption) ?_
      rotate_left
      focus ((try dsimp only at hSw); (try go_split_ands); go_simp; try with_reducible rfl)
      (try simp only [PS])
      refine takeN 5 (v := ?_) rfl (by kernel_rfl) (by rfl) (fun w hSw => ?_) (by assumption) ?_
      rotate_left
      focus ((try dsimp only at hSw); (try go_split_ands); go_simp; try with_reducible rfl)
      (try simp only [PS])
      refine takeN 6 (v := ?_) rfl (by kernel_rfl) (by rfl) (fun w hSw => ?_) (by assumption) ?_
      rotate_left
      focus ((try dsimp only at hSw); (try go_split_ands); go_simp; try with_reducible rfl)
      (try simp only [PS])
      refine takeN 7 (v := ?_) rfl (by kernel_rfl) (by rfl) (fun w hSw => ?_) (by assumption) ?_
      rotate_left
      focus ((try dsimp only at hSw); (try go_split_ands); go_simp; try with_reducible rfl)
      (try simp only [PS])
      refine takeN 8 (v := ?_) rfl (by kernel_rfl) (by rfl) (fun w hSw => ?_) (by assumption) ?_
      rotate_left
      focus ((try dsimp only at hSw); (try go_split_ands); go_simp; try with_reducible rfl)
      (try simp only [PS])
      refine takeN 9 (v := ?_) rfl (by kernel_rfl) (by rfl) (fun w hSw => ?_) (by assumption) ?_
      rotate_left
      focus ((try dsimp only at hSw); (try go_split_ands); go_simp; try with_reducible rfl)
      (try simp only [PS])
      refine takeN 10 (v := ?_) rfl (by kernel_rfl) (by rfl) (fun w hSw => ?_) (by assumption) ?_
      rotate_left
      focus ((try dsimp only at hSw); (try go_split_ands); go_simp; try with_reducible rfl)
      (try simp only [PS])
      refine takeN 11 (v := ?_) rfl (by kernel_rfl) (by rfl) (fun w hSw => ?_) (by assumption) ?_
      rotate_left
      focus ((try dsimp only at hSw); (try go_split_ands); go_simp; try with_reducible rfl)
      (try simp only [PS])
      refine takeN 12 (v := ?_) rfl (by kernel_rfl) (by rfl) (fun w hSw => ?_) (by assumption) ?_
      rotate_left
      focus ((try dsimp only at hSw); (try go_split_ands); go_simp; try with_reducible rfl)
      (try simp only [PS])
      refine wpAnyH_ready (rs := [13]) (by kernel_rfl) (by simp) (AllReadyH.cons rfl (fun K hK => ?_) AllReadyH.nil)
      go_simp
      go_at_call 86
      refine (HADD.out _ (Below.refl _ _).drew).mono ?_
      rintro e w5 ⟨v, rfl, hOv, hb5⟩
      obtain ⟨xa, xc, rfl, hIx⟩ := hOv.ints
      rw [HXL.out] at hIx ⊢
      have hbd5 : Below wr.heap.size wr w5 := ((Below.refl wr.heap.size wr).drew).on hb5
      have kp5 : ∀ {a : Addr} {v : Value}, wr.cell? a = some v → w5.cell? a = some v := fun {a v} h => (hbd5.cell (World.block_lt_of_cell? wr a h)).trans h
      refine hK.out _ _ ((⟨kp5 d0, kp5 d1, kp5 d2, kp5 d3, kp5 d4, kp5 d5, kp5 hcq, kp5 hct⟩ : w5.cell? ⟨W.heap.size, 0, none⟩ = some (.int .i64 S.sh.cs) ∧ w5.cell? ⟨W.heap.size, 1, none⟩ = some (.int .i64 S.sh.ps) ∧ w5.cell? ⟨W.heap.size, 2, none⟩ = some (.slice S.la S.ln S.lc) ∧ w5.cell? ⟨W.heap.size, 3, none⟩ = some (.slice S.ca S.cn S.cc) ∧ w5.cell? ⟨W.heap.size, 4, none⟩ = some (.slice S.pa S.pn S.pc) ∧ w5.cell? ⟨W.heap.size, 5, none⟩ = some (.slice S.ra S.rn S.rc) ∧ w5.cell? ⟨pb, po + k, none⟩ = some (.slice qa qn qc) ∧ w5.cell? ⟨ob, oo + q, none⟩ = some (.slice ta tn tc))) (fun hS => ?_)
      clear hK K
      (try simp only [PS])
      refine wpAnyH_ready (rs := [14]) (by kernel_rfl) (by simp) (AllReadyH.cons rfl (fun K hK => ?_) AllReadyH.nil)
      go_simp
      go_at_call 85
      refine (HINTO.out _ xa xc hbd5 hIx).mono ?_
      rintro e w6 ⟨a3, n3, c3, rfl, hR6, hb6⟩
      have hbd6 := hbd5.on hb6
      have kp6 : ∀ {a : Addr} {v : Value}, wr.cell? a = some v → w6.cell? a = some v := fun {a v} h => (hbd6.cell (World.block_lt_of_cell? wr a h)).trans h
      refine hK.out _ _ ((⟨kp6 d0, kp6 d1, kp6 d2, kp6 d3, kp6 d4, kp6 d5, kp6 hcq, kp6 hct⟩ : w6.cell? ⟨W.heap.size, 0, none⟩ = some (.int .i64 S.sh.cs) ∧ w6.cell? ⟨W.heap.size, 1, none⟩ = some (.int .i64 S.sh.ps) ∧ w6.cell? ⟨W.heap.size, 2, none⟩ = some (.slice S.la S.ln S.lc) ∧ w6.cell? ⟨W.heap.size, 3, none⟩ = some (.slice S.ca S.cn S.cc) ∧ w6.cell? ⟨W.heap.size, 4, none⟩ = some (.slice S.pa S.pn S.pc) ∧ w6.cell? ⟨W.heap.size, 5, none⟩ = some (.slice S.ra S.rn S.rc) ∧ w6.cell? ⟨pb, po + k, none⟩ = some (.slice qa qn qc) ∧ w6.cell? ⟨ob, oo + q, none⟩ = some (.slice ta tn tc))) (fun hS => ?_)
      clear hK K
      (try simp only [PS])
      refine takeN 15 (v := ?_) rfl (by kernel_rfl) (by rfl) (fun w hSw => ?_) (by assumption) ?_
      rotate_left
      focus ((try dsimp only at hSw); (try go_split_ands); go_simp; try with_reducible rfl)
      (try simp only [PS])
      refine wpAnyH_done (by kernel_rfl) ?_ _
      exact ⟨rfl, xa, xc, a3, n3, c3, rfl, hR6, hbd6⟩
    rintro xa xc a3 n3 c3 w6 ⟨hR6, hb6⟩
    have hn3 : n3 ≠ 0 := by rw [← hR6.len]; exact HIN.out
    have HR6 := Lib.hid hR6
    have HB6 := Lib.hid (HBV.out.on hb6)
    clear hR6 hb6 d0 d1 d2 d3 d4 d5 hcq hct HADD HINTO
    by_cases hbig : 4096 < n3
    · have g3 : decide ((4096 : Int) < (n3 : Int)) = true := by simp; omega
      have g4 : decide (4096 < n3) = true := by simpa using hbig
      have HNO := Lib.hid (ordE_none HE.out (by rw [ordS_ordO, HPS.out, Int.toNat_natCast]; exact ordS_none (Mo.many HST.out HIV.out HO.out (by rw [HR6.out.len]; exact hbig)) (by omega)))
      have HBZ := Lib.hid (HB.out.on HB6.out)
      clear hbig
      go_wp2_with fail
      refine bodyPost_ret (v := .tuple #[.slice none 0 0, .int .i64 2]) (by simp [results, Tryz.results56, go_sem]) rfl ⟨none, 0, 0, by rw [HNO.out.1], by rw [HNO.out.2]; exact Rows.nil _, HBZ.out⟩
    · have g3 : decide ((4096 : Int) < (n3 : Int)) = false := by simp; omega
      have g4 : decide (4096 < n3) = false := by simpa using hbig
      go_wp2_with fail
      go_roundw
      case rel => exact ⟨k + 1, a3, n3, c3, _, by go_num, by omega, rfl, HR6.out, fun h => absurd h hn3, by omega, HST, HB6.out⟩
      case measure => simp [intOf]; omega
end Go.Proofs.YtehoidohallfcaaGreatDoor
