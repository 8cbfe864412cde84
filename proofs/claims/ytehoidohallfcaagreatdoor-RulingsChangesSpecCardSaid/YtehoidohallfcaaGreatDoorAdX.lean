/- Contract of ranking.add. -/
import Derived.Test.YtehoidohallfcaaGreatDoorPtZ
import Derived.RangeFuncNested
import Derived.RangeFuncBound
import Derived.Shelf.RegionOpen
import Derived.LoopNIn
import Derived.LoopIn
namespace Go.Proofs.YtehoidohallfcaaGreatDoor
open Go.RowKit
def tA (t : List Int) : Array Value := (t.map (Value.int .i64)).toArray
def tV (t : List Int) : Value := .agg (tA t)
theorem tA_get {t : List Int} {i : Nat} (h : i < t.length) : (tA t)[i]? = some (.int .i64 (t.getD i 0)) := by
 unfold tA; simp [List.getElem?_eq_getElem h, List.getD_eq_getElem?_getD]
theorem tA_set (t : List Int) (i : Nat) (x : Int) : (tA t).setIfInBounds i (.int .i64 x) = tA (t.set i x) := by
 unfold tA; rw [s_t, List.map_set]
theorem len8 {t : List Int} (h : t.length = 8) : ∃ a0 a1 a2 a3 a4 a5 a6 a7, t = [a0, a1, a2, a3, a4, a5, a6, a7] := by
 match t, h with
 | [a0, a1, a2, a3, a4, a5, a6, a7], _ => exact ⟨_, _, _, _, _, _, _, _, rfl⟩
theorem Box.g8 {w : World} {B : Nat} {a0 a1 a2 a3 a4 a5 a6 a7 : Int} {t : TypeId} (h : Box w B (tA [a0, a1, a2, a3, a4, a5, a6, a7]) t) : w.cell? ⟨B, 0, none⟩ = some (.int .i64 a0) ∧ w.cell? ⟨B, 1, none⟩ = some (.int .i64 a1) ∧ w.cell? ⟨B, 2, none⟩ = some (.int .i64 a2) ∧ w.cell? ⟨B, 3, none⟩ = some (.int .i64 a3) ∧ w.cell? ⟨B, 4, none⟩ = some (.int .i64 a4) ∧ w.cell? ⟨B, 5, none⟩ = some (.int .i64 a5) ∧ w.cell? ⟨B, 6, none⟩ = some (.int .i64 a6) ∧ w.cell? ⟨B, 7, none⟩ = some (.int .i64 a7) :=
 ⟨h.cell 0, h.cell 1, h.cell 2, h.cell 3, h.cell 4, h.cell 5, h.cell 6, h.cell 7⟩
structure OkIn (s : Sh) (l : List Rs) : Prop where
 sh : okSh s = true
 rs : l.all (okRs s) = true
 pg : okW s.pg = true
 len : l.length ≤ 32
theorem okIn_of {s : Sh} {l : List Rs} (h : rkE s l = 0) : OkIn s l := by
 unfold rkE at h
 split at h
 · cases h
 · rename_i h1
   split at h
   · rename_i h2; exact absurd h h2
   · rename_i h2
     split at h
     · rename_i h3
       rw [Bool.and_eq_true] at h3
       refine ⟨h3.1, h3.2, ?_, by omega⟩
       have h4 : ptE s.pg = 0 := Classical.not_not.1 h2
       unfold ptE at h4
       cases e : okW s.pg
       · rw [e] at h4; cases h4
       · rfl
     · cases h
theorem betw_getD {lo hi : Int} {l : List Int} (h : betw lo hi l = true) {i : Nat} (hi' : i < l.length) : lo ≤ l.getD i 0 ∧ l.getD i 0 ≤ hi := by
 unfold betw at h
 have := List.all_eq_true.1 h (l.getD i 0) (by rw [List.getD_eq_getElem?_getD, List.getElem?_eq_getElem hi']; exact List.getElem_mem _)
 simpa using this
theorem OkIn.parts {s : Sh} {l : List Rs} (h : OkIn s l) : (1 ≤ s.cs ∧ s.cs ≤ 8) ∧ (1 ≤ s.ps ∧ s.ps ≤ 8) ∧ (s.lv.length : Int) = s.ps ∧ (s.cl.length : Int) = s.ps ∧ betw 0 9 s.lv = true ∧ betw 0 512 s.cl = true := by
 have := h.sh
 unfold okSh at this
 simp only [Bool.and_eq_true, decide_eq_true_eq] at this
 obtain ⟨⟨⟨⟨⟨⟨⟨⟨a, b⟩, c, d⟩, e⟩, f⟩, g⟩, i⟩, j⟩, k⟩ := this
 exact ⟨⟨a, b⟩, ⟨c, d⟩, e, f, i, j⟩
theorem keep7 {W w w' : World} {a0 a1 a2 a3 a4 a5 a6 : Addr} {v0 v1 v2 v3 v4 v5 v6 : Value} (h : w.cell? a0 = some v0 ∧ w.cell? a1 = some v1 ∧ w.cell? a2 = some v2 ∧ w.cell? a3 = some v3 ∧ w.cell? a4 = some v4 ∧ w.cell? a5 = some v5 ∧ w.cell? a6 = some v6 ∧ Below W.heap.size W w) (hb : Below w.heap.size w w') : w'.cell? a0 = some v0 ∧ w'.cell? a1 = some v1 ∧ w'.cell? a2 = some v2 ∧ w'.cell? a3 = some v3 ∧ w'.cell? a4 = some v4 ∧ w'.cell? a5 = some v5 ∧ w'.cell? a6 = some v6 ∧ Below W.heap.size W w' :=
 have k : ∀ {a : Addr} {v : Value}, w.cell? a = some v → w'.cell? a = some v := fun {a _v} h => (hb.cell (World.block_lt_of_cell? w a h)).trans h
 ⟨k h.1, k h.2.1, k h.2.2.1, k h.2.2.2.1, k h.2.2.2.2.1, k h.2.2.2.2.2.1, k h.2.2.2.2.2.2.1, h.2.2.2.2.2.2.2.on hb⟩
theorem below_set {N : Nat} {w w' : World} (h : Below N w w') {B i : Nat} (hB : N ≤ B) (v : Value) : Below N w (w'.setCell ⟨B, i, none⟩ v) := h.setCell hB v
theorem Box.set8 {w : World} {B : Nat} {z0 z1 z2 z3 z4 z5 z6 z7 : Int} {t : TypeId} (h : Box w B (tA [z0, z1, z2, z3, z4, z5, z6, z7]) t) (b0 b1 b2 b3 b4 b5 b6 b7 : Int) : Box ((((((((w.setCell ⟨B, 0, none⟩ (.int .i64 b0)).setCell ⟨B, 1, none⟩ (.int .i64 b1)).setCell ⟨B, 2, none⟩ (.int .i64 b2)).setCell ⟨B, 3, none⟩ (.int .i64 b3)).setCell ⟨B, 4, none⟩ (.int .i64 b4)).setCell ⟨B, 5, none⟩ (.int .i64 b5)).setCell ⟨B, 6, none⟩ (.int .i64 b6)).setCell ⟨B, 7, none⟩ (.int .i64 b7)) B (tA [b0, b1, b2, b3, b4, b5, b6, b7]) t := by
 have h1 := (((((((h.set 0 (.int .i64 b0)).set 1 (.int .i64 b1)).set 2 (.int .i64 b2)).set 3 (.int .i64 b3)).set 4 (.int .i64 b4)).set 5 (.int .i64 b5)).set 6 (.int .i64 b6)).set 7 (.int .i64 b7)
 simp only [tA_set, s_z, s_s] at h1
 exact h1
theorem below_set8 {N : Nat} {w w' : World} (h : Below N w w') {B : Nat} (hB : N ≤ B) (b0 b1 b2 b3 b4 b5 b6 b7 : Int) : Below N w ((((((((w'.setCell ⟨B, 0, none⟩ (.int .i64 b0)).setCell ⟨B, 1, none⟩ (.int .i64 b1)).setCell ⟨B, 2, none⟩ (.int .i64 b2)).setCell ⟨B, 3, none⟩ (.int .i64 b3)).setCell ⟨B, 4, none⟩ (.int .i64 b4)).setCell ⟨B, 5, none⟩ (.int .i64 b5)).setCell ⟨B, 6, none⟩ (.int .i64 b6)).setCell ⟨B, 7, none⟩ (.int .i64 b7)) :=
 below_set (below_set (below_set (below_set (below_set (below_set (below_set (below_set h hB _) hB _) hB _) hB _) hB _) hB _) hB _) hB _
set_option maxHeartbeats 8000000 in
set_option maxRecDepth 100000 in
theorem add_any (S : Sp) (al : Option Addr) (nl cl : Nat) (l : List Rs) (p : Nat) (oa : Option Addr) (on oc : Nat) (own : List Int) (qa : Option Addr) (qc : Nat) (pl t : List Int) (W : World)
 (hS : S.In W) (h0 : SL encRs 6 W al nl cl l) (ho : Ints W oa on oc own) (hq : Ints W qa on qc pl) (hok : OkIn S.sh l) (hp : (p : Int) < S.sh.ps) (hown : ∀ i ∈ own, 0 ≤ i ∧ i < l.length) (hpl : ∀ x ∈ pl, 0 ≤ x ∧ x ≤ 1048576)
 (hon : on ≤ 1000) (ht : t.length = 8) (hb : BdT 1000000000000 t) (hT : Tab W) :
 Calls Tryz.prog 40 #[tV t, .agg #[.int .i64 S.sh.cs, .int .i64 S.sh.ps, .slice S.la S.ln S.lc, .slice S.ca S.cn S.cc, .slice S.pa S.pn S.pc, .slice S.ra S.rn S.rc], .slice al nl cl, .int .i64 p, .slice oa on oc, .slice qa on qc] W (RetB W (tV (addTo S.sh l p own pl on t))) := by
 obtain ⟨⟨k1, k2⟩, ⟨k3, k4⟩, k5, k6, k7, k8⟩ := hok.parts
 have hlvl : S.sh.lv.length = S.ln := hS.lv.len
 have hcll : S.sh.cl.length = S.cn := hS.cl.len
 have hpn1 : p < S.ln := by omega
 have hpn2 : p < S.cn := by omega
 obtain ⟨lb, lo, hla, hlb⟩ := hS.lv.at' (by omega)
 obtain ⟨cb, co, hca, hcb⟩ := hS.cl.at' (by omega)
 have hlv9 := betw_getD k7 (i := p) (by omega)
 have hcl9 := betw_getD k8 (i := p) (by omega)
 have HS := Lib.hid hS
 have HOK := Lib.hid hok
 have HOWN := Lib.hid hown
 have HPL := Lib.hid hpl
 have HT := Lib.hid hT
 have HLA := Lib.hid hla
 have HCA := Lib.hid hca
 have HTL := Lib.hid (fun k => (addTo_len S.sh l p own pl t k).trans ht)
 have HBD := Lib.hid (fun k => addTo_bd S.sh l p own pl (B := 1000000000000) (by omega) hb k)
 have HLV9 := Lib.hid hlv9
 have HCL9 := Lib.hid hcl9
 have HNL := Lib.hid h0.len
 have y1 : (0 : Int) ≤ (p : Int) := by omega
 have y2 : (p : Int) < (S.ln : Int) := by omega
 have y3 : (p : Int) < (S.cn : Int) := by omega
 have HBX1 : Hid (Box ((W.alloc (.cells (tA t) 87)).alloc (.cells #[.int .i64 S.sh.cs, .int .i64 S.sh.ps, .slice S.la S.ln S.lc, .slice S.ca S.cn S.cc, .slice S.pa S.pn S.pc, .slice S.ra S.rn S.rc] 25)) W.heap.size (tA t) 87) := Lib.hid ((Box.new W _ _).alloc _)
 have HBX2 : Hid (Box ((W.alloc (.cells (tA t) 87)).alloc (.cells #[.int .i64 S.sh.cs, .int .i64 S.sh.ps, .slice S.la S.ln S.lc, .slice S.ca S.cn S.cc, .slice S.pa S.pn S.pc, .slice S.ra S.rn S.rc] 25)) (W.heap.size + 1) #[.int .i64 S.sh.cs, .int .i64 S.sh.ps, .slice S.la S.ln S.lc, .slice S.ca S.cn S.cc, .slice S.pa S.pn S.pc, .slice S.ra S.rn S.rc] 25) := Lib.hid (by have := Box.new (W.alloc (.cells (tA t) 87)) #[.int .i64 S.sh.cs, .int .i64 S.sh.ps, .slice S.la S.ln S.lc, .slice S.ca S.cn S.cc, .slice S.pa S.pn S.pc, .slice S.ra S.rn S.rc] 25; rw [World.size_alloc] at this; exact this)
 have HT0 : Hid (addTo S.sh l p own pl 0 t = t) := Lib.hid rfl
 obtain ⟨a0, a1, a2, a3, a4, a5, a6, a7, rfl⟩ := len8 ht
 clear hok hown hpl hT hla hca ht hb hlv9 hcl9 k5 k6 k7 k8 hlvl hcll k1 k2 k3 k4 hp hS
 simp only [tV, tA, List.map_cons, List.map_nil] at HBX1 HBX2 ⊢
 go_enter Tryz.func40, Tryz.ntmps40
 go_wp2_with fail
 go_loopw [19] (fun i wr => ∃ k : Nat, i = .int .i64 k ∧ k ≤ on ∧ Box wr W.heap.size (tA (addTo S.sh l p own pl k [a0, a1, a2, a3, a4, a5, a6, a7])) 87 ∧ Box wr (W.heap.size + 1) #[.int .i64 S.sh.cs, .int .i64 S.sh.ps, .slice S.la S.ln S.lc, .slice S.ca S.cn S.cc, .slice S.pa S.pn S.pc, .slice S.ra S.rn S.rc] 25 ∧ Box wr (W.heap.size + 1 + 1) (tA [0, 0, 0, 0, 0, 0, 0, 0]) 87 ∧ Below W.heap.size W wr) (fun i _ => on - (intOf i).toNat)
 case atStart => exact ⟨0, rfl, by omega, HBX1.out.alloc _, HBX2.out.alloc _, (by have := Box.new ((W.alloc (.cells (tA [a0, a1, a2, a3, a4, a5, a6, a7]) 87)).alloc (.cells #[.int .i64 S.sh.cs, .int .i64 S.sh.ps, .slice S.la S.ln S.lc, .slice S.ca S.cn S.cc, .slice S.pa S.pn S.pc, .slice S.ra S.rn S.rc] 25)) (tA [0, 0, 0, 0, 0, 0, 0, 0]) 87; rw [World.size_alloc, World.size_alloc] at this; exact this), (((Below.refl _ _).alloc (Nat.le_refl _) _).alloc (by simp) _).alloc (by simp; omega) _⟩
 case round =>
  clear HBX1 HBX2 HT0
  obtain ⟨k, rfl, hk, hx1, hx2, hx3, hB⟩ := hrel
  by_cases hlt : k < on
  rotate_left
  · obtain rfl : on = k := by omega
    obtain ⟨b0, b1, b2, b3, b4, b5, b6, b7, hb'⟩ := len8 (HTL.out on)
    rw [hb'] at hx1
    have HR := Lib.hid hb'
    obtain ⟨c0, c1, c2, c3, c4, c5, c6, c7⟩ := hx1.g8
    obtain ⟨d0, d1, d2, d3, d4, d5, d6, d7⟩ := hx3.g8
    have f0 := hx3.frozen 0
    have f1 := hx3.frozen 1
    have f2 := hx3.frozen 2
    have f3 := hx3.frozen 3
    have f4 := hx3.frozen 4
    have f5 := hx3.frozen 5
    have f6 := hx3.frozen 6
    have f7 := hx3.frozen 7
    have l0 := hx3.lt
    clear hb' hx1 hx2 HTL HBD
    go_wp2_with fail
    have hx8 := hx3.set8 b0 b1 b2 b3 b4 b5 b6 b7
    have hb8 := below_set8 hB (B := W.heap.size + 1 + 1) (by omega) b0 b1 b2 b3 b4 b5 b6 b7
    obtain ⟨w8, hw8⟩ : ∃ w8, ((((((((wr.setCell ⟨W.heap.size + 1 + 1, 0, none⟩ (.int .i64 b0)).setCell ⟨W.heap.size + 1 + 1, 1, none⟩ (.int .i64 b1)).setCell ⟨W.heap.size + 1 + 1, 2, none⟩ (.int .i64 b2)).setCell ⟨W.heap.size + 1 + 1, 3, none⟩ (.int .i64 b3)).setCell ⟨W.heap.size + 1 + 1, 4, none⟩ (.int .i64 b4)).setCell ⟨W.heap.size + 1 + 1, 5, none⟩ (.int .i64 b5)).setCell ⟨W.heap.size + 1 + 1, 6, none⟩ (.int .i64 b6)).setCell ⟨W.heap.size + 1 + 1, 7, none⟩ (.int .i64 b7)) = w8 := ⟨_, rfl⟩
    rw [hw8] at hx8 hb8 ⊢
    obtain ⟨e0, e1, e2, e3, e4, e5, e6, e7⟩ := hx8.g8
    refine bodyPost_ret (v := .agg #[.int .i64 b0, .int .i64 b1, .int .i64 b2, .int .i64 b3, .int .i64 b4, .int .i64 b5, .int .i64 b6, .int .i64 b7]) (by simp [results, Tryz.results40, go_sem, e0, e1, e2, e3, e4, e5, e6, e7]) rfl ?_
    exact ⟨by rw [HR.out]; rfl, hb8⟩
  obtain ⟨ob, oo, rfl, hob⟩ := ho.at' (by omega)
  obtain ⟨qb, qo, rfl, hqb⟩ := hq.at' (by omega)
  have hown1 := HOWN.out (own.getD k 0) (own_mem (by rw [ho.len]; exact hlt))
  obtain ⟨i, hi⟩ : ∃ i : Nat, own.getD k 0 = (i : Int) := ⟨(own.getD k 0).toNat, by omega⟩
  obtain ⟨x, hX⟩ : ∃ x, l[i]? = some x := ⟨_, List.getElem?_eq_getElem (by omega)⟩
  have hil : i < nl := by rw [← HNL.out]; omega
  obtain ⟨xb, xo, rfl, hxb⟩ := h0.at' (by omega)
  have hxr : rsAt l (own.getD k 0) = x := by rw [hi]; exact getD_of hX
  have hokx := okRs_iv (List.all_eq_true.1 HOK.out.rs x (List.mem_of_getElem? hX))
  obtain ⟨cm, hcm⟩ : ∃ cm : Nat, x.cm = (cm : Int) := ⟨x.cm.toNat, by omega⟩
  have hcm8 : cm < 8 := by have := HOK.out.parts.1; omega
  obtain ⟨pk, hpk⟩ : ∃ pk, pl.getD k 0 = pk := ⟨_, rfl⟩
  have hpk1 : 0 ≤ pk ∧ pk ≤ 1048576 := by rw [← hpk]; exact HPL.out _ (own_mem (by rw [hq.len]; exact hlt))
  obtain ⟨vl, hvl⟩ : ∃ vl, S.sh.lv.getD p 0 = vl := ⟨_, rfl⟩
  obtain ⟨vc, hvc⟩ : ∃ vc, S.sh.cl.getD p 0 = vc := ⟨_, rfl⟩
  have hvl9 := HLV9.out
  have hvc9 := HCL9.out
  rw [hvl] at hvl9
  rw [hvc] at hvc9
  have co1 := (ho.below hB).atI hlt
  have cq1 := (hq.below hB).atI hlt
  rw [hi] at co1
  rw [hpk] at cq1
  have hSw := HS.out.below hB
  have hlv' := hSw.lv
  rw [HLA.out] at hlv'
  have cl1 := hlv'.atI hpn1
  rw [hvl] at cl1
  have hcl' := hSw.cl
  rw [HCA.out] at hcl'
  have cc1 := hcl'.atI hpn2
  rw [hvc] at cc1
  obtain ⟨r0, r1, r2, r3, r4, r5⟩ := (h0.below hB).rs6 hX
  obtain ⟨d0, d1, d2, d3, d4, d5⟩ := hx2.g6
  rw [HLA.out] at d2
  rw [HCA.out] at d3
  have HRUN : Hid (∀ q, Calls Tryz.prog 59 #[.slice S.pa S.pn S.pc, .slice (some ⟨wr.heap.size, 0, none⟩) 5 5] ((wr.drewN q).alloc (.cells #[.int .i64 pk, .int .i64 on, .int .i64 vl, .int .i64 vc, .int .i64 x.tr] 3)) (RetB ((wr.drewN q).alloc (.cells #[.int .i64 pk, .int .i64 on, .int .i64 vl, .int .i64 vc, .int .i64 x.tr] 3)) (.tuple #[.int .i64 (ptsOf S.sh l p own pl k), .int .i64 0]))) := Lib.hid fun q => by
   have hb2 : Below wr.heap.size wr ((wr.drewN q).alloc (.cells #[.int .i64 pk, .int .i64 on, .int .i64 vl, .int .i64 vc, .int .i64 x.tr] 3)) := (Below.drewN0 wr q).on (al0 (wr.drewN q) _ _)
   have hpt : ptsOf S.sh l p own pl k = runW S.sh.pg [pk, (on : Int), vl, vc, x.tr] := by unfold ptsOf; rw [hxr, hpk, hvl, hvc, ho.len]
   rw [hpt]
   exact run_any _ _ _ S.sh.pg _ _ [pk, (on : Int), vl, vc, x.tr] _ (hSw.pg.below hb2) (ints_new (wr.drewN q) _ [pk, (on : Int), vl, vc, x.tr] 5 _ rfl rfl (by omega)) HOK.out.pg (fun z hz => by
    simp only [List.mem_cons, List.not_mem_nil, or_false] at hz
    rcases hz with rfl | rfl | rfl | rfl | rfl <;> omega) ((HT.out.below hB).below hb2)
  have s0 : (0 : Int) ≤ (k : Int) := by omega
  have s1 : (k : Int) < (on : Int) := by omega
  have s2 : (0 : Int) ≤ (i : Int) := by omega
  have s3 : (i : Int) < (nl : Int) := by omega
  have HX := Lib.hid hX
  have HXR := Lib.hid hxr
  have HCM := Lib.hid hcm
  have HX1 := Lib.hid hx1
  have HX2 := Lib.hid hx2
  have HX3 := Lib.hid hx3
  have HB := Lib.hid hB
  have hbl := hx1.lt
  obtain ⟨np, hnp⟩ : ∃ np, ptsOf S.sh l p own pl k = np := ⟨_, rfl⟩
  have hnpb := pts_bd S.sh l p own pl k
  rw [hnp] at HRUN hnpb
  have HNP := Lib.hid hnp
  clear hX hxr hcm hpk hvl hvc hi hokx hlv' hcl' hSw hx1 hx2 hx3 hB hnp hown1
  go_wp2_with fail
  go_region_held3 (fun w' => w'.cell? ⟨W.heap.size + 1, 4, none⟩ = some (.slice S.pa S.pn S.pc) ∧ w'.cell? ⟨W.heap.size + 1, 2, none⟩ = some (.slice (some ⟨lb, lo, none⟩) S.ln S.lc) ∧ w'.cell? ⟨W.heap.size + 1, 3, none⟩ = some (.slice (some ⟨cb, co, none⟩) S.cn S.cc) ∧ w'.cell? ⟨qb, qo + k, none⟩ = some (.int .i64 pk) ∧ w'.cell? ⟨lb, lo + p, none⟩ = some (.int .i64 vl) ∧ w'.cell? ⟨cb, co + p, none⟩ = some (.int .i64 vc) ∧ w'.cell? ⟨xb, xo + i * 6 + 2, none⟩ = some (.int .i64 x.tr) ∧ Below wr.heap.size wr w')
   (first | exact ⟨d4, d2, d3, cq1, cl1, cc1, r2, (Below.refl _ _).drew⟩ | exact keep7 (by assumption) (by assumption) | exact keep7 (by assumption) (al0 _ _ _) | exact keep7 ⟨d4, d2, d3, cq1, cl1, cc1, r2, Below.refl _ _⟩ (by assumption))
   (first | (go_at_call 59; refine (HRUN.out 1).mono ?_; rintro e w7 ⟨rfl, hb7⟩))
  have hB7 : Below wr.heap.size wr w7 := ((Below.drewN0 wr 1).on (al0 (wr.drewN 1) _ _)).on hb7
  have hx1 := HX1.out.below hB7
  have hx2 := HX2.out.below hB7
  have hx3 := HX3.out.below hB7
  have r0' := (hB7.cell (p := ⟨xb, xo + i * 6, none⟩) (World.block_lt_of_cell? wr _ r0)).trans r0
  rw [HCM.out] at r0'
  have ct := hx1.cell cm
  rw [tA_get (by rw [HTL.out]; exact hcm8)] at ct
  have hzb := (HBD.out k).getD (by omega) cm
  obtain ⟨T1, hT1⟩ : ∃ T1, addTo S.sh l p own pl k [a0, a1, a2, a3, a4, a5, a6, a7] = T1 := ⟨_, rfl⟩
  have HT1 := Lib.hid hT1
  rw [hT1] at ct hzb hx1
  obtain ⟨z, hz⟩ : ∃ z, T1.getD cm 0 = z := ⟨_, rfl⟩
  rw [hz] at ct hzb
  have HZ := Lib.hid hz
  have hw : IntKind.i64.wrap (z + np) = z + np := by rw [IntKind.wrap_i64]; omega
  have f1 := hx1.frozen cm
  have l1 := hx1.lt
  have t0 : (0 : Int) ≤ (cm : Int) := by omega
  have t1 : (cm : Int) < 8 := by omega
  have HX1 := Lib.hid hx1
  have HX2 := Lib.hid hx2
  have HX3 := Lib.hid hx3
  have HB7 : Hid (Below W.heap.size W w7) := Lib.hid (HB.out.on hB7)
  clear hT1 hz hx1 hx2 hx3 hB7 hb7 hzb d0 d1 d2 d3 d4 d5 r0 r1 r2 r3 r4 r5 cl1 cc1 co1 cq1
  go_wp2_with fail
  go_roundw
  case rel =>
   refine ⟨k + 1, by go_num, by omega, ?_, HX2.out.setOther _ (by simp), HX3.out.setOther _ (by simp; omega), below_set HB7.out (Nat.le_refl _) _⟩
   have h1 := HX1.out.set cm (.int .i64 (z + np))
   rw [tA_set] at h1
   unfold addTo
   rw [HXR.out, HCM.out, Int.toNat_natCast, HT1.out, HZ.out, HNP.out]
   exact h1
  case measure => simp [intOf]; omega
open Go.RowKit
theorem tk_sz : Tryz.prog.types.size = 762 := by kernel_rfl
theorem tk_g : Tryz.prog.globals.all (fun g => decide (g.type < Tryz.prog.types.size)) = true := by kernel_rfl
theorem tk_f : Tryz.prog.funcs.all (fun f => f.params.all fun t => decide (t < Tryz.prog.types.size)) = true := by kernel_rfl
theorem tk_r0 : (List.range' 0 150).all (rowFine Tryz.prog) = true := by kernel_rfl
theorem tk_r1 : (List.range' 150 150).all (rowFine Tryz.prog) = true := by kernel_rfl
theorem tk_r2 : (List.range' 300 150).all (rowFine Tryz.prog) = true := by kernel_rfl
theorem tk_r3 : (List.range' 450 150).all (rowFine Tryz.prog) = true := by kernel_rfl
theorem tk_r4 : (List.range' 600 162).all (rowFine Tryz.prog) = true := by kernel_rfl
theorem tk_at' {a n i : Nat} (h : (List.range' a n).all (rowFine Tryz.prog) = true) (h1 : a ≤ i) (h2 : i < a + n) : rowFine Tryz.prog i = true := List.all_eq_true.1 h i (List.mem_range'_1.2 ⟨h1, h2⟩)
theorem tk_laid : laidOutB Tryz.prog = true := by
 have h1 : (List.range Tryz.prog.types.size).all (rowFine Tryz.prog) = true := by
  rw [tk_sz, List.all_eq_true]
  intro i hi
  have hi := List.mem_range.1 hi
  rcases Nat.lt_or_ge i 150 with h | h
  · exact tk_at' tk_r0 (by omega) (by omega)
  rcases Nat.lt_or_ge i 300 with h | h
  · exact tk_at' tk_r1 (by omega) (by omega)
  rcases Nat.lt_or_ge i 450 with h | h
  · exact tk_at' tk_r2 (by omega) (by omega)
  rcases Nat.lt_or_ge i 600 with h | h
  · exact tk_at' tk_r3 (by omega) (by omega)
  · exact tk_at' tk_r4 (by omega) (by omega)
 unfold laidOutB
 rw [h1, tk_g, tk_f]; rfl
theorem tk_row : (87 : TypeId) < Tryz.prog.types.size := of_decide_eq_true (by kernel_rfl)
theorem tk_at : Tryz.prog.keyTypeAt 2 87 = true := by kernel_rfl
theorem tk_law : Maps.Keyed Tryz.prog 87 := by
 refine Maps.Keyed.of_law (deep_law_laid tk_laid (m := 2) (by omega) tk_row tk_at ?_)
 have h := Tryz.underlying87
 revert h
 generalize Tryz.prog.underlying 87 = x
 rintro rfl
 rfl
theorem tk_type : Tryz.prog.keyType 87 = true := by kernel_rfl
theorem tk_cells : Tryz.prog.cellsOf 87 = 8 := by kernel_rfl
theorem tk_one : Tryz.prog.cellsOf 3 = 1 := by kernel_rfl
theorem tk_lits (d : Nat) (x : Int) (h : (Lit.int .i64 x).wf = true) : Tryz.prog.keyLits (d + 1) 3 [.int .i64 x] = some [.int .i64 x] := by
 unfold Program.keyLits
 rw [Tryz.underlying3]
 simp [h]
theorem mapM_some {α β : Type} {f : α → Option β} {g : α → β} : ∀ {l : List α}, (∀ x ∈ l, f x = some (g x)) → l.mapM f = some (l.map g)
 | [], _ => rfl
 | x :: l, h => by
  rw [List.mapM_cons, h x (List.mem_cons_self ..), mapM_some (fun y hy => h y (List.mem_cons_of_mem _ hy))]; rfl
theorem flat_one {α β : Type} (g : α → β) : ∀ l : List α, (l.map fun x => [g x]).flatten = l.map g
 | [] => rfl
 | x :: l => by rw [List.map_cons, List.flatten_cons, flat_one g l]; rfl
def okT (t : List Int) : Prop := t.length = 8 ∧ ∀ x ∈ t, (Lit.int .i64 x).wf = true
def litsT (t : List Int) : List Lit := (List.range 8).map fun i => .int .i64 (t.getD i 0)
def litT (t : List Int) : Lit := .string (keyBytes (litsT t))
theorem tA_len (t : List Int) : (tA t).toList.length = t.length := by unfold tA; simp
theorem okT.wf {t : List Int} (h : okT t) (i : Nat) : (Lit.int .i64 (t.getD i 0)).wf = true := by
 rw [List.getD_eq_getElem?_getD]
 cases e : t[i]? with
 | none => rfl
 | some x => exact h.2 x (List.mem_of_getElem? e)
theorem tk_lits8 (d : Nat) (t : List Int) (h : okT t) : Tryz.prog.keyLits (d + 1 + 1) 87 (tA t).toList = some (litsT t) := by
 unfold Program.keyLits
 rw [Tryz.underlying87]
 simp only [tk_cells, tk_one, tA_len, h.1, if_true]
 rw [mapM_some (g := fun i => [Lit.int .i64 (t.getD i 0)])]
 · rw [Option.map_some, flat_one]; rfl
 · intro i hi
   have hi' := List.mem_range.1 hi
   have e : ((tA t).toList.drop (i * 1)).take 1 = [Value.int .i64 (t.getD i 0)] := by
    have hl : i < (tA t).toList.length := by rw [tA_len, h.1]; exact hi'
    rw [Nat.mul_one, List.drop_eq_getElem_cons hl]
    simp only [List.take_succ_cons, List.take_zero, List.cons.injEq, and_true]
    have h2 := tA_get (t := t) (i := i) (by rw [h.1]; exact hi')
    rw [← Array.getElem?_toList, List.getElem?_eq_getElem hl] at h2
    injection h2
   rw [e]
   exact tk_lits d _ (h.wf i)
theorem tk_size : Tryz.prog.types.size + 1 = (Tryz.prog.types.size - 1) + 1 + 1 := by
 have h : (Nat.lt 87 Tryz.prog.types.size) := tk_row
 generalize Tryz.prog.types.size = z at h
 simp only [Nat.lt_eq] at h
 omega
theorem tk_key (t : List Int) (h : okT t) : keyOf Tryz.prog 87 (tV t) = some (litT t) := by
 unfold keyOf
 rw [Tryz.underlying87]
 have hf : (tV t).formed Tryz.prog 87 = true := by
  have hs : (tA t).size = 8 := by have := tA_len t; rw [h.1] at this; simpa using this
  simp [tV, Value.formed, Tryz.underlying87, tk_cells, hs]
 simp only [tk_type, hf, Bool.and_self, if_true]
 rw [tk_size]
 show (Tryz.prog.keyLits _ 87 (tA t).toList).map _ = _
 rw [tk_lits8 _ t h]
 rfl
theorem tV_inj {x y : List Int} (h : tV x = tV y) : x = y := by
 unfold tV tA at h
 injection h with h
 have h2 : x.map (Value.int .i64) = y.map (Value.int .i64) := by simpa using congrArg Array.toList h
 exact List.map_inj_right (fun a b e => by simpa using e) |>.1 h2
theorem tot_key : KeyL 87 163 tV litT okT where
 law := tk_law
 und := Tryz.underlying163
 key := tk_key
 inj := fun _x _y _ _ h => tV_inj h
abbrev TMap (w : World) (b : Nat) (ks : List (List Int)) : Prop := BMap tV okT w b ks
theorem okT_of {t : List Int} (h : t.length = 8) (hb : BdT 1000000000000 t) : okT t := ⟨h, fun x hx => WalkArith.wf_i64 (by have := hb x hx; omega)⟩
open Go.RowKit Go.Shelf
attribute [local go_sem] Oper.semAt_some
theorem keysM_any (mb : Option Nat) (W : World) : Calls Tryz.prog 78 #[.map mb] W fun e w' => e = .returned (.func (.func 118) #[] #[.pointer (some ⟨W.heap.size, 0, none⟩)]) ∧ w' = W.alloc (.cells #[.map mb] 163) := by
 go_enter Tryz.func78, Tryz.ntmps78
 go_wp2
 go_ret
 exact ⟨rfl, rfl⟩
structure TT where
 val : List Int
 len : val.length = 8
def kEnc (k : TT) : Array Value := #[tV k.val]
set_option maxRecDepth 20000 in
set_option maxHeartbeats 2000000 in
theorem keys1_stops (ks : List (List Int)) (Bm b : Nat) (W : World) (hm : Box W Bm #[.map (some b)] 163) (hK : TMap W b ks) (hl : ks.length ≤ 1000000) :
 SeqStopsK Fence.wide 5 Tryz.prog 118 #[.pointer (some ⟨Bm, 0, none⟩)] kEnc KeepsWalks (fun ss : List TT => (ss.map TT.val).Nodup ∧ ∀ k, k ∈ ss.map TT.val ↔ k ∈ ks) (fun _ => True) ks.length W := by
 intro li J Jx W1 hB hJ hJx hY h0
 have hK1 := hK.below hB
 have d0 : W1.cell? ⟨Bm, 0, none⟩ = some (.map (some b)) := by simpa using (hm.below hB).cell 0
 obtain ⟨D, hown, hsz⟩ := hK1.owns tot_key (by unfold maxLen; omega)
 have hh0 : ∀ k ∈ ks, Maps.has D (litT k) = true := fun k hk => hK1.has0 tot_key hown hk
 have HH0 := Lib.hid hh0
 clear hh0
 refine callsIn_of_wp Tryz.func118 rfl trivial ?_ rfl
 simp only [Tryz.ntmps118, List.size_toArray, List.length_cons, List.length_nil, Nat.reduceAdd, Nat.reduceSub, Array.replicate_succ, Array.replicate_zero, List.push_toArray, List.append_toArray, List.nil_append, List.cons_append]
 gi_wp2_with (first
  | (gi_at_range; refine wpListIn_range_own _ rfl _ 163 rfl 87 4 tk_law Tryz.underlying163 _ b ks.length _ rfl hown ?_; intro w0 hrg0 hg0 hs0)
  | gi_in)
 go_frame
 have hK0 : TMap w0 b ks := hK1.heap (hg0.block b hK1.lt (by simp))
 have hJ0 := hJ [] W1 w0 none h0 hg0 (fun r e => by cases e)
 have hC0 := Lib.hid (Come.start (lit := litT) (left := Maps.has D) HH0.out)
 gi_loopw [3] (fun _ wr => ∃ (left : Lit → Bool) (cnt : Nat) (ss : List TT), wr.ranges Tryz.prog 87 anyR b W1.heap.size ks.length D left cnt ∧ ss.length + cnt ≤ Maps.size D ∧ Hid (Come litT ks left (ss.map TT.val)) ∧ J ss wr ∧ TMap wr b ks)
  (fun _ wr => wr.rangeLeft b W1.heap.size)
 case atStart => exact ⟨_, _, [], hrg0, by simp, hC0, hJ0, hK0⟩
 case round =>
  clear hK0 hJ0 hC0
  obtain ⟨left, cnt, ss, hrg, hcs, hC, hJs, hKr⟩ := hrel
  gi_wp2_with (first
   | (gi_at_next; refine wpListIn_next_b tot_key rfl _ rfl b W1.heap.size _ _ _ _ ks rfl hrg hKr ?_ ?_)
   | gi_in)
  · intro hl0
    gi_wp2
    go_end0
    exact ⟨⟨_, rfl⟩, .inl ⟨ss, ⟨hC.out.nodup, fun k => by rw [hC.out.mem k]; simp [hl0]⟩, hJs⟩⟩
  · intro x v w2 cnt2 hx hlk hrg2 hlt hg2 hs2 hen
    obtain ⟨a0, a1, a2, a3, a4, a5, a6, a7, rfl⟩ := len8 (hKr.keys x hx).1
    have hbk : Below w2.heap.size w2 (w2.alloc (.cells #[.int .i64 a0, .int .i64 a1, .int .i64 a2, .int .i64 a3, .int .i64 a4, .int .i64 a5, .int .i64 a6, .int .i64 a7] 87)) := (Below.refl _ _).alloc (Nat.le_refl _) _
    have hJ2 : J ss w2 := hJ ss wr w2 (some W1.heap.size) hJs hg2 (fun r e => by cases e; exact ⟨Nat.le_refl _, hrg.iter_walk⟩)
    have hJ3 := hJ ss w2 (w2.alloc (.cells #[.int .i64 a0, .int .i64 a1, .int .i64 a2, .int .i64 a3, .int .i64 a4, .int .i64 a5, .int .i64 a6, .int .i64 a7] 87)) none hJ2 (World.grownBy_alloc _ _ none) (fun r e => by cases e)
    have hK3 : TMap (w2.alloc (.cells #[.int .i64 a0, .int .i64 a1, .int .i64 a2, .int .i64 a3, .int .i64 a4, .int .i64 a5, .int .i64 a6, .int .i64 a7] 87)) b ks := (hKr.heap (hg2.block b hKr.lt (fun e => by
     obtain ⟨es, clock, since, seen, c1, hb, _, _, _, hr, _⟩ := hrg
     injection e with e
     rw [e] at hb; rw [hb] at hr; cases hr))).below hbk
    have hkw : KeepsWalks w2 (w2.alloc (.cells #[.int .i64 a0, .int .i64 a1, .int .i64 a2, .int .i64 a3, .int .i64 a4, .int .i64 a5, .int .i64 a6, .int .i64 a7] 87)) := KeepsWalks.alloc _ _
    obtain ⟨fn, tmps, assign, body, hy, hR⟩ := hY ss (⟨[a0, a1, a2, a3, a4, a5, a6, a7], rfl⟩ : TT) _ hJ3 (by omega)
    simp only [kEnc, tV, tA, List.map_cons, List.map_nil] at hy
    simp only [tV, tA, List.map_cons, List.map_nil] at hen
    clear hs2
    gi_wp2
    refine hR.mono ?_
    rintro e W3 (⟨rfl, hJ4, hk4⟩ | ⟨rfl, hJ4⟩)
    · clear hy hR
      gi_wp2
      have hrg3 := hrg2.of_walks (hkw.trans hk4)
      go_roundw
      case rel =>
       refine ⟨_, cnt2, ss ++ ([⟨[a0, a1, a2, a3, a4, a5, a6, a7], rfl⟩] : List TT), hrg3, by simp; omega, Lib.hid (by rw [List.map_append]; exact hC.out.step tot_key hKr.keys hx hlk), hJ4, ?_⟩
       obtain ⟨es, clock, hb, _⟩ := hK3.has
       exact hK3.heap ((hk4.same b _ hb rfl).trans hb.symm)
      case measure => rw [hrg3.left_eq, hrg.left_eq]; exact hlt
    · clear hy hR
      gi_wp2
      (try simp only [Exit.inBlock, Exit.then])
      refine bodyPost_ret (results_none rfl _ _ _) rfl ?_
      exact ⟨⟨_, rfl⟩, .inr ⟨_, trivial, hJ4⟩⟩
end Go.Proofs.YtehoidohallfcaaGreatDoor
