/- Contract of ranking.add. -/
import Derived.Test.YtehoidohallfcaaGreatDoorCntA
import Derived.Test.YtehoidohallfcaaGreatDoorPtT
import Derived.BigRegion
import Derived.Deep.RegionHeld3
import Derived.WalkKit
import Derived.WalkSpells
import Derived.WalkLawsBesides
import Derived.Deep.LoopGhost
import Derived.Deep.QuietTactic
import Derived.BigQuiet
import Derived.StillTailTactics
import Derived.Lib.Hide
import Derived.Outline
import Derived.Lib.QuietBelow
namespace Go.Proofs.YtehoidohallfcaaGreatDoor
open Go.RowKit

/-! ### totals as values -/
def tA (t : List Int) : Array Value := (t.map (Value.int .i64)).toArray
def tV (t : List Int) : Value := .agg (tA t)
theorem tA_get {t : List Int} {i : Nat} (h : i < t.length) : (tA t)[i]? = some (.int .i64 (t.getD i 0)) := by
  unfold tA; simp [List.getElem?_eq_getElem h, List.getD_eq_getElem?_getD]
theorem tA_set (t : List Int) (i : Nat) (x : Int) : (tA t).setIfInBounds i (.int .i64 x) = tA (t.set i x) := by
  unfold tA; rw [List.setIfInBounds_toArray, List.map_set]
theorem len8 {t : List Int} (h : t.length = 8) : ∃ a0 a1 a2 a3 a4 a5 a6 a7, t = [a0, a1, a2, a3, a4, a5, a6, a7] := by
  match t, h with
  | [a0, a1, a2, a3, a4, a5, a6, a7], _ => exact ⟨_, _, _, _, _, _, _, _, rfl⟩
theorem Box.g8 {w : World} {B : Nat} {a0 a1 a2 a3 a4 a5 a6 a7 : Int} {t : TypeId} (h : Box w B (tA [a0, a1, a2, a3, a4, a5, a6, a7]) t) : w.cell? ⟨B, 0, none⟩ = some (.int .i64 a0) ∧ w.cell? ⟨B, 1, none⟩ = some (.int .i64 a1) ∧ w.cell? ⟨B, 2, none⟩ = some (.int .i64 a2) ∧ w.cell? ⟨B, 3, none⟩ = some (.int .i64 a3) ∧ w.cell? ⟨B, 4, none⟩ = some (.int .i64 a4) ∧ w.cell? ⟨B, 5, none⟩ = some (.int .i64 a5) ∧ w.cell? ⟨B, 6, none⟩ = some (.int .i64 a6) ∧ w.cell? ⟨B, 7, none⟩ = some (.int .i64 a7) :=
  ⟨h.cell 0, h.cell 1, h.cell 2, h.cell 3, h.cell 4, h.cell 5, h.cell 6, h.cell 7⟩

/-! ### a right sheet, right results -/
structure OkIn (s : Sh) (l : List Rs) : Prop where
  sh : okSh s = true
  rs : l.all (okRs s) = true
  pg : okW s.pg = true
  len : l.length ≤ 32
theorem okIn_of {s : Sh} {l : List Rs} (h : rkE s l = 0) : OkIn s l := by
  unfold rkE at h
  split at h
  · cases h
  · rename_i h1
    split at h
    · rename_i h2; exact absurd h h2
    · rename_i h2
      split at h
      · rename_i h3
        rw [Bool.and_eq_true] at h3
        refine ⟨h3.1, h3.2, ?_, by omega⟩
        have h4 : ptE s.pg = 0 := Classical.not_not.1 h2
        unfold ptE at h4
        cases e : okW s.pg
        · rw [e] at h4; cases h4
        · rfl
      · cases h
theorem betw_getD {lo hi : Int} {l : List Int} (h : betw lo hi l = true) {i : Nat} (hi' : i < l.length) : lo ≤ l.getD i 0 ∧ l.getD i 0 ≤ hi := by
  unfold betw at h
  have := List.all_eq_true.1 h (l.getD i 0) (by rw [List.getD_eq_getElem?_getD, List.getElem?_eq_getElem hi']; exact List.getElem_mem _)
  simpa using this
theorem OkIn.parts {s : Sh} {l : List Rs} (h : OkIn s l) : (1 ≤ s.cs ∧ s.cs ≤ 8) ∧ (1 ≤ s.ps ∧ s.ps ≤ 8) ∧ (s.lv.length : Int) = s.ps ∧ (s.cl.length : Int) = s.ps ∧ betw 0 9 s.lv = true ∧ betw 0 512 s.cl = true := by
  have := h.sh
  unfold okSh at this
  simp only [Bool.and_eq_true, decide_eq_true_eq] at this
  obtain ⟨⟨⟨⟨⟨⟨⟨⟨a, b⟩, c, d⟩, e⟩, f⟩, g⟩, i⟩, j⟩, k⟩ := this
  exact ⟨⟨a, b⟩, ⟨c, d⟩, e, f, i, j⟩
theorem keep7 {W w w' : World} {a0 a1 a2 a3 a4 a5 a6 : Addr} {v0 v1 v2 v3 v4 v5 v6 : Value} (h : w.cell? a0 = some v0 ∧ w.cell? a1 = some v1 ∧ w.cell? a2 = some v2 ∧ w.cell? a3 = some v3 ∧ w.cell? a4 = some v4 ∧ w.cell? a5 = some v5 ∧ w.cell? a6 = some v6 ∧ Below W.heap.size W w) (hb : Below w.heap.size w w') : w'.cell? a0 = some v0 ∧ w'.cell? a1 = some v1 ∧ w'.cell? a2 = some v2 ∧ w'.cell? a3 = some v3 ∧ w'.cell? a4 = some v4 ∧ w'.cell? a5 = some v5 ∧ w'.cell? a6 = some v6 ∧ Below W.heap.size W w' :=
  have k : ∀ {a : Addr} {v : Value}, w.cell? a = some v → w'.cell? a = some v := fun {a _v} h => (hb.cell (World.block_lt_of_cell? w a h)).trans h
  ⟨k h.1, k h.2.1, k h.2.2.1, k h.2.2.2.1, k h.2.2.2.2.1, k h.2.2.2.2.2.1, k h.2.2.2.2.2.2.1, h.2.2.2.2.2.2.2.on hb⟩
theorem below_set {N : Nat} {w w' : World} (h : Below N w w') {B i : Nat} (hB : N ≤ B) (v : Value) : Below N w (w'.setCell ⟨B, i, none⟩ v) := h.setCell hB v
theorem Box.set8 {w : World} {B : Nat} {z0 z1 z2 z3 z4 z5 z6 z7 : Int} {t : TypeId} (h : Box w B (tA [z0, z1, z2, z3, z4, z5, z6, z7]) t) (b0 b1 b2 b3 b4 b5 b6 b7 : Int) : Box ((((((((w.setCell ⟨B, 0, none⟩ (.int .i64 b0)).setCell ⟨B, 1, none⟩ (.int .i64 b1)).setCell ⟨B, 2, none⟩ (.int .i64 b2)).setCell ⟨B, 3, none⟩ (.int .i64 b3)).setCell ⟨B, 4, none⟩ (.int .i64 b4)).setCell ⟨B, 5, none⟩ (.int .i64 b5)).setCell ⟨B, 6, none⟩ (.int .i64 b6)).setCell ⟨B, 7, none⟩ (.int .i64 b7)) B (tA [b0, b1, b2, b3, b4, b5, b6, b7]) t := by
  have h1 := (((((((h.set 0 (.int .i64 b0)).set 1 (.int .i64 b1)).set 2 (.int .i64 b2)).set 3 (.int .i64 b3)).set 4 (.int .i64 b4)).set 5 (.int .i64 b5)).set 6 (.int .i64 b6)).set 7 (.int .i64 b7)
  simp only [tA_set, List.set_cons_zero, List.set_cons_succ] at h1
  exact h1
theorem below_set8 {N : Nat} {w w' : World} (h : Below N w w') {B : Nat} (hB : N ≤ B) (b0 b1 b2 b3 b4 b5 b6 b7 : Int) : Below N w ((((((((w'.setCell ⟨B, 0, none⟩ (.int .i64 b0)).setCell ⟨B, 1, none⟩ (.int .i64 b1)).setCell ⟨B, 2, none⟩ (.int .i64 b2)).setCell ⟨B, 3, none⟩ (.int .i64 b3)).setCell ⟨B, 4, none⟩ (.int .i64 b4)).setCell ⟨B, 5, none⟩ (.int .i64 b5)).setCell ⟨B, 6, none⟩ (.int .i64 b6)).setCell ⟨B, 7, none⟩ (.int .i64 b7)) :=
  below_set (below_set (below_set (below_set (below_set (below_set (below_set (below_set h hB _) hB _) hB _) hB _) hB _) hB _) hB _) hB _
set_option maxHeartbeats 8000000 in
set_option maxRecDepth 100000 in
theorem add_any (S : Sp) (al : Option Addr) (nl cl : Nat) (l : List Rs) (p : Nat) (oa : Option Addr) (on oc : Nat) (own : List Int) (qa : Option Addr) (qc : Nat) (pl t : List Int) (W : World)
    (hS : S.In W) (h0 : SL encRs 6 W al nl cl l) (ho : Ints W oa on oc own) (hq : Ints W qa on qc pl) (hok : OkIn S.sh l) (hp : (p : Int) < S.sh.ps) (hown : ∀ i ∈ own, 0 ≤ i ∧ i < l.length) (hpl : ∀ x ∈ pl, 0 ≤ x ∧ x ≤ 1048576)
    (hon : on ≤ 1000) (ht : t.length = 8) (hb : BdT 1000000000000 t) (hT : Tab W) :
    Calls Tryz.prog 40 #[tV t, .agg #[.int .i64 S.sh.cs, .int .i64 S.sh.ps, .slice S.la S.ln S.lc, .slice S.ca S.cn S.cc, .slice S.pa S.pn S.pc, .slice S.ra S.rn S.rc], .slice al nl cl, .int .i64 p, .slice oa on oc, .slice qa on qc] W (RetB W (tV (addTo S.sh l p own pl on t))) := by
  obtain ⟨⟨k1, k2⟩, ⟨k3, k4⟩, k5, k6, k7, k8⟩ := hok.parts
  have hlvl : S.sh.lv.length = S.ln := hS.lv.len
  have hcll : S.sh.cl.length = S.cn := hS.cl.len
  have hpn1 : p < S.ln := by omega
  have hpn2 : p < S.cn := by omega
  obtain ⟨lb, lo, hla, hlb⟩ := hS.lv.at' (by omega)
  obtain ⟨cb, co, hca, hcb⟩ := hS.cl.at' (by omega)
  have hlv9 := betw_getD k7 (i := p) (by omega)
  have hcl9 := betw_getD k8 (i := p) (by omega)
  have HS := Lib.hid hS
  have HOK := Lib.hid hok
  have HOWN := Lib.hid hown
  have HPL := Lib.hid hpl
  have HT := Lib.hid hT
  have HLA := Lib.hid hla
  have HCA := Lib.hid hca
  have HTL := Lib.hid (fun k => (addTo_len S.sh l p own pl t k).trans ht)
  have HBD := Lib.hid (fun k => addTo_bd S.sh l p own pl (B := 1000000000000) (by omega) hb k)
  have HLV9 := Lib.hid hlv9
  have HCL9 := Lib.hid hcl9
  have HNL := Lib.hid h0.len
  have y1 : (0 : Int) ≤ (p : Int) := by omega
  have y2 : (p : Int) < (S.ln : Int) := by omega
  have y3 : (p : Int) < (S.cn : Int) := by omega
  have HBX1 : Hid (Box ((W.alloc (.cells (tA t) 87)).alloc (.cells #[.int .i64 S.sh.cs, .int .i64 S.sh.ps, .slice S.la S.ln S.lc, .slice S.ca S.cn S.cc, .slice S.pa S.pn S.pc, .slice S.ra S.rn S.rc] 25)) W.heap.size (tA t) 87) := Lib.hid ((Box.new W _ _).alloc _)
  have HBX2 : Hid (Box ((W.alloc (.cells (tA t) 87)).alloc (.cells #[.int .i64 S.sh.cs, .int .i64 S.sh.ps, .slice S.la S.ln S.lc, .slice S.ca S.cn S.cc, .slice S.pa S.pn S.pc, .slice S.ra S.rn S.rc] 25)) (W.heap.size + 1) #[.int .i64 S.sh.cs, .int .i64 S.sh.ps, .slice S.la S.ln S.lc, .slice S.ca S.cn S.cc, .slice S.pa S.pn S.pc, .slice S.ra S.rn S.rc] 25) := Lib.hid (by have := Box.new (W.alloc (.cells (tA t) 87)) #[.int .i64 S.sh.cs, .int .i64 S.sh.ps, .slice S.la S.ln S.lc, .slice S.ca S.cn S.cc, .slice S.pa S.pn S.pc, .slice S.ra S.rn S.rc] 25; rw [World.size_alloc] at this; exact this)
  have HT0 : Hid (addTo S.sh l p own pl 0 t = t) := Lib.hid rfl
  obtain ⟨a0, a1, a2, a3, a4, a5, a6, a7, rfl⟩ := len8 ht
  clear hok hown hpl hT hla hca ht hb hlv9 hcl9 k5 k6 k7 k8 hlvl hcll k1 k2 k3 k4 hp hS
  simp only [tV, tA, List.map_cons, List.map_nil] at HBX1 HBX2 ⊢
  go_enter Tryz.func40, Tryz.ntmps40
  go_wp2_with fail
  go_loopw [19] (fun i wr => ∃ k : Nat, i = .int .i64 k ∧ k ≤ on ∧ Box wr W.heap.size (tA (addTo S.sh l p own pl k [a0, a1, a2, a3, a4, a5, a6, a7])) 87 ∧ Box wr (W.heap.size + 1) #[.int .i64 S.sh.cs, .int .i64 S.sh.ps, .slice S.la S.ln S.lc, .slice S.ca S.cn S.cc, .slice S.pa S.pn S.pc, .slice S.ra S.rn S.rc] 25 ∧ Box wr (W.heap.size + 1 + 1) (tA [0, 0, 0, 0, 0, 0, 0, 0]) 87 ∧ Below W.heap.size W wr) (fun i _ => on - (intOf i).toNat)
  case atStart => exact ⟨0, rfl, by omega, HBX1.out.alloc _, HBX2.out.alloc _, (by have := Box.new ((W.alloc (.cells (tA [a0, a1, a2, a3, a4, a5, a6, a7]) 87)).alloc (.cells #[.int .i64 S.sh.cs, .int .i64 S.sh.ps, .slice S.la S.ln S.lc, .slice S.ca S.cn S.cc, .slice S.pa S.pn S.pc, .slice S.ra S.rn S.rc] 25)) (tA [0, 0, 0, 0, 0, 0, 0, 0]) 87; rw [World.size_alloc, World.size_alloc] at this; exact this), (((Below.refl _ _).alloc (Nat.le_refl _) _).alloc (by simp) _).alloc (by simp; omega) _⟩
  case round =>
    clear HBX1 HBX2 HT0
    obtain ⟨k, rfl, hk, hx1, hx2, hx3, hB⟩ := hrel
    by_cases hlt : k < on
    rotate_left
    · obtain rfl : on = k := by omega
      obtain ⟨b0, b1, b2, b3, b4, b5, b6, b7, hb'⟩ := len8 (HTL.out on)
      rw [hb'] at hx1
      have HR := Lib.hid hb'
      obtain ⟨c0, c1, c2, c3, c4, c5, c6, c7⟩ := hx1.g8
      obtain ⟨d0, d1, d2, d3, d4, d5, d6, d7⟩ := hx3.g8
      have f0 := hx3.frozen 0
      have f1 := hx3.frozen 1
      have f2 := hx3.frozen 2
      have f3 := hx3.frozen 3
      have f4 := hx3.frozen 4
      have f5 := hx3.frozen 5
      have f6 := hx3.frozen 6
      have f7 := hx3.frozen 7
      have l0 := hx3.lt
      clear hb' hx1 hx2 HTL HBD
      go_wp2_with fail
      have hx8 := hx3.set8 b0 b1 b2 b3 b4 b5 b6 b7
      have hb8 := below_set8 hB (B := W.heap.size + 1 + 1) (by omega) b0 b1 b2 b3 b4 b5 b6 b7
      obtain ⟨w8, hw8⟩ : ∃ w8, ((((((((wr.setCell ⟨W.heap.size + 1 + 1, 0, none⟩ (.int .i64 b0)).setCell ⟨W.heap.size + 1 + 1, 1, none⟩ (.int .i64 b1)).setCell ⟨W.heap.size + 1 + 1, 2, none⟩ (.int .i64 b2)).setCell ⟨W.heap.size + 1 + 1, 3, none⟩ (.int .i64 b3)).setCell ⟨W.heap.size + 1 + 1, 4, none⟩ (.int .i64 b4)).setCell ⟨W.heap.size + 1 + 1, 5, none⟩ (.int .i64 b5)).setCell ⟨W.heap.size + 1 + 1, 6, none⟩ (.int .i64 b6)).setCell ⟨W.heap.size + 1 + 1, 7, none⟩ (.int .i64 b7)) = w8 := ⟨_, rfl⟩
      rw [hw8] at hx8 hb8 ⊢
      obtain ⟨e0, e1, e2, e3, e4, e5, e6, e7⟩ := hx8.g8
      refine bodyPost_ret (v := .agg #[.int .i64 b0, .int .i64 b1, .int .i64 b2, .int .i64 b3, .int .i64 b4, .int .i64 b5, .int .i64 b6, .int .i64 b7]) (by simp [results, Tryz.results40, go_sem, e0, e1, e2, e3, e4, e5, e6, e7]) rfl ?_
      exact ⟨by rw [HR.out]; rfl, hb8⟩
    obtain ⟨ob, oo, rfl, hob⟩ := ho.at' (by omega)
    obtain ⟨qb, qo, rfl, hqb⟩ := hq.at' (by omega)
    have hown1 := HOWN.out (own.getD k 0) (own_mem (by rw [ho.len]; exact hlt))
    obtain ⟨i, hi⟩ : ∃ i : Nat, own.getD k 0 = (i : Int) := ⟨(own.getD k 0).toNat, by omega⟩
    obtain ⟨x, hX⟩ : ∃ x, l[i]? = some x := ⟨_, List.getElem?_eq_getElem (by omega)⟩
    have hil : i < nl := by rw [← HNL.out]; omega
    obtain ⟨xb, xo, rfl, hxb⟩ := h0.at' (by omega)
    have hxr : rsAt l (own.getD k 0) = x := by rw [hi]; exact getD_of hX
    have hokx := okRs_iv (List.all_eq_true.1 HOK.out.rs x (List.mem_of_getElem? hX))
    obtain ⟨cm, hcm⟩ : ∃ cm : Nat, x.cm = (cm : Int) := ⟨x.cm.toNat, by omega⟩
    have hcm8 : cm < 8 := by have := HOK.out.parts.1; omega
    obtain ⟨pk, hpk⟩ : ∃ pk, pl.getD k 0 = pk := ⟨_, rfl⟩
    have hpk1 : 0 ≤ pk ∧ pk ≤ 1048576 := by rw [← hpk]; exact HPL.out _ (own_mem (by rw [hq.len]; exact hlt))
    obtain ⟨vl, hvl⟩ : ∃ vl, S.sh.lv.getD p 0 = vl := ⟨_, rfl⟩
    obtain ⟨vc, hvc⟩ : ∃ vc, S.sh.cl.getD p 0 = vc := ⟨_, rfl⟩
    have hvl9 := HLV9.out
    have hvc9 := HCL9.out
    rw [hvl] at hvl9
    rw [hvc] at hvc9
    have co1 := (ho.below hB).atI hlt
    have cq1 := (hq.below hB).atI hlt
    rw [hi] at co1
    rw [hpk] at cq1
    have hSw := HS.out.below hB
    have hlv' := hSw.lv
    rw [HLA.out] at hlv'
    have cl1 := hlv'.atI hpn1
    rw [hvl] at cl1
    have hcl' := hSw.cl
    rw [HCA.out] at hcl'
    have cc1 := hcl'.atI hpn2
    rw [hvc] at cc1
    obtain ⟨r0, r1, r2, r3, r4, r5⟩ := (h0.below hB).rs6 hX
    obtain ⟨d0, d1, d2, d3, d4, d5⟩ := hx2.g6
    rw [HLA.out] at d2
    rw [HCA.out] at d3
    have HRUN : Hid (∀ q, Calls Tryz.prog 59 #[.slice S.pa S.pn S.pc, .slice (some ⟨wr.heap.size, 0, none⟩) 5 5] ((wr.drewN q).alloc (.cells #[.int .i64 pk, .int .i64 on, .int .i64 vl, .int .i64 vc, .int .i64 x.tr] 3)) (RetB ((wr.drewN q).alloc (.cells #[.int .i64 pk, .int .i64 on, .int .i64 vl, .int .i64 vc, .int .i64 x.tr] 3)) (.tuple #[.int .i64 (ptsOf S.sh l p own pl k), .int .i64 0]))) := Lib.hid fun q => by
      have hb2 : Below wr.heap.size wr ((wr.drewN q).alloc (.cells #[.int .i64 pk, .int .i64 on, .int .i64 vl, .int .i64 vc, .int .i64 x.tr] 3)) := (Below.drewN0 wr q).on (al0 (wr.drewN q) _ _)
      have hpt : ptsOf S.sh l p own pl k = runW S.sh.pg [pk, (on : Int), vl, vc, x.tr] := by unfold ptsOf; rw [hxr, hpk, hvl, hvc, ho.len]
      rw [hpt]
      exact run_any _ _ _ S.sh.pg _ _ [pk, (on : Int), vl, vc, x.tr] _ (hSw.pg.below hb2) (ints_new (wr.drewN q) _ [pk, (on : Int), vl, vc, x.tr] 5 _ rfl rfl (by omega)) HOK.out.pg (fun z hz => by
        simp only [List.mem_cons, List.not_mem_nil, or_false] at hz
        rcases hz with rfl | rfl | rfl | rfl | rfl <;> omega) ((HT.out.below hB).below hb2)
    have s0 : (0 : Int) ≤ (k : Int) := by omega
    have s1 : (k : Int) < (on : Int) := by omega
    have s2 : (0 : Int) ≤ (i : Int) := by omega
    have s3 : (i : Int) < (nl : Int) := by omega
    have HX := Lib.hid hX
    have HXR := Lib.hid hxr
    have HCM := Lib.hid hcm
    have HX1 := Lib.hid hx1
    have HX2 := Lib.hid hx2
    have HX3 := Lib.hid hx3
    have HB := Lib.hid hB
    have hbl := hx1.lt
    obtain ⟨np, hnp⟩ : ∃ np, ptsOf S.sh l p own pl k = np := ⟨_, rfl⟩
    have hnpb := pts_bd S.sh l p own pl k
    rw [hnp] at HRUN hnpb
    have HNP := Lib.hid hnp
    clear hX hxr hcm hpk hvl hvc hi hokx hlv' hcl' hSw hx1 hx2 hx3 hB hnp hown1
    go_wp2_with fail
    go_region_held3 (fun w' => w'.cell? ⟨W.heap.size + 1, 4, none⟩ = some (.slice S.pa S.pn S.pc) ∧ w'.cell? ⟨W.heap.size + 1, 2, none⟩ = some (.slice (some ⟨lb, lo, none⟩) S.ln S.lc) ∧ w'.cell? ⟨W.heap.size + 1, 3, none⟩ = some (.slice (some ⟨cb, co, none⟩) S.cn S.cc) ∧ w'.cell? ⟨qb, qo + k, none⟩ = some (.int .i64 pk) ∧ w'.cell? ⟨lb, lo + p, none⟩ = some (.int .i64 vl) ∧ w'.cell? ⟨cb, co + p, none⟩ = some (.int .i64 vc) ∧ w'.cell? ⟨xb, xo + i * 6 + 2, none⟩ = some (.int .i64 x.tr) ∧ Below wr.heap.size wr w')
      (first | exact ⟨d4, d2, d3, cq1, cl1, cc1, r2, (Below.refl _ _).drew⟩ | exact keep7 (by assumption) (by assumption) | exact keep7 (by assumption) (al0 _ _ _) | exact keep7 ⟨d4, d2, d3, cq1, cl1, cc1, r2, Below.refl _ _⟩ (by assumption))
      (first | (go_at_call 59; refine (HRUN.out 1).mono ?_; rintro e w7 ⟨rfl, hb7⟩))
    have hB7 : Below wr.heap.size wr w7 := ((Below.drewN0 wr 1).on (al0 (wr.drewN 1) _ _)).on hb7
    have hx1 := HX1.out.below hB7
    have hx2 := HX2.out.below hB7
    have hx3 := HX3.out.below hB7
    have r0' := (hB7.cell (p := ⟨xb, xo + i * 6, none⟩) (World.block_lt_of_cell? wr _ r0)).trans r0
    rw [HCM.out] at r0'
    have ct := hx1.cell cm
    rw [tA_get (by rw [HTL.out]; exact hcm8)] at ct
    have hzb := (HBD.out k).getD (by omega) cm
    obtain ⟨T1, hT1⟩ : ∃ T1, addTo S.sh l p own pl k [a0, a1, a2, a3, a4, a5, a6, a7] = T1 := ⟨_, rfl⟩
    have HT1 := Lib.hid hT1
    rw [hT1] at ct hzb hx1
    obtain ⟨z, hz⟩ : ∃ z, T1.getD cm 0 = z := ⟨_, rfl⟩
    rw [hz] at ct hzb
    have HZ := Lib.hid hz
    have hw : IntKind.i64.wrap (z + np) = z + np := by rw [IntKind.wrap_i64]; omega
    have f1 := hx1.frozen cm
    have l1 := hx1.lt
    have t0 : (0 : Int) ≤ (cm : Int) := by omega
    have t1 : (cm : Int) < 8 := by omega
    have HX1 := Lib.hid hx1
    have HX2 := Lib.hid hx2
    have HX3 := Lib.hid hx3
    have HB7 : Hid (Below W.heap.size W w7) := Lib.hid (HB.out.on hB7)
    clear hT1 hz hx1 hx2 hx3 hB7 hb7 hzb d0 d1 d2 d3 d4 d5 r0 r1 r2 r3 r4 r5 cl1 cc1 co1 cq1
    go_wp2_with fail
    go_roundw
    case rel =>
      refine ⟨k + 1, by go_num, by omega, ?_, HX2.out.setOther _ (by simp), HX3.out.setOther _ (by simp; omega), below_set HB7.out (Nat.le_refl _) _⟩
      have h1 := HX1.out.set cm (.int .i64 (z + np))
      rw [tA_set] at h1
      unfold addTo
      rw [HXR.out, HCM.out, Int.toNat_natCast, HT1.out, HZ.out, HNP.out]
      exact h1
    case measure => simp [intOf]; omega
end Go.Proofs.YtehoidohallfcaaGreatDoor
