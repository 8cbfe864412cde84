/- The references' Ranking. -/
import Derived.Test.YtehoidohallfcaaGreatDoorRaX
import Derived.Test.YtehoidohallfcaaGreatDoorRgX
namespace Go.Proofs.YtehoidohallfcaaGreatDoor
open Go.RowKit
theorem rrank_own (a : Option Addr) (n c : Nat) (x : List Int) (W : World) (h0 : Ints W a n c x) (hn : n ≤ 1000000) (h1 : 0 < n) :
 Calls Tryz.prog 57 #[.slice a n c] W fun e w' => ∃ g cc, e = .returned (.slice (some ⟨g, 0, none⟩) n cc) ∧ OwnInts w' W.heap.size 3 (.slice (some ⟨g, 0, none⟩) n cc) (rankL x) ∧ W.heap.size ≤ g ∧ g < w'.heap.size ∧ Below W.heap.size W w' := by
 refine (rrank_any a n c x W h0 hn).mono ?_
 rintro e w' ⟨v, rfl, hO, hB⟩
 have hl : (rankL x).length = n := by rw [rank_len, h0.len]
 obtain ⟨va, vc, rfl, _, _⟩ := own_slice hO
 rw [hl] at hO ⊢
 have hO2 := hO
 unfold OwnInts at hO2
 rw [hl] at hO2
 obtain ⟨b, rfl, h2, h3, _⟩ := own_spot hO2 h1
 exact ⟨b, vc, rfl, hO, h2, h3, hB⟩
structure RrJ (w1 : World) (g1 c1 g2 c2 tn q : Nat) (B L : List Int) (uv : Value) (X : World) : Prop where
 bq : Box X q #[.slice (some ⟨g1, 0, none⟩) tn c1, .slice (some ⟨g2, 0, none⟩) tn c2, uv] 35
 o1 : OwnInts X w1.heap.size 3 (.slice (some ⟨g1, 0, none⟩) tn c1) B
 o2 : OwnInts X w1.heap.size 3 (.slice (some ⟨g2, 0, none⟩) tn c2) L
 l1 : B.length = tn
 l2 : L.length = tn
 hq : w1.heap.size ≤ q
 bel : Below w1.heap.size w1 X
section
variable {w1 : World} {g1 c1 g2 c2 tn q : Nat} {B L : List Int} {uv : Value} {X Y : World}
theorem RrJ.below (h : RrJ w1 g1 c1 g2 c2 tn q B L uv X) (hb : Below X.heap.size X Y) : RrJ w1 g1 c1 g2 c2 tn q B L uv Y :=
 ⟨h.bq.below hb, h.o1.below hb, h.o2.below hb, h.l1, h.l2, h.hq, h.bel.on hb⟩
theorem RrJ.put1 (h : RrJ w1 g1 c1 g2 c2 tn q B L uv X) (hne : g1 ≠ g2) (hq1 : q ≠ g1) {j : Nat} (hj : j < tn) (a : Int) : RrJ w1 g1 c1 g2 c2 tn q (B.set j a) L uv (X.setCell ⟨g1, j, none⟩ (.int .i64 a)) :=
 ⟨h.bq.setOther _ (by exact hq1), ownInts_set h.o1 h.l1 hj a, h.o2.setOther _ (by simp [Value.ownBlock]; omega), by rw [List.length_set]; exact h.l1, h.l2, h.hq, h.bel.setCell (by exact (h.o1.lt _ rfl).1) _⟩
theorem RrJ.put2 (h : RrJ w1 g1 c1 g2 c2 tn q B L uv X) (hne : g1 ≠ g2) (hq2 : q ≠ g2) {j : Nat} (hj : j < tn) (a : Int) : RrJ w1 g1 c1 g2 c2 tn q B (L.set j a) uv (X.setCell ⟨g2, j, none⟩ (.int .i64 a)) :=
 ⟨h.bq.setOther _ (by exact hq2), h.o1.setOther _ (by simp [Value.ownBlock]; omega), ownInts_set h.o2 h.l2 hj a, h.l1, by rw [List.length_set]; exact h.l2, h.hq, h.bel.setCell (by exact (h.o2.lt _ rfl).1) _⟩
theorem RrJ.setU (h : RrJ w1 g1 c1 g2 c2 tn q B L uv X) (hq1 : q ≠ g1) (hq2 : q ≠ g2) (v : Value) : RrJ w1 g1 c1 g2 c2 tn q B L v (X.setCell ⟨q, 2, none⟩ v) :=
 ⟨by simpa using h.bq.set 2 v, h.o1.setOther _ (by simp [Value.ownBlock]; omega), h.o2.setOther _ (by simp [Value.ownBlock]; omega), h.l1, h.l2, h.hq, h.bel.setCell (by exact h.hq) _⟩
theorem RrJ.grown {row : Option Nat} (h : RrJ w1 g1 c1 g2 c2 tn q B L uv X) (hg : X.grownBy Y row) (hr : ∀ r, row = some r → w1.heap.size ≤ r ∧ r ≠ g1 ∧ r ≠ g2 ∧ r ≠ q) : RrJ w1 g1 c1 g2 c2 tn q B L uv Y :=
 ⟨h.bq.grown hg (fun e => (hr _ e).2.2.2 rfl), h.o1.grown hg (.inr fun e => (hr g1 e.symm).2.1 rfl), h.o2.grown hg (.inr fun e => (hr g2 e.symm).2.2.1 rfl), h.l1, h.l2, h.hq, h.bel.grown hg h.bel.size (fun r e => (hr r e).1)⟩
end
def RrU (w1 : World) (g1 c1 g2 c2 tn q : Nat) (B L : List Int) (U : List (Int × Int)) (X : World) : Prop := ∃ uv, RrJ w1 g1 c1 g2 c2 tn q B L uv X ∧ OwnSL encPr 2 X w1.heap.size 84 uv U ∧ uv.ownBlock ≠ some g1 ∧ uv.ownBlock ≠ some g2 ∧ uv.ownBlock ≠ some q
theorem RrU.below {w1 : World} {g1 c1 g2 c2 tn q : Nat} {B L : List Int} {U : List (Int × Int)} {X Y : World} (h : RrU w1 g1 c1 g2 c2 tn q B L U X) (hb : Below X.heap.size X Y) : RrU w1 g1 c1 g2 c2 tn q B L U Y :=
 let ⟨uv, h1, h2, h3⟩ := h; ⟨uv, h1.below hb, h2.below hb, h3⟩
def sameTo (x : List (List Int)) (a b i : Nat) : Bool := (x.take i).all fun t => sgnI (t.getD a 0) (t.getD b 0) == sgnI ((x.headD []).getD a 0) ((x.headD []).getD b 0)
theorem sameTo_0 (x : List (List Int)) (a b : Nat) : sameTo x a b 0 = true := rfl
theorem sameTo_step {x : List (List Int)} {a b i : Nat} {t : List Int} (h : x[i]? = some t) : sameTo x a b (i + 1) = (sameTo x a b i && (sgnI (t.getD a 0) (t.getD b 0) == sgnI ((x.headD []).getD a 0) ((x.headD []).getD b 0))) := by
 unfold sameTo
 rw [List.take_add_one, h, List.all_append]
 simp
theorem sameTo_all (x : List (List Int)) (a b : Nat) : (!sameTo x a b x.length) = undB x a b := by
 unfold sameTo undB
 rw [List.take_length, List.not_all_eq_any_not]
 congr 1
 funext t
 rw [Bool.eq_iff_iff]; simp
theorem nth_cell {w : World} {xb xo n c : Nat} {ll : List (List Int)} (h : Rows w (some ⟨xb, xo, none⟩) n c ll) {k : Nat} {t : List Int} (hk : ll[k]? = some t) : ∃ ta tn tc, w.cell? ⟨xb, xo + k, none⟩ = some (.slice ta tn tc) ∧ Ints w ta tn tc t := by
 obtain ⟨a, n', c', h1, h2⟩ := h.row xb xo rfl k (by rw [← h.len]; exact (List.getElem?_eq_some_iff.1 hk).1)
 rw [hk] at h2
 exact ⟨a, n', c', h1, h2⟩
theorem app_rr {w1 w4 w5 : World} {g1 c1 g2 c2 tn qb : Nat} {B L : List Int} {U : List (Int × Int)} {ua : Option Addr} {un uc : Nat} {v' : Value} {p r : Int}
 (hJ : RrJ w1 g1 c1 g2 c2 tn qb B L (.slice ua un uc) w4) (hq1 : qb ≠ g1) (hq2 : qb ≠ g2) (hown : w4.ownsRow w1.heap.size 84 2 (.slice ua un uc) un (U.flatMap encPr)) (hu1 : (Value.slice ua un uc).ownBlock ≠ some g1) (hu2 : (Value.slice ua un uc).ownBlock ≠ some g2) (hu3 : (Value.slice ua un uc).ownBlock ≠ some qb)
 (hown' : w5.ownsRow w1.heap.size 84 2 v' (un + 1) (U.flatMap encPr ++ [.int .i64 p, .int .i64 r])) (hun : U.length = un)
 (hg : (w4.alloc (.cells #[.int .i64 p, .int .i64 r] 84)).grownBy w5 (Value.slice ua un uc).ownBlock) (hfr : v'.ownBlock = (Value.slice ua un uc).ownBlock ∨ v'.ownBlock = some (w4.alloc (.cells #[.int .i64 p, .int .i64 r] 84)).heap.size) :
 ∃ va' vc', v' = .slice va' (un + 1) vc' ∧ w5.cell? ⟨qb, 2, none⟩ = some (.slice ua un uc) ∧ w5.frozen? ⟨qb, 2, none⟩ = false ∧ qb < w5.heap.size ∧ RrU w1 g1 c1 g2 c2 tn qb B L (U ++ [(p, r)]) (w5.setCell ⟨qb, 2, none⟩ v') := by
 have hlu := World.ownsRow.lt hown
 have hr5 : ∀ z, (Value.slice ua un uc).ownBlock = some z → w1.heap.size ≤ z ∧ z ≠ g1 ∧ z ≠ g2 ∧ z ≠ qb := fun z e => ⟨(hlu z e).1, fun h => hu1 (by rw [e, h]), fun h => hu2 (by rw [e, h]), fun h => hu3 (by rw [e, h])⟩
 have h5 := (hJ.below (al0 w4 #[.int .i64 p, .int .i64 r] 84)).grown hg hr5
 obtain ⟨va', vc', rfl, _, _⟩ := own_slice hown'
 have k1 : g1 < w4.heap.size := (hJ.o1.lt _ rfl).2
 have k2 : g2 < w4.heap.size := (hJ.o2.lt _ rfl).2
 have k3 : qb < w4.heap.size := hJ.bq.lt
 have nn : ∀ z, z < w4.heap.size → (Value.slice ua un uc).ownBlock ≠ some z → (Value.slice va' (un + 1) vc').ownBlock ≠ some z := fun z hz h => by
  rcases hfr with h' | h'
  · rw [h']; exact h
  · rw [h', World.size_alloc]; intro e; injection e with e; omega
 have k5 := h5.bq.cell 2
 simp only [List.getElem?_toArray, List.getElem?_cons_zero, List.getElem?_cons_succ] at k5
 refine ⟨va', vc', rfl, k5, h5.bq.frozen 2, h5.bq.lt, _, h5.setU hq1 hq2 _, ?_, nn g1 k1 hu1, nn g2 k2 hu2, nn qb k3 hu3⟩
 refine OwnSL.setOther ?_ _ (nn qb k3 hu3)
 exact OwnSL.snoc (by rw [hun]; exact hown')
set_option maxRecDepth 20000 in
set_option maxHeartbeats 16000000 in
theorem rranking53_any (hpt : RPtC) (S : Sp) (al : Option Addr) (nl cl : Nat) (l : List Rs) (W : World) (hS : S.In W) (h0 : SL encRs 6 W al nl cl l) (hpn : S.pn ≤ 30) (hwr : WdR S.sh.pg) (h4 : S.sh.cs ≤ 4) :
 Calls Tryz.prog 37 #[.agg #[.int .i64 S.sh.cs, .int .i64 S.sh.ps, .slice S.la S.ln S.lc, .slice S.ca S.cn S.cc, .slice S.pa S.pn S.pc, .slice S.ra S.rn S.rc], .slice al nl cl] W (RetRk W (rankR S.sh l) (rankE S.sh l)) := by
 have hx1 : Box ((W.alloc (.cells #[.int .i64 S.sh.cs, .int .i64 S.sh.ps, .slice S.la S.ln S.lc, .slice S.ca S.cn S.cc, .slice S.pa S.pn S.pc, .slice S.ra S.rn S.rc] 25)).alloc (.cells #[.slice none 0 0, .slice none 0 0, .slice none 0 0] 35)) W.heap.size #[.int .i64 S.sh.cs, .int .i64 S.sh.ps, .slice S.la S.ln S.lc, .slice S.ca S.cn S.cc, .slice S.pa S.pn S.pc, .slice S.ra S.rn S.rc] 25 := (Box.new W _ _).alloc _
 have hx2 := Box.new (W.alloc (.cells #[.int .i64 S.sh.cs, .int .i64 S.sh.ps, .slice S.la S.ln S.lc, .slice S.ca S.cn S.cc, .slice S.pa S.pn S.pc, .slice S.ra S.rn S.rc] 25)) #[.slice none 0 0, .slice none 0 0, .slice none 0 0] 35
 rw [World.size_alloc] at hx2
 have hbb : Below W.heap.size W ((W.alloc (.cells #[.int .i64 S.sh.cs, .int .i64 S.sh.ps, .slice S.la S.ln S.lc, .slice S.ca S.cn S.cc, .slice S.pa S.pn S.pc, .slice S.ra S.rn S.rc] 25)).alloc (.cells #[.slice none 0 0, .slice none 0 0, .slice none 0 0] 35)) := ((Below.refl _ _).alloc (Nat.le_refl _) _).alloc (by simp) _
 obtain ⟨w0, hw0⟩ : ∃ w0, (W.alloc (.cells #[.int .i64 S.sh.cs, .int .i64 S.sh.ps, .slice S.la S.ln S.lc, .slice S.ca S.cn S.cc, .slice S.pa S.pn S.pc, .slice S.ra S.rn S.rc] 25)).alloc (.cells #[.slice none 0 0, .slice none 0 0, .slice none 0 0] 35) = w0 := ⟨_, rfl⟩
 rw [hw0] at hx1 hx2 hbb
 have HO := Lib.hid (rorders53_any hpt S al nl cl l w0 (hS.below hbb) (h0.below hbb) hpn hwr h4)
 have HW0 := Lib.hid hw0
 clear hw0 hpt hS h0 hwr hpn
 obtain ⟨d0, d1, d2, d3, d4, d5⟩ := hx1.g6
 by_cases he : rankE S.sh l = 0
 rotate_left
 · obtain ⟨E, hE⟩ : ∃ E, rankE S.sh l = E := ⟨_, rfl⟩
   have HR := Lib.hid (rankR_bad he)
   rw [hE] at he HO
   have HE := Lib.hid hE
   have g1 : (E != 0) = true := by simpa using he
   clear hE he
   go_enter Tryz.func37, Tryz.ntmps37
   go_wp2_with fail
   rw [HW0.out]
   go_wp2_with fail
   refine HO.out.mono ?_
   rintro e w1 ⟨xa, xn, xc, rfl, hR1, hB1⟩
   obtain ⟨e0, e1, e2⟩ := (hx2.below hB1).g3
   have f0 := (hx2.below hB1).frozen 0
   have f1 := (hx2.below hB1).frozen 1
   have f2 := (hx2.below hB1).frozen 2
   have l2 := (hx2.below hB1).lt
   go_wp2_with fail
   have hy := (((hx2.below hB1).set 0 (.slice none 0 0)).set 1 (.slice none 0 0)).set 2 (.slice none 0 0)
   simp only [s_t, s_z, s_s] at hy
   obtain ⟨y0, y1, y2⟩ := hy.g3
   refine bodyPost_ret (v := .tuple #[.agg #[.slice none 0 0, .slice none 0 0, .slice none 0 0], .int .i64 E]) (by simp [results, Tryz.results37, go_sem, y0, y1, y2]) rfl ?_
   rw [HR.out, HE.out]
   exact RetRk.bad (((((hbb.on hB1).setCell (by simp) _).setCell (by simp) _).setCell (by simp) _))
 obtain ⟨x, hrk, hord, hordR, hrkR, hne, hlen, hcs, hcs1⟩ := rankR_ok he
 have HE := Lib.hid he
 rw [he, hordR] at HO
 obtain ⟨t0, hh, ht0⟩ : ∃ t0, x[0]? = some t0 ∧ x.headD [] = t0 := by
  cases x with
  | nil => exact absurd rfl hne
  | cons t x => exact ⟨t, rfl, rfl⟩
 obtain ⟨C, hC⟩ : ∃ C : Nat, S.sh.cs = (C : Int) := ⟨S.sh.cs.toNat, by omega⟩
 rw [hC, Int.toNat_natCast] at hcs
 have HCS := Lib.hid hcs
 have HX0 := Lib.hid ht0
 have HNE := Lib.hid hne
 have HRK := Lib.hid hrkR
 have HC := Lib.hid hC
 have htl := hcs t0 (List.mem_of_getElem? hh)
 have hC4 : C ≤ 4 := by omega
 have hC1 : 0 < C := by omega
 clear he hrk hord hordR hrkR hcs hne ht0 hC hcs1
 go_enter Tryz.func37, Tryz.ntmps37
 go_wp2_with fail
 rw [HW0.out]
 go_wp2_with fail
 refine HO.out.mono ?_
 rintro e w1 ⟨xa, xn, xc, rfl, hR1, hB1⟩
 have hxN : 0 < xn := by rw [← hR1.len]; exact (List.getElem?_eq_some_iff.1 hh).1
 have hx4 : xn ≤ 4096 := by rw [← hR1.len]; exact hlen
 obtain ⟨xb, xo, rfl, hxb⟩ := hR1.at' hxN
 obtain ⟨ta, tn, tc, c0, hT0⟩ := nth_cell hR1 hh
 rw [Nat.add_zero] at c0
 obtain rfl : tn = C := by rw [← hT0.len]; exact htl
 have hx1 := hx1.below hB1
 have hx2 := hx2.below hB1
 have hb1 := hbb.on hB1
 have hxn : (0 : Int) < (xn : Int) := by omega
 have hxw : W.heap.size + 1 < w1.heap.size := hx2.lt
 have HR1 := Lib.hid hR1
 have HH := Lib.hid hh
 have HT0 := Lib.hid hT0
 have HTL := Lib.hid htl
 have HX1 := Lib.hid hx1
 have HX2 := Lib.hid hx2
 have HB1 := Lib.hid hb1
 clear hR1 hh hbb hB1 d0 d1 d2 d3 d4 d5 hT0 htl hx1 hx2 hb1 hlen
 go_wp2_with fail
 apply region_ex5b (α := Nat) (β := Nat) (γ := Nat) (δ := Nat) (ε := Nat) (R := fun g1 c1 g2 c2 q w' => RrJ w1 g1 c1 g2 c2 tn q (rankL t0) (rankL t0) (.slice none 0 0) w' ∧ g1 ≠ g2 ∧ q ≠ g1 ∧ q ≠ g2)
 · refine wp_region_held_drew (S := fun w' => w'.cell? ⟨xb, xo, none⟩ = some (.slice ta tn tc)) (by kernel_rfl) c0 (fun hS => ?_)
   have hbd : Below w1.heap.size w1 w1.drew := (Below.refl _ _).drew
   obtain ⟨wd, hwd⟩ : ∃ wd, w1.drew = wd := ⟨_, rfl⟩
   rw [hwd] at hS hbd ⊢
   clear hwd
   refine wpAnyH_take (i := 0) (v := ?_) rfl (by kernel_rfl) (by kernel_rfl) (by kernel_rfl) NormQ.hq (Or.inl ⟨by rfl, ?_⟩) (by assumption) ?_
   rotate_left
   focus
    intro w hSw
    (try dsimp only at hSw)
    (try go_split_ands)
    go_simp
    try with_reducible rfl
   (try simp only [Act.put, l_t, l_z, s_t, s_z, s_s])
   refine wpAnyH_take (i := 1) (v := ?_) rfl (by kernel_rfl) (by kernel_rfl) (by kernel_rfl) NormQ.hq (Or.inl ⟨by rfl, ?_⟩) (by assumption) ?_
   rotate_left
   focus
    intro w hSw
    (try dsimp only at hSw)
    (try go_split_ands)
    go_simp
    try with_reducible rfl
   (try simp only [Act.put, l_t, l_s, l_z, s_t, s_z, s_s])
   refine wpAnyH_take (i := 2) (v := ?_) rfl (by kernel_rfl) (by kernel_rfl) (by kernel_rfl) NormQ.hq (Or.inl ⟨by rfl, ?_⟩) (by assumption) ?_
   rotate_left
   focus
    intro w hSw
    (try dsimp only at hSw)
    (try go_split_ands)
    go_simp
    try with_reducible rfl
   (try simp only [Act.put, l_t, l_s, l_z, s_t, s_z, s_s])
   refine wpAnyH_take (i := 4) (v := ?_) rfl (by kernel_rfl) (by kernel_rfl) (by kernel_rfl) NormQ.hq (Or.inl ⟨by rfl, ?_⟩) (by assumption) ?_
   rotate_left
   focus
    intro w hSw
    (try dsimp only at hSw)
    (try go_split_ands)
    go_simp
    try with_reducible rfl
   (try simp only [Act.put, l_t, l_s, l_z, s_t, s_z, s_s])
   refine wpAnyH_take (i := 5) (v := ?_) rfl (by kernel_rfl) (by kernel_rfl) (by kernel_rfl) NormQ.hq (Or.inl ⟨by rfl, ?_⟩) (by assumption) ?_
   rotate_left
   focus
    intro w hSw
    (try dsimp only at hSw)
    (try go_split_ands)
    go_simp
    try with_reducible rfl
   (try simp only [Act.put, l_t, l_s, l_z, s_t, s_z, s_s])
   refine wpAnyH_take (i := 6) (v := ?_) rfl (by kernel_rfl) (by kernel_rfl) (by kernel_rfl) NormQ.hq (Or.inl ⟨by rfl, ?_⟩) (by assumption) ?_
   rotate_left
   focus
    intro w hSw
    (try dsimp only at hSw)
    (try go_split_ands)
    go_simp
    try with_reducible rfl
   (try simp only [Act.put, l_t, l_s, l_z, s_t, s_z, s_s])
   refine wpAnyH_ready (rs := [3, 9]) (by kernel_rfl) (by simp) (AllReadyH.cons rfl (fun K hK => ?_) (AllReadyH.cons rfl (fun K hK => ?_) AllReadyH.nil))
   · skip
     go_simp
     go_at_call 57
     refine (rrank_own _ _ _ _ _ (HT0.out.below hbd) (by omega) hC1).mono ?_
     rintro e wA ⟨gA, ccA, rfl, oA, laA, lbA, hbN⟩
     refine hK.out _ _ ((hbN.cell (World.block_lt_of_cell? _ _ hS)).trans hS) (fun hS => ?_)
     clear hK K
     (try simp only [Act.put, l_t, l_s, l_z, s_t, s_z, s_s])
     replace oA := oA.mono (base' := w1.heap.size) hbd.size
     have lcA : w1.heap.size ≤ gA := Nat.le_trans hbd.size laA
     replace hbd := hbd.on hbN
     clear hbN
     refine wpAnyH_ready (rs := [7, 9]) (by kernel_rfl) (by simp) (AllReadyH.cons rfl (fun K hK => ?_) (AllReadyH.cons rfl (fun K hK => ?_) AllReadyH.nil))
     · skip
       go_simp
       go_at_call 57
       refine (rrank_own _ _ _ _ _ (HT0.out.below hbd) (by omega) hC1).mono ?_
       rintro e wB ⟨gB, ccB, rfl, oB, laB, lbB, hbN⟩
       refine hK.out _ _ ((hbN.cell (World.block_lt_of_cell? _ _ hS)).trans hS) (fun hS => ?_)
       clear hK K
       (try simp only [Act.put, l_t, l_s, l_z, s_t, s_z, s_s])
       replace oB := oB.mono (base' := w1.heap.size) hbd.size
       have lcB : w1.heap.size ≤ gB := Nat.le_trans hbd.size laB
       replace hbd := hbd.on hbN
       replace oA := oA.below hbN
       clear hbN
       refine wpAnyH_take (i := 8) (v := ?_) rfl (by kernel_rfl) (by kernel_rfl) (by kernel_rfl) NormQ.hq (Or.inl ⟨by rfl, ?_⟩) (by assumption) ?_
       rotate_left
       focus
        intro w hSw
        (try dsimp only at hSw)
        (try go_split_ands)
        go_simp
        try with_reducible rfl
       (try simp only [Act.put, l_t, l_s, l_z, s_t, s_z, s_s])
       refine wpAnyH_ready (rs := [9]) (by kernel_rfl) (by simp) (AllReadyH.cons rfl (fun K hK => ?_) AllReadyH.nil)
       go_simp
       refine hK.out _ _ (cell_alloc hS _) (fun hS => ?_)
       clear hK K
       (try simp only [Act.put, l_t, l_s, l_z, s_t, s_z, s_s])
       have hbq := Box.new wB #[.slice none 0 0, .slice none 0 0, .slice none 0 0] 35
       have hbN := al0 wB #[.slice none 0 0, .slice none 0 0, .slice none 0 0] 35
       have hlq : w1.heap.size ≤ wB.heap.size := hbd.size
       replace hbd := hbd.on hbN
       obtain ⟨q, hq⟩ : ∃ q, wB.heap.size = q := ⟨_, rfl⟩
       rw [hq] at hbq hlq ⊢
       obtain ⟨wQ, hQ⟩ : ∃ X, wB.alloc (.cells #[.slice none 0 0, .slice none 0 0, .slice none 0 0] 35) = X := ⟨_, rfl⟩
       rw [hQ] at hbq hbN hbd hS ⊢
       replace oA := oA.below hbN
       replace oB := oB.below hbN
       clear hbN hQ
       have hSB := World.block_lt_of_cell? _ _ c0
       obtain ⟨k0, k1, k2⟩ := hbq.g3
       have kf0 := hbq.frozen 0
       have kf1 := hbq.frozen 1
       have kf2 := hbq.frozen 2
       have kl := hbq.lt
       have hbz := ((hbq.set 0 (.slice (some ⟨gA, 0, none⟩) tn ccA)).set 1 (.slice (some ⟨gB, 0, none⟩) tn ccB)).set 2 (.slice none 0 0)
       simp only [s_t, s_z, s_s] at hbz
       refine wpAnyH_ready (rs := [10]) (by kernel_rfl) (by simp) (AllReadyH.cons rfl (fun K hK => ?_) AllReadyH.nil)
       go_simp
       refine hK.out _ _ ((World.cell?_setCell_far _ _ _ _ (by show q ≠ xb; have : xb < w1.heap.size := hSB; omega)).trans ((World.cell?_setCell_far _ _ _ _ (by show q ≠ xb; have : xb < w1.heap.size := hSB; omega)).trans ((World.cell?_setCell_far _ _ _ _ (by show q ≠ xb; have : xb < w1.heap.size := hSB; omega)).trans hS))) (fun hS => ?_)
       clear hK K
       (try simp only [Act.put, l_t, l_s, l_z, s_t, s_z, s_s])
       refine wpAnyH_done (by kernel_rfl) ?_ _
       exact ⟨rfl, gA, ccA, gB, ccB, q, rfl, ⟨hbz, ((oA.setOther _ (by simp [Value.ownBlock]; omega)).setOther _ (by simp [Value.ownBlock]; omega)).setOther _ (by simp [Value.ownBlock]; omega), ((oB.setOther _ (by simp [Value.ownBlock]; omega)).setOther _ (by simp [Value.ownBlock]; omega)).setOther _ (by simp [Value.ownBlock]; omega), by rw [rank_len, HTL.out], by rw [rank_len, HTL.out], hlq, ((hbd.setCell (by exact hlq) _).setCell (by exact hlq) _).setCell (by exact hlq) _⟩, by omega, by omega, by omega⟩
     · skip
       go_simp
       refine hK.out _ _ (cell_alloc hS _) (fun hS => ?_)
       clear hK K
       (try simp only [Act.put, l_t, l_s, l_z, s_t, s_z, s_s])
       have hbq := Box.new wA #[.slice none 0 0, .slice none 0 0, .slice none 0 0] 35
       have hbN := al0 wA #[.slice none 0 0, .slice none 0 0, .slice none 0 0] 35
       have hlq : w1.heap.size ≤ wA.heap.size := hbd.size
       replace hbd := hbd.on hbN
       obtain ⟨q, hq⟩ : ∃ q, wA.heap.size = q := ⟨_, rfl⟩
       rw [hq] at hbq hlq ⊢
       obtain ⟨wQ, hQ⟩ : ∃ X, wA.alloc (.cells #[.slice none 0 0, .slice none 0 0, .slice none 0 0] 35) = X := ⟨_, rfl⟩
       rw [hQ] at hbq hbN hbd hS ⊢
       replace oA := oA.below hbN
       clear hbN
       have hqs : q < wQ.heap.size := hbq.lt
       refine wpAnyH_ready (rs := [7]) (by kernel_rfl) (by simp) (AllReadyH.cons rfl (fun K hK => ?_) AllReadyH.nil)
       go_simp
       go_at_call 57
       refine (rrank_own _ _ _ _ _ (HT0.out.below hbd) (by omega) hC1).mono ?_
       rintro e wB ⟨gB, ccB, rfl, oB, laB, lbB, hbN⟩
       refine hK.out _ _ ((hbN.cell (World.block_lt_of_cell? _ _ hS)).trans hS) (fun hS => ?_)
       clear hK K
       (try simp only [Act.put, l_t, l_s, l_z, s_t, s_z, s_s])
       replace oB := oB.mono (base' := w1.heap.size) hbd.size
       have lcB : w1.heap.size ≤ gB := Nat.le_trans hbd.size laB
       replace hbd := hbd.on hbN
       replace oA := oA.below hbN
       replace hbq := hbq.below hbN
       clear hbN hQ
       refine wpAnyH_take (i := 8) (v := ?_) rfl (by kernel_rfl) (by kernel_rfl) (by kernel_rfl) NormQ.hq (Or.inl ⟨by rfl, ?_⟩) (by assumption) ?_
       rotate_left
       focus
        intro w hSw
        (try dsimp only at hSw)
        (try go_split_ands)
        go_simp
        try with_reducible rfl
       (try simp only [Act.put, l_t, l_s, l_z, s_t, s_z, s_s])
       have hSB := World.block_lt_of_cell? _ _ c0
       obtain ⟨k0, k1, k2⟩ := hbq.g3
       have kf0 := hbq.frozen 0
       have kf1 := hbq.frozen 1
       have kf2 := hbq.frozen 2
       have kl := hbq.lt
       have hbz := ((hbq.set 0 (.slice (some ⟨gA, 0, none⟩) tn ccA)).set 1 (.slice (some ⟨gB, 0, none⟩) tn ccB)).set 2 (.slice none 0 0)
       simp only [s_t, s_z, s_s] at hbz
       refine wpAnyH_ready (rs := [10]) (by kernel_rfl) (by simp) (AllReadyH.cons rfl (fun K hK => ?_) AllReadyH.nil)
       go_simp
       refine hK.out _ _ ((World.cell?_setCell_far _ _ _ _ (by show q ≠ xb; have : xb < w1.heap.size := hSB; omega)).trans ((World.cell?_setCell_far _ _ _ _ (by show q ≠ xb; have : xb < w1.heap.size := hSB; omega)).trans ((World.cell?_setCell_far _ _ _ _ (by show q ≠ xb; have : xb < w1.heap.size := hSB; omega)).trans hS))) (fun hS => ?_)
       clear hK K
       (try simp only [Act.put, l_t, l_s, l_z, s_t, s_z, s_s])
       refine wpAnyH_done (by kernel_rfl) ?_ _
       exact ⟨rfl, gA, ccA, gB, ccB, q, rfl, ⟨hbz, ((oA.setOther _ (by simp [Value.ownBlock]; omega)).setOther _ (by simp [Value.ownBlock]; omega)).setOther _ (by simp [Value.ownBlock]; omega), ((oB.setOther _ (by simp [Value.ownBlock]; omega)).setOther _ (by simp [Value.ownBlock]; omega)).setOther _ (by simp [Value.ownBlock]; omega), by rw [rank_len, HTL.out], by rw [rank_len, HTL.out], hlq, ((hbd.setCell (by exact hlq) _).setCell (by exact hlq) _).setCell (by exact hlq) _⟩, by omega, by omega, by omega⟩
   · skip
     go_simp
     refine hK.out _ _ (cell_alloc hS _) (fun hS => ?_)
     clear hK K
     (try simp only [Act.put, l_t, l_s, l_z, s_t, s_z, s_s])
     have hbq := Box.new wd #[.slice none 0 0, .slice none 0 0, .slice none 0 0] 35
     have hbN := al0 wd #[.slice none 0 0, .slice none 0 0, .slice none 0 0] 35
     have hlq : w1.heap.size ≤ wd.heap.size := hbd.size
     replace hbd := hbd.on hbN
     obtain ⟨q, hq⟩ : ∃ q, wd.heap.size = q := ⟨_, rfl⟩
     rw [hq] at hbq hlq ⊢
     obtain ⟨wQ, hQ⟩ : ∃ X, wd.alloc (.cells #[.slice none 0 0, .slice none 0 0, .slice none 0 0] 35) = X := ⟨_, rfl⟩
     rw [hQ] at hbq hbN hbd hS ⊢
     clear hbN
     have hqs : q < wQ.heap.size := hbq.lt
     refine wpAnyH_ready (rs := [3]) (by kernel_rfl) (by simp) (AllReadyH.cons rfl (fun K hK => ?_) AllReadyH.nil)
     go_simp
     go_at_call 57
     refine (rrank_own _ _ _ _ _ (HT0.out.below hbd) (by omega) hC1).mono ?_
     rintro e wA ⟨gA, ccA, rfl, oA, laA, lbA, hbN⟩
     refine hK.out _ _ ((hbN.cell (World.block_lt_of_cell? _ _ hS)).trans hS) (fun hS => ?_)
     clear hK K
     (try simp only [Act.put, l_t, l_s, l_z, s_t, s_z, s_s])
     replace oA := oA.mono (base' := w1.heap.size) hbd.size
     have lcA : w1.heap.size ≤ gA := Nat.le_trans hbd.size laA
     replace hbd := hbd.on hbN
     replace hbq := hbq.below hbN
     clear hbN
     refine wpAnyH_ready (rs := [7]) (by kernel_rfl) (by simp) (AllReadyH.cons rfl (fun K hK => ?_) AllReadyH.nil)
     go_simp
     go_at_call 57
     refine (rrank_own _ _ _ _ _ (HT0.out.below hbd) (by omega) hC1).mono ?_
     rintro e wB ⟨gB, ccB, rfl, oB, laB, lbB, hbN⟩
     refine hK.out _ _ ((hbN.cell (World.block_lt_of_cell? _ _ hS)).trans hS) (fun hS => ?_)
     clear hK K
     (try simp only [Act.put, l_t, l_s, l_z, s_t, s_z, s_s])
     replace oB := oB.mono (base' := w1.heap.size) hbd.size
     have lcB : w1.heap.size ≤ gB := Nat.le_trans hbd.size laB
     replace hbd := hbd.on hbN
     replace oA := oA.below hbN
     replace hbq := hbq.below hbN
     clear hbN hQ
     refine wpAnyH_take (i := 8) (v := ?_) rfl (by kernel_rfl) (by kernel_rfl) (by kernel_rfl) NormQ.hq (Or.inl ⟨by rfl, ?_⟩) (by assumption) ?_
     rotate_left
     focus
      intro w hSw
      (try dsimp only at hSw)
      (try go_split_ands)
      go_simp
      try with_reducible rfl
     (try simp only [Act.put, l_t, l_s, l_z, s_t, s_z, s_s])
     have hSB := World.block_lt_of_cell? _ _ c0
     obtain ⟨k0, k1, k2⟩ := hbq.g3
     have kf0 := hbq.frozen 0
     have kf1 := hbq.frozen 1
     have kf2 := hbq.frozen 2
     have kl := hbq.lt
     have hbz := ((hbq.set 0 (.slice (some ⟨gA, 0, none⟩) tn ccA)).set 1 (.slice (some ⟨gB, 0, none⟩) tn ccB)).set 2 (.slice none 0 0)
     simp only [s_t, s_z, s_s] at hbz
     refine wpAnyH_ready (rs := [10]) (by kernel_rfl) (by simp) (AllReadyH.cons rfl (fun K hK => ?_) AllReadyH.nil)
     go_simp
     refine hK.out _ _ ((World.cell?_setCell_far _ _ _ _ (by show q ≠ xb; have : xb < w1.heap.size := hSB; omega)).trans ((World.cell?_setCell_far _ _ _ _ (by show q ≠ xb; have : xb < w1.heap.size := hSB; omega)).trans ((World.cell?_setCell_far _ _ _ _ (by show q ≠ xb; have : xb < w1.heap.size := hSB; omega)).trans hS))) (fun hS => ?_)
     clear hK K
     (try simp only [Act.put, l_t, l_s, l_z, s_t, s_z, s_s])
     refine wpAnyH_done (by kernel_rfl) ?_ _
     exact ⟨rfl, gA, ccA, gB, ccB, q, rfl, ⟨hbz, ((oA.setOther _ (by simp [Value.ownBlock]; omega)).setOther _ (by simp [Value.ownBlock]; omega)).setOther _ (by simp [Value.ownBlock]; omega), ((oB.setOther _ (by simp [Value.ownBlock]; omega)).setOther _ (by simp [Value.ownBlock]; omega)).setOther _ (by simp [Value.ownBlock]; omega), by rw [rank_len, HTL.out], by rw [rank_len, HTL.out], hlq, ((hbd.setCell (by exact hlq) _).setCell (by exact hlq) _).setCell (by exact hlq) _⟩, by omega, by omega, by omega⟩
 rintro g1 c1 g2 c2 q w2 ⟨hJ0, hne, hq1, hq2⟩
 have HJ0 := Lib.hid hJ0
 have HX12 := Lib.hid (fun X (h : Below w1.heap.size w1 X) => (HX1.out.below h).g6)
 clear hJ0 c0
 go_wp2_with fail
 go_loopw [9] (fun i wr => ∃ k : Nat, i = .int .i64 k ∧ k ≤ xn ∧ RrJ w1 g1 c1 g2 c2 tn q (mixTo min x k) (mixTo max x k) (.slice none 0 0) wr) (fun i _ => xn - (intOf i).toNat)
 case atStart => exact ⟨0, rfl, by omega, by rw [mixTo_zero, mixTo_zero, HX0.out]; exact HJ0.out⟩
 case round =>
  clear HJ0
  obtain ⟨k, rfl, hk, hJ⟩ := hrel
  by_cases hlt : k < xn
  · obtain ⟨t, hxk⟩ : ∃ t, x[k]? = some t := ⟨_, List.getElem?_eq_getElem (by rw [HR1.out.len]; exact hlt)⟩
    obtain ⟨ta', tn', tc', e0, hIt⟩ := nth_cell (HR1.out.below hJ.bel) hxk
    have htl := HCS.out t (List.mem_of_getElem? hxk)
    obtain rfl : tn' = tn := by rw [← hIt.len, htl]
    have HXK := Lib.hid hxk
    have hrl : (rankL t).length = tn' := by rw [rank_len, htl]
    have HRL := Lib.hid hrl
    have HJ := Lib.hid hJ
    have s0 : (0 : Int) ≤ (k : Int) := by omega
    have s1 : (k : Int) < (xn : Int) := by omega
    have hRO := Lib.hid (rrank_own ta' tn' tc' t wr hIt (by omega) hC1)
    have hg1 : g1 < wr.heap.size := (hJ.o1.lt _ rfl).2
    have hg2 : g2 < wr.heap.size := (hJ.o2.lt _ rfl).2
    have hgq : q < wr.heap.size := hJ.bq.lt
    clear hxk htl hrl hIt hJ
    go_wp2_with fail
    refine hRO.out.mono ?_
    rintro e w3 ⟨g3, c3, rfl, o3, l3a, l3b, hB3⟩
    have HJ3 := Lib.hid (HJ.out.below hB3)
    have HO3 := Lib.hid o3
    clear hRO hB3 o3 e0
    go_wp2_with fail
    go_loopw [11] (fun i wv => ∃ j : Nat, i = .int .i64 j ∧ j ≤ tn' ∧ RrJ w1 g1 c1 g2 c2 tn' q (mixI min (mixTo min x k) (rankL t) j) (mixI max (mixTo max x k) (rankL t) j) (.slice none 0 0) wv ∧ OwnInts wv wr.heap.size 3 (.slice (some ⟨g3, 0, none⟩) tn' c3) (rankL t)) (fun i _ => tn' - (intOf i).toNat)
    case atStart => exact ⟨0, rfl, by omega, by rw [mixI_zero, mixI_zero]; exact HJ3.out, HO3.out⟩
    case round =>
     clear HJ3 HO3
     obtain ⟨j, rfl, hj, hJv, hOv⟩ := hrel
     have hlB : (mixTo min x k).length = tn' := mixTo_len HNE.out HCS.out k
     have hlW : (mixTo max x k).length = tn' := mixTo_len HNE.out HCS.out k
     obtain ⟨d0, -, -, -, -, -⟩ := HX12.out wr hJv.bel
     rw [HC.out] at d0
     by_cases hltj : j < tn'
     · obtain ⟨p, hp⟩ : ∃ p, (mixTo min x k)[j]? = some p := ⟨_, List.getElem?_eq_getElem (by rw [hlB]; exact hltj)⟩
       obtain ⟨z, hz⟩ : ∃ z, (mixTo max x k)[j]? = some z := ⟨_, List.getElem?_eq_getElem (by rw [hlW]; exact hltj)⟩
       obtain ⟨r, hr⟩ : ∃ r, (rankL t)[j]? = some r := ⟨_, List.getElem?_eq_getElem (by rw [HRL.out]; exact hltj)⟩
       have hgp := mixI_get (f := min) (r := rankL t) (by rw [hlB]; exact hj) (by rw [HRL.out]; exact hj) hp
       have hgq2 := mixI_get (f := max) (r := rankL t) (by rw [hlW]; exact hj) (by rw [HRL.out]; exact hj) hz
       have HM1 := Lib.hid (mixI_step (f := min) hp hr)
       have HM2 := Lib.hid (mixI_step (f := max) hz hr)
       have h3g : ∀ (X : World), OwnInts X wr.heap.size 3 (.slice (some ⟨g3, 0, none⟩) tn' c3) (rankL t) → True := fun _ _ => trivial
       clear h3g
       obtain ⟨mb, hmb⟩ : ∃ mb, mixI min (mixTo min x k) (rankL t) j = mb := ⟨_, rfl⟩
       obtain ⟨ml, hml⟩ : ∃ ml, mixI max (mixTo max x k) (rankL t) j = ml := ⟨_, rfl⟩
       rw [hmb] at hJv hgp HM1
       rw [hml] at hJv hgq2 HM2
       have HRR := Lib.hid hr
       have HGP := Lib.hid hgp
       have HGZ := Lib.hid hgq2
       have HJV := Lib.hid hJv
       have HOV := Lib.hid hOv
       have y0 : (0 : Int) ≤ (j : Int) := by omega
       have y1 : (j : Int) < (tn' : Int) := by omega
       clear hp hz hr hgp hgq2 hmb hml hlB hlW
       obtain ⟨b0, -, -⟩ := HJV.out.bq.g3
       have e1 := (own_ints HJV.out.o1 HJV.out.l1).get HGP.out
       have e3 := (own_ints HOV.out HRL.out).get HRR.out
       simp only [Nat.zero_add] at e1 e3
       have hz1 := HJV.out.o1
       unfold OwnInts at hz1
       rw [HJV.out.l1] at hz1
       obtain ⟨_, ez1, _, hb1, f1⟩ := own_spot hz1 hC1
       injection ez1 with ez1; injection ez1 with ez1 _
       subst ez1
       have f1j := f1 j
       have hg31 : g3 ≠ g1 := by omega
       have hg32 : g3 ≠ g2 := by omega
       have HNm : Hid (RrJ w1 g1 c1 g2 c2 tn' q (mb.set j (min p r)) ml (.slice none 0 0) ((wr.setCell ⟨g1, j, none⟩ (.int .i64 (min p r))).drew)) := Lib.hid ((HJV.out.put1 hne hq1 hltj _).below (Below.refl _ _).drew)
       have HOm : Hid (OwnInts ((wr.setCell ⟨g1, j, none⟩ (.int .i64 (min p r))).drew) _ 3 (.slice (some ⟨g3, 0, none⟩) tn' c3) (rankL t)) := Lib.hid ((HOV.out.setOther _ (by simp [Value.ownBlock]; exact hg31)).below (Below.refl _ _).drew)
       clear hz1 f1 hJv hOv
       go_wp2_with fail
       go_region
       go_wp2_with fail
       obtain ⟨wm, hwm⟩ : ∃ wm, (wr.setCell ⟨g1, j, none⟩ (.int .i64 (min p r))).drew = wm := ⟨_, rfl⟩
       rw [hwm] at HNm HOm ⊢
       clear hwm e1 e3 b0 f1j d0 hb1
       obtain ⟨-, b1, -⟩ := HNm.out.bq.g3
       have e2 := (own_ints HNm.out.o2 HNm.out.l2).get HGZ.out
       have e3 := (own_ints HOm.out HRL.out).get HRR.out
       simp only [Nat.zero_add] at e2 e3
       have hz2 := HNm.out.o2
       unfold OwnInts at hz2
       rw [HNm.out.l2] at hz2
       obtain ⟨_, ez2, _, hb2, f2⟩ := own_spot hz2 hC1
       injection ez2 with ez2; injection ez2 with ez2 _
       subst ez2
       have f2j := f2 j
       have HNn : Hid (RrJ w1 g1 c1 g2 c2 tn' q (mb.set j (min p r)) (ml.set j (max z r)) (.slice none 0 0) ((wm.setCell ⟨g2, j, none⟩ (.int .i64 (max z r))).drew)) := Lib.hid ((HNm.out.put2 hne hq2 hltj _).below (Below.refl _ _).drew)
       have HOn : Hid (OwnInts ((wm.setCell ⟨g2, j, none⟩ (.int .i64 (max z r))).drew) _ 3 (.slice (some ⟨g3, 0, none⟩) tn' c3) (rankL t)) := Lib.hid ((HOm.out.setOther _ (by simp [Value.ownBlock]; exact hg32)).below (Below.refl _ _).drew)
       clear hz2 f2
       go_wp2_with fail
       go_region
       go_wp2_with fail
       go_roundw
       case rel => exact ⟨j + 1, by go_num, by omega, by rw [HM1.out, HM2.out]; exact HNn.out, HOn.out⟩
       case measure => simp [intOf]; omega
     · obtain rfl : tn' = j := by omega
       have hS1 := mixTo_step (f := min) HXK.out
       have hS2 := mixTo_step (f := max) HXK.out
       have hE1 : mixI min (mixTo min x k) (rankL t) tn' = mixTo min x (k + 1) := by rw [hS1, ← mixI_all (by rw [hlB, HRL.out]), hlB]
       have hE2 : mixI max (mixTo max x k) (rankL t) tn' = mixTo max x (k + 1) := by rw [hS2, ← mixI_all (by rw [hlW, HRL.out]), hlW]
       rw [hE1, hE2] at hJv
       have HJv := Lib.hid hJv
       clear hJv hOv hS1 hS2 hE1 hE2 hlB hlW
       go_wp2_with fail
       go_roundw
       case rel => exact ⟨k + 1, by go_num, by omega, HJv.out⟩
       case measure => simp [intOf]; omega
  · obtain rfl : xn = k := by omega
    have hJx := hJ
    rw [show mixTo min x xn = bestL x by rw [← mixTo_best, HR1.out.len], show mixTo max x xn = worstL x by rw [← mixTo_worst, HR1.out.len]] at hJx
    have HJ := Lib.hid hJx
    clear hJ hJx
    go_wp2_with fail
    go_loopw [12] (fun i wr => ∃ a : Nat, i = .int .i64 a ∧ a ≤ tn ∧ RrU w1 g1 c1 g2 c2 tn q (bestL x) (worstL x) (undTo x tn a) wr) (fun i _ => tn - (intOf i).toNat)
    case atStart => exact ⟨0, rfl, by omega, _, HJ.out, OwnSL.nil _ _ _ _ _, by simp [Value.ownBlock], by simp [Value.ownBlock], by simp [Value.ownBlock]⟩
    case round =>
     clear HJ
     obtain ⟨a, rfl, ha, hU⟩ := hrel
     have a0 : (0 : Int) ≤ (a : Int) := by omega
     obtain ⟨d0, -, -, -, -, -⟩ := HX12.out wr (by obtain ⟨uv, h, _⟩ := hU; exact h.bel)
     rw [HC.out] at d0
     by_cases hlta : a < tn
     rotate_left
     · obtain rfl : tn = a := by omega
       obtain ⟨uv, hJ, hO, hu1, hu2, hu3⟩ := hU
       obtain ⟨pa, pc, rfl, hSL⟩ := hO.sl encPr_len
       obtain ⟨e0, e1, e2⟩ := hJ.bq.g3
       have hx2 := HX2.out.below hJ.bel
       obtain ⟨k0, k1, k2⟩ := hx2.g3
       have f0 := hx2.frozen 0
       have f1 := hx2.frozen 1
       have f2 := hx2.frozen 2
       have kl := hx2.lt
       have hy := ((hx2.set 0 (.slice (some ⟨g1, 0, none⟩) tn c1)).set 1 (.slice (some ⟨g2, 0, none⟩) tn c2)).set 2 (.slice pa (undTo x tn tn).length pc)
       simp only [s_t, s_z, s_s] at hy
       obtain ⟨y0, y1, y2⟩ := hy.g3
       have hbW : W.heap.size ≤ W.heap.size + 1 := by omega
       have hbel := HB1.out.on hJ.bel
       have HK : Hid (RetRk W (rkOf S.sh x) 0 (.returned (.tuple #[.agg #[.slice (some ⟨g1, 0, none⟩) tn c1, .slice (some ⟨g2, 0, none⟩) tn c2, .slice pa (undTo x tn tn).length pc], .int .i64 0])) (((wr.setCell ⟨W.heap.size + 1, 0, none⟩ (.slice (some ⟨g1, 0, none⟩) tn c1)).setCell ⟨W.heap.size + 1, 1, none⟩ (.slice (some ⟨g2, 0, none⟩) tn c2)).setCell ⟨W.heap.size + 1, 2, none⟩ (.slice pa (undTo x tn tn).length pc))) := by
        have hg1 : w1.heap.size ≤ g1 := (hJ.o1.lt _ rfl).1
        have hg2 : w1.heap.size ≤ g2 := (hJ.o2.lt _ rfl).1
        have hlu := hO.lt
        have q1 : (Value.slice (some (⟨g1, 0, none⟩ : Addr)) tn c1).ownBlock ≠ some (W.heap.size + 1) := by simp [Value.ownBlock]; omega
        have q2 : (Value.slice (some (⟨g2, 0, none⟩ : Addr)) tn c2).ownBlock ≠ some (W.heap.size + 1) := by simp [Value.ownBlock]; omega
        have q3 : (Value.slice pa (undTo x tn tn).length pc).ownBlock ≠ some (W.heap.size + 1) := fun e => by have := (hlu _ e).1; omega
        refine Lib.hid ⟨⟨rkOf S.sh x, some ⟨g1, 0, none⟩, tn, c1, some ⟨g2, 0, none⟩, tn, c2, pa, (undTo x tn tn).length, pc⟩, rfl, rfl, ⟨?_, ?_, ?_⟩, ⟨(fun q e => by simp only [Value.ownBlock, Option.some.injEq] at e; omega), (fun q e => by simp only [Value.ownBlock, Option.some.injEq] at e; omega), (fun q e => by have := (hlu _ e).1; omega)⟩, ((hbel.setCell hbW _).setCell hbW _).setCell hbW _⟩
        · exact (((own_ints hJ.o1 hJ.l1).setOther _ (fun _ => q1)).setOther _ (fun _ => q1)).setOther _ (fun _ => q1)
        · exact (((own_ints hJ.o2 hJ.l2).setOther _ (fun _ => q2)).setOther _ (fun _ => q2)).setOther _ (fun _ => q2)
        · have h3 : SL encPr 2 wr pa (undTo x tn tn).length pc (undL x S.sh.cs.toNat) := by
           rw [HC.out, Int.toNat_natCast, ← undTo_all]; exact hSL
          exact ((h3.setOther _ (fun _ => q3)).setOther _ (fun _ => q3)).setOther _ (fun _ => q3)
       obtain ⟨un, hun⟩ : ∃ un, (undTo x tn tn).length = un := ⟨_, rfl⟩
       rw [hun] at HK y0 y1 y2 e2
       clear hJ hO hSL hy hun hx2 hbel hu1 hu2 hu3
       go_wp2_with fail
       refine bodyPost_ret (v := .tuple #[.agg #[.slice (some ⟨g1, 0, none⟩) tn c1, .slice (some ⟨g2, 0, none⟩) tn c2, .slice pa un pc], .int .i64 0]) (by simp [results, Tryz.results37, go_sem, y0, y1, y2]) rfl ?_
       rw [HRK.out, HE.out]
       exact HK.out
     have HU := Lib.hid hU
     clear hU
     go_wp2_with fail
     go_loopw [13] (fun i wv => ∃ b : Nat, i = .int .i64 b ∧ a + 1 ≤ b ∧ b ≤ tn ∧ RrU w1 g1 c1 g2 c2 tn q (bestL x) (worstL x) (undTo x tn a ++ rowTo x a b) wv) (fun i _ => tn - (intOf i).toNat)
     case atStart => exact ⟨a + 1, by go_num, by omega, by omega, by rw [rowTo_zero, List.append_nil]; exact HU.out⟩
     case round =>
      clear HU d0
      obtain ⟨b, rfl, hb1, hb2, hU⟩ := hrel
      have b0 : (0 : Int) ≤ (b : Int) := by omega
      obtain ⟨d0, -, -, -, -, -⟩ := HX12.out wr (by obtain ⟨uv, h, _⟩ := hU; exact h.bel)
      rw [HC.out] at d0
      by_cases hltb : b < tn
      rotate_left
      · obtain rfl : tn = b := by omega
        have HE1 : Hid (RrU w1 g1 c1 g2 c2 tn q (bestL x) (worstL x) (undTo x tn (a + 1)) wr) := Lib.hid (by rw [undTo_step]; exact hU)
        clear hU
        go_wp2_with fail
        go_roundw
        case rel => exact ⟨a + 1, by go_num, by omega, HE1.out⟩
        case measure => simp [intOf]; omega
      obtain ⟨wo, hwo⟩ : ∃ wo, wo = wr := ⟨_, rfl⟩
      rw [← hwo] at hU ⊢
      have HU := Lib.hid hU
      have HOB : Hid (Below w1.heap.size w1 wo) := Lib.hid (by obtain ⟨uv, h, _⟩ := hU; exact h.bel)
      rw [← hwo] at d0
      clear hU hwo
      go_wp2_with fail
      go_loopw [14, 15] (fun sv i wz => ∃ k : Nat, i = .int .i64 k ∧ k ≤ xn ∧ sv = .bool (sameTo x a b k) ∧ Below wo.heap.size wo wz) (fun _ i _ => xn - (intOf i).toNat)
      case atStart => exact ⟨0, rfl, by omega, by rw [sameTo_0], Below.refl _ _⟩
      case round =>
       clear d0
       obtain ⟨k, rfl, hk, rfl, hBz⟩ := hrel
       have k0 : (0 : Int) ≤ (k : Int) := by omega
       have hbel := HOB.out.on hBz
       by_cases hkx : k < xn
       · have k1 : (k : Int) < (xn : Int) := by omega
         obtain ⟨t, hxk⟩ : ∃ t, x[k]? = some t := ⟨_, List.getElem?_eq_getElem (by rw [HR1.out.len]; exact hkx)⟩
         obtain ⟨ua, un, uc, ct, hIt⟩ := nth_cell (HR1.out.below hbel) hxk
         have hun : un = tn := by rw [← hIt.len]; exact HCS.out t (List.mem_of_getElem? hxk)
         subst hun
         obtain ⟨ub, uo, rfl, -⟩ := hIt.at' hC1
         obtain ⟨va, hva⟩ := hIt.has (i := a) (by omega)
         obtain ⟨vb, hvb⟩ := hIt.has (i := b) (by omega)
         have ea := hIt.get hva
         have eb := hIt.get hvb
         obtain ⟨ta0, tn0, tc0, c0, hI0⟩ := nth_cell (HR1.out.below hbel) HH.out
         rw [Nat.add_zero] at c0
         have htn0 : tn0 = un := by rw [← hI0.len]; exact HTL.out
         subst htn0
         obtain ⟨tb, to', rfl, -⟩ := hI0.at' hC1
         obtain ⟨za, hza⟩ := hI0.has (i := a) (by omega)
         obtain ⟨zb, hzb⟩ := hI0.has (i := b) (by omega)
         have fa := hI0.get hza
         have fb := hI0.get hzb
         have hss := sameTo_step (a := a) (b := b) hxk
         rw [HX0.out, show t.getD a 0 = va by rw [List.getD_eq_getElem?_getD, hva]; rfl, show t.getD b 0 = vb by rw [List.getD_eq_getElem?_getD, hvb]; rfl, show t0.getD a 0 = za by rw [List.getD_eq_getElem?_getD, hza]; rfl, show t0.getD b 0 = zb by rw [List.getD_eq_getElem?_getD, hzb]; rfl] at hss
         obtain ⟨sm, hsm⟩ : ∃ sm, sameTo x a b k = sm := ⟨_, rfl⟩
         rw [hsm] at hss ⊢
         have HSS := Lib.hid hss
         have HBZ := Lib.hid hBz
         have mt := hIt.mx
         have ct' := hIt.cap
         have mt0 := hI0.mx
         have ct0 := hI0.cap
         unfold maxLen at mt mt0
         have u2 : (a : Int) < (tn0 : Int) := by omega
         have u3 : (b : Int) < (tn0 : Int) := by omega
         clear hxk hIt hva hvb hI0 hza hzb hss hsm hBz hbel
         cases sm
         · go_wp2_with fail
           apply region_fix2 (R := fun w' => w' = wr.drew)
           · refine wp_region_held_drew (S := fun w' => w'.cell? ⟨xb, xo, none⟩ = some (.slice (some ⟨tb, to', none⟩) tn0 tc0)) (by kernel_rfl) c0 (fun hS => ?_)
             refine wpAnyH_take (i := 0) (v := ?_) rfl (by kernel_rfl) (by kernel_rfl) (by kernel_rfl) NormQ.hq (Or.inl ⟨by rfl, ?_⟩) (by assumption) ?_
             rotate_left
             focus
              intro w hSw
              (try dsimp only at hSw)
              (try go_split_ands)
              go_simp
              try with_reducible rfl
             (try simp only [Act.put, l_t, l_z, s_t, s_z, s_s])
             refine wpAnyH_take (i := 1) (v := ?_) rfl (by kernel_rfl) (by kernel_rfl) (by kernel_rfl) NormQ.hq (Or.inl ⟨by rfl, ?_⟩) (by assumption) ?_
             rotate_left
             focus
              intro w hSw
              (try dsimp only at hSw)
              (try go_split_ands)
              go_simp
              try with_reducible rfl
             (try simp only [Act.put, l_t, l_s, l_z, s_t, s_z, s_s])
             refine wpAnyH_take (i := 2) (v := undef) rfl (by kernel_rfl) (by kernel_rfl) (by kernel_rfl) NormQ.hq (Or.inr ⟨by rfl, rfl⟩) (by assumption) ?_
             (try simp only [Act.put, l_t, l_s, l_z, s_t, s_z, s_s])
             refine wpAnyH_take (i := 3) (v := undef) rfl (by kernel_rfl) (by kernel_rfl) (by kernel_rfl) NormQ.hq (Or.inr ⟨by rfl, rfl⟩) (by assumption) ?_
             (try simp only [Act.put, l_t, l_s, l_z, s_t, s_z, s_s])
             refine wpAnyH_take (i := 4) (v := undef) rfl (by kernel_rfl) (by kernel_rfl) (by kernel_rfl) NormQ.hq (Or.inr ⟨by rfl, rfl⟩) (by assumption) ?_
             (try simp only [Act.put, l_t, l_s, l_z, s_t, s_z, s_s])
             refine wpAnyH_take (i := 5) (v := undef) rfl (by kernel_rfl) (by kernel_rfl) (by kernel_rfl) NormQ.hq (Or.inr ⟨by rfl, rfl⟩) (by assumption) ?_
             (try simp only [Act.put, l_t, l_s, l_z, s_t, s_z, s_s])
             refine wpAnyH_take (i := 6) (v := undef) rfl (by kernel_rfl) (by kernel_rfl) (by kernel_rfl) NormQ.hq (Or.inr ⟨by rfl, rfl⟩) (by assumption) ?_
             (try simp only [Act.put, l_t, l_s, l_z, s_t, s_z, s_s])
             refine wpAnyH_take (i := 7) (v := undef) rfl (by kernel_rfl) (by kernel_rfl) (by kernel_rfl) NormQ.hq (Or.inr ⟨by rfl, rfl⟩) (by assumption) ?_
             (try simp only [Act.put, l_t, l_s, l_z, s_t, s_z, s_s])
             refine wpAnyH_take (i := 8) (v := undef) rfl (by kernel_rfl) (by kernel_rfl) (by kernel_rfl) NormQ.hq (Or.inr ⟨by rfl, rfl⟩) (by assumption) ?_
             (try simp only [Act.put, l_t, l_s, l_z, s_t, s_z, s_s])
             refine wpAnyH_take (i := 9) (v := undef) rfl (by kernel_rfl) (by kernel_rfl) (by kernel_rfl) NormQ.hq (Or.inr ⟨by rfl, rfl⟩) (by assumption) ?_
             (try simp only [Act.put, l_t, l_s, l_z, s_t, s_z, s_s])
             refine wpAnyH_take (i := 10) (v := undef) rfl (by kernel_rfl) (by kernel_rfl) (by kernel_rfl) NormQ.hq (Or.inr ⟨by rfl, rfl⟩) (by assumption) ?_
             (try simp only [Act.put, l_t, l_s, l_z, s_t, s_z, s_s])
             refine wpAnyH_take (i := 11) (v := undef) rfl (by kernel_rfl) (by kernel_rfl) (by kernel_rfl) NormQ.hq (Or.inr ⟨by rfl, rfl⟩) (by assumption) ?_
             (try simp only [Act.put, l_t, l_s, l_z, s_t, s_z, s_s])
             refine wpAnyH_take (i := 12) (v := undef) rfl (by kernel_rfl) (by kernel_rfl) (by kernel_rfl) NormQ.hq (Or.inr ⟨by rfl, rfl⟩) (by assumption) ?_
             (try simp only [Act.put, l_t, l_s, l_z, s_t, s_z, s_s])
             refine wpAnyH_take (i := 13) (v := undef) rfl (by kernel_rfl) (by kernel_rfl) (by kernel_rfl) NormQ.hq (Or.inr ⟨by rfl, rfl⟩) (by assumption) ?_
             (try simp only [Act.put, l_t, l_s, l_z, s_t, s_z, s_s])
             refine wpAnyH_take (i := 14) (v := undef) rfl (by kernel_rfl) (by kernel_rfl) (by kernel_rfl) NormQ.hq (Or.inr ⟨by rfl, rfl⟩) (by assumption) ?_
             (try simp only [Act.put, l_t, l_s, l_z, s_t, s_z, s_s])
             refine wpAnyH_take (i := 15) (v := undef) rfl (by kernel_rfl) (by kernel_rfl) (by kernel_rfl) NormQ.hq (Or.inr ⟨by rfl, rfl⟩) (by assumption) ?_
             (try simp only [Act.put, l_t, l_s, l_z, s_t, s_z, s_s])
             refine wpAnyH_take (i := 16) (v := undef) rfl (by kernel_rfl) (by kernel_rfl) (by kernel_rfl) NormQ.hq (Or.inr ⟨by rfl, rfl⟩) (by assumption) ?_
             (try simp only [Act.put, l_t, l_s, l_z, s_t, s_z, s_s])
             refine wpAnyH_take (i := 17) (v := undef) rfl (by kernel_rfl) (by kernel_rfl) (by kernel_rfl) NormQ.hq (Or.inr ⟨by rfl, rfl⟩) (by assumption) ?_
             (try simp only [Act.put, l_t, l_s, l_z, s_t, s_z, s_s])
             refine wpAnyH_take (i := 18) (v := undef) rfl (by kernel_rfl) (by kernel_rfl) (by kernel_rfl) NormQ.hq (Or.inr ⟨by rfl, rfl⟩) (by assumption) ?_
             (try simp only [Act.put, l_t, l_s, l_z, s_t, s_z, s_s])
             refine wpAnyH_take (i := 19) (v := undef) rfl (by kernel_rfl) (by kernel_rfl) (by kernel_rfl) NormQ.hq (Or.inr ⟨by rfl, rfl⟩) (by assumption) ?_
             (try simp only [Act.put, l_t, l_s, l_z, s_t, s_z, s_s])
             refine wpAnyH_take (i := 20) (v := undef) rfl (by kernel_rfl) (by kernel_rfl) (by kernel_rfl) NormQ.hq (Or.inr ⟨by rfl, rfl⟩) (by assumption) ?_
             (try simp only [Act.put, l_t, l_s, l_z, s_t, s_z, s_s])
             refine wpAnyH_take (i := 21) (v := undef) rfl (by kernel_rfl) (by kernel_rfl) (by kernel_rfl) NormQ.hq (Or.inr ⟨by rfl, rfl⟩) (by assumption) ?_
             (try simp only [Act.put, l_t, l_s, l_z, s_t, s_z, s_s])
             refine wpAnyH_take (i := 22) (v := undef) rfl (by kernel_rfl) (by kernel_rfl) (by kernel_rfl) NormQ.hq (Or.inr ⟨by rfl, rfl⟩) (by assumption) ?_
             (try simp only [Act.put, l_t, l_s, l_z, s_t, s_z, s_s])
             refine wpAnyH_take (i := 23) (v := undef) rfl (by kernel_rfl) (by kernel_rfl) (by kernel_rfl) NormQ.hq (Or.inr ⟨by rfl, rfl⟩) (by assumption) ?_
             (try simp only [Act.put, l_t, l_s, l_z, s_t, s_z, s_s])
             refine wpAnyH_take (i := 24) (v := undef) rfl (by kernel_rfl) (by kernel_rfl) (by kernel_rfl) NormQ.hq (Or.inr ⟨by rfl, rfl⟩) (by assumption) ?_
             (try simp only [Act.put, l_t, l_s, l_z, s_t, s_z, s_s])
             refine wpAnyH_take (i := 25) (v := undef) rfl (by kernel_rfl) (by kernel_rfl) (by kernel_rfl) NormQ.hq (Or.inr ⟨by rfl, rfl⟩) (by assumption) ?_
             (try simp only [Act.put, l_t, l_s, l_z, s_t, s_z, s_s])
             refine wpAnyH_take (i := 26) (v := undef) rfl (by kernel_rfl) (by kernel_rfl) (by kernel_rfl) NormQ.hq (Or.inr ⟨by rfl, rfl⟩) (by assumption) ?_
             (try simp only [Act.put, l_t, l_s, l_z, s_t, s_z, s_s])
             refine wpAnyH_take (i := 27) (v := undef) rfl (by kernel_rfl) (by kernel_rfl) (by kernel_rfl) NormQ.hq (Or.inr ⟨by rfl, rfl⟩) (by assumption) ?_
             (try simp only [Act.put, l_t, l_s, l_z, s_t, s_z, s_s])
             refine wpAnyH_take (i := 28) (v := undef) rfl (by kernel_rfl) (by kernel_rfl) (by kernel_rfl) NormQ.hq (Or.inr ⟨by rfl, rfl⟩) (by assumption) ?_
             (try simp only [Act.put, l_t, l_s, l_z, s_t, s_z, s_s])
             refine wpAnyH_take (i := 29) (v := undef) rfl (by kernel_rfl) (by kernel_rfl) (by kernel_rfl) NormQ.hq (Or.inr ⟨by rfl, rfl⟩) (by assumption) ?_
             (try simp only [Act.put, l_t, l_s, l_z, s_t, s_z, s_s])
             refine wpAnyH_take (i := 30) (v := undef) rfl (by kernel_rfl) (by kernel_rfl) (by kernel_rfl) NormQ.hq (Or.inr ⟨by rfl, rfl⟩) (by assumption) ?_
             (try simp only [Act.put, l_t, l_s, l_z, s_t, s_z, s_s])
             refine wpAnyH_take (i := 31) (v := ?_) rfl (by kernel_rfl) (by kernel_rfl) (by kernel_rfl) NormQ.hq (Or.inl ⟨by rfl, ?_⟩) (by assumption) ?_
             rotate_left
             focus
              intro w hSw
              (try dsimp only at hSw)
              (try go_split_ands)
              go_simp
              try with_reducible rfl
             (try simp only [Act.put, l_t, l_s, l_z, s_t, s_z, s_s])
             refine wpAnyH_take (i := 32) (v := ?_) rfl (by kernel_rfl) (by kernel_rfl) (by kernel_rfl) NormQ.hq (Or.inl ⟨by rfl, ?_⟩) (by assumption) ?_
             rotate_left
             focus
              intro w hSw
              (try dsimp only at hSw)
              (try go_split_ands)
              go_simp
              try with_reducible rfl
             (try simp only [Act.put, l_t, l_s, l_z, s_t, s_z, s_s])
             refine wpAnyH_done (by kernel_rfl) ?_ _
             exact ⟨rfl, rfl, rfl⟩
           intro w' hw'
           have hB' : Below wo.heap.size wo w' := by rw [hw']; exact HBZ.out.on (Below.refl _ _).drew
           have HB' := Lib.hid hB'
           clear hw' hB' c0 ct ea eb fa fb
           go_wp2_with fail
           go_roundw
           case rel => exact ⟨k + 1, by go_num, by omega, by rw [HSS.out]; rfl, HB'.out⟩
           case measure => simp [intOf]; omega
         · go_wp2_with fail
           apply region_fix2 (R := fun w' => w' = wr.drew)
           · refine wp_region_held_drew (S := fun w' => w'.cell? ⟨xb, xo + k, none⟩ = some (.slice (some ⟨ub, uo, none⟩) tn0 uc) ∧ w'.cell? ⟨xb, xo, none⟩ = some (.slice (some ⟨tb, to', none⟩) tn0 tc0) ∧ w'.cell? ⟨ub, uo + a, none⟩ = some (.int .i64 va) ∧ w'.cell? ⟨ub, uo + b, none⟩ = some (.int .i64 vb) ∧ w'.cell? ⟨tb, to' + a, none⟩ = some (.int .i64 za) ∧ w'.cell? ⟨tb, to' + b, none⟩ = some (.int .i64 zb)) (by kernel_rfl) ⟨ct, c0, ea, eb, fa, fb⟩ (fun hS => ?_)
             refine wpAnyH_take (i := 0) (v := ?_) rfl (by kernel_rfl) (by kernel_rfl) (by kernel_rfl) NormQ.hq (Or.inl ⟨by rfl, ?_⟩) (by assumption) ?_
             rotate_left
             focus
              intro w hSw
              (try dsimp only at hSw)
              (try go_split_ands)
              go_simp
              try with_reducible rfl
             (try simp only [Act.put, l_t, l_z, s_t, s_z, s_s])
             refine wpAnyH_take (i := 1) (v := ?_) rfl (by kernel_rfl) (by kernel_rfl) (by kernel_rfl) NormQ.hq (Or.inl ⟨by rfl, ?_⟩) (by assumption) ?_
             rotate_left
             focus
              intro w hSw
              (try dsimp only at hSw)
              (try go_split_ands)
              go_simp
              try with_reducible rfl
             (try simp only [Act.put, l_t, l_s, l_z, s_t, s_z, s_s])
             refine wpAnyH_take (i := 2) (v := ?_) rfl (by kernel_rfl) (by kernel_rfl) (by kernel_rfl) NormQ.hq (Or.inl ⟨by rfl, ?_⟩) (by assumption) ?_
             rotate_left
             focus
              intro w hSw
              (try dsimp only at hSw)
              (try go_split_ands)
              go_simp
              try with_reducible rfl
             (try simp only [Act.put, l_t, l_s, l_z, s_t, s_z, s_s])
             refine wpAnyH_take (i := 3) (v := ?_) rfl (by kernel_rfl) (by kernel_rfl) (by kernel_rfl) NormQ.hq (Or.inl ⟨by rfl, ?_⟩) (by assumption) ?_
             rotate_left
             focus
              intro w hSw
              (try dsimp only at hSw)
              (try go_split_ands)
              go_simp
              try with_reducible rfl
             (try simp only [Act.put, l_t, l_s, l_z, s_t, s_z, s_s])
             refine wpAnyH_take (i := 4) (v := ?_) rfl (by kernel_rfl) (by kernel_rfl) (by kernel_rfl) NormQ.hq (Or.inl ⟨by rfl, ?_⟩) (by assumption) ?_
             rotate_left
             focus
              intro w hSw
              (try dsimp only at hSw)
              (try go_split_ands)
              go_simp
              try with_reducible rfl
             (try simp only [Act.put, l_t, l_s, l_z, s_t, s_z, s_s])
             refine wpAnyH_take (i := 5) (v := ?_) rfl (by kernel_rfl) (by kernel_rfl) (by kernel_rfl) NormQ.hq (Or.inl ⟨by rfl, ?_⟩) (by assumption) ?_
             rotate_left
             focus
              intro w hSw
              (try dsimp only at hSw)
              (try go_split_ands)
              go_simp
              try with_reducible rfl
             (try simp only [Act.put, l_t, l_s, l_z, s_t, s_z, s_s])
             refine wpAnyH_take (i := 6) (v := ?_) rfl (by kernel_rfl) (by kernel_rfl) (by kernel_rfl) NormQ.hq (Or.inl ⟨by rfl, ?_⟩) (by assumption) ?_
             rotate_left
             focus
              intro w hSw
              (try dsimp only at hSw)
              (try go_split_ands)
              go_simp
              try with_reducible rfl
             (try simp only [Act.put, l_t, l_s, l_z, s_t, s_z, s_s])
             refine wpAnyH_take (i := 7) (v := ?_) rfl (by kernel_rfl) (by kernel_rfl) (by kernel_rfl) NormQ.hq (Or.inl ⟨by rfl, ?_⟩) (by assumption) ?_
             rotate_left
             focus
              intro w hSw
              (try dsimp only at hSw)
              (try go_split_ands)
              go_simp
              try with_reducible rfl
             (try simp only [Act.put, l_t, l_s, l_z, s_t, s_z, s_s])
             refine wpAnyH_take (i := 8) (v := ?_) rfl (by kernel_rfl) (by kernel_rfl) (by kernel_rfl) NormQ.hq (Or.inl ⟨by rfl, ?_⟩) (by assumption) ?_
             rotate_left
             focus
              intro w hSw
              (try dsimp only at hSw)
              (try go_split_ands)
              go_simp
              try with_reducible rfl
             (try simp only [Act.put, l_t, l_s, l_z, s_t, s_z, s_s])
             refine wpAnyH_take (i := 9) (v := ?_) rfl (by kernel_rfl) (by kernel_rfl) (by kernel_rfl) NormQ.hq (Or.inl ⟨by rfl, ?_⟩) (by assumption) ?_
             rotate_left
             focus
              intro w hSw
              (try dsimp only at hSw)
              (try go_split_ands)
              go_simp
              try with_reducible rfl
             (try simp only [Act.put, l_t, l_s, l_z, s_t, s_z, s_s])
             refine wpAnyH_take (i := 10) (v := ?_) rfl (by kernel_rfl) (by kernel_rfl) (by kernel_rfl) NormQ.hq (Or.inl ⟨by rfl, ?_⟩) (by assumption) ?_
             rotate_left
             focus
              intro w hSw
              (try dsimp only at hSw)
              (try go_split_ands)
              go_simp
              try with_reducible rfl
             (try simp only [Act.put, l_t, l_s, l_z, s_t, s_z, s_s])
             refine wpAnyH_take (i := 11) (v := ?_) rfl (by kernel_rfl) (by kernel_rfl) (by kernel_rfl) NormQ.hq (Or.inl ⟨by rfl, ?_⟩) (by assumption) ?_
             rotate_left
             focus
              intro w hSw
              (try dsimp only at hSw)
              (try go_split_ands)
              go_simp
              try with_reducible rfl
             (try simp only [Act.put, l_t, l_s, l_z, s_t, s_z, s_s])
             refine wpAnyH_take (i := 12) (v := ?_) rfl (by kernel_rfl) (by kernel_rfl) (by kernel_rfl) NormQ.hq (Or.inl ⟨by rfl, ?_⟩) (by assumption) ?_
             rotate_left
             focus
              intro w hSw
              (try dsimp only at hSw)
              (try go_split_ands)
              go_simp
              try with_reducible rfl
             (try simp only [Act.put, l_t, l_s, l_z, s_t, s_z, s_s])
             refine wpAnyH_take (i := 13) (v := ?_) rfl (by kernel_rfl) (by kernel_rfl) (by kernel_rfl) NormQ.hq (Or.inl ⟨by rfl, ?_⟩) (by assumption) ?_
             rotate_left
             focus
              intro w hSw
              (try dsimp only at hSw)
              (try go_split_ands)
              go_simp
              try with_reducible rfl
             (try simp only [Act.put, l_t, l_s, l_z, s_t, s_z, s_s])
             refine wpAnyH_take (i := 14) (v := ?_) rfl (by kernel_rfl) (by kernel_rfl) (by kernel_rfl) NormQ.hq (Or.inl ⟨by rfl, ?_⟩) (by assumption) ?_
             rotate_left
             focus
              intro w hSw
              (try dsimp only at hSw)
              (try go_split_ands)
              go_simp
              try with_reducible rfl
             (try simp only [Act.put, l_t, l_s, l_z, s_t, s_z, s_s])
             refine wpAnyH_take (i := 15) (v := ?_) rfl (by kernel_rfl) (by kernel_rfl) (by kernel_rfl) NormQ.hq (Or.inl ⟨by rfl, ?_⟩) (by assumption) ?_
             rotate_left
             focus
              intro w hSw
              (try dsimp only at hSw)
              (try go_split_ands)
              go_simp
              try with_reducible rfl
             (try simp only [Act.put, l_t, l_s, l_z, s_t, s_z, s_s])
             refine wpAnyH_take (i := 17) (v := ?_) rfl (by kernel_rfl) (by kernel_rfl) (by kernel_rfl) NormQ.hq (Or.inl ⟨by rfl, ?_⟩) (by assumption) ?_
             rotate_left
             focus
              intro w hSw
              (try dsimp only at hSw)
              (try go_split_ands)
              go_simp
              try with_reducible rfl
             (try simp only [Act.put, l_t, l_s, l_z, s_t, s_z, s_s])
             refine wpAnyH_take (i := 18) (v := ?_) rfl (by kernel_rfl) (by kernel_rfl) (by kernel_rfl) NormQ.hq (Or.inl ⟨by rfl, ?_⟩) (by assumption) ?_
             rotate_left
             focus
              intro w hSw
              (try dsimp only at hSw)
              (try go_split_ands)
              go_simp
              try with_reducible rfl
             (try simp only [Act.put, l_t, l_s, l_z, s_t, s_z, s_s])
             refine wpAnyH_take (i := 19) (v := ?_) rfl (by kernel_rfl) (by kernel_rfl) (by kernel_rfl) NormQ.hq (Or.inl ⟨by rfl, ?_⟩) (by assumption) ?_
             rotate_left
             focus
              intro w hSw
              (try dsimp only at hSw)
              (try go_split_ands)
              go_simp
              try with_reducible rfl
             (try simp only [Act.put, l_t, l_s, l_z, s_t, s_z, s_s])
             refine wpAnyH_take (i := 20) (v := ?_) rfl (by kernel_rfl) (by kernel_rfl) (by kernel_rfl) NormQ.hq (Or.inl ⟨by rfl, ?_⟩) (by assumption) ?_
             rotate_left
             focus
              intro w hSw
              (try dsimp only at hSw)
              (try go_split_ands)
              go_simp
              try with_reducible rfl
             (try simp only [Act.put, l_t, l_s, l_z, s_t, s_z, s_s])
             refine wpAnyH_take (i := 21) (v := ?_) rfl (by kernel_rfl) (by kernel_rfl) (by kernel_rfl) NormQ.hq (Or.inl ⟨by rfl, ?_⟩) (by assumption) ?_
             rotate_left
             focus
              intro w hSw
              (try dsimp only at hSw)
              (try go_split_ands)
              go_simp
              try with_reducible rfl
             (try simp only [Act.put, l_t, l_s, l_z, s_t, s_z, s_s])
             refine wpAnyH_take (i := 22) (v := ?_) rfl (by kernel_rfl) (by kernel_rfl) (by kernel_rfl) NormQ.hq (Or.inl ⟨by rfl, ?_⟩) (by assumption) ?_
             rotate_left
             focus
              intro w hSw
              (try dsimp only at hSw)
              (try go_split_ands)
              go_simp
              try with_reducible rfl
             (try simp only [Act.put, l_t, l_s, l_z, s_t, s_z, s_s])
             refine wpAnyH_take (i := 23) (v := ?_) rfl (by kernel_rfl) (by kernel_rfl) (by kernel_rfl) NormQ.hq (Or.inl ⟨by rfl, ?_⟩) (by assumption) ?_
             rotate_left
             focus
              intro w hSw
              (try dsimp only at hSw)
              (try go_split_ands)
              go_simp
              try with_reducible rfl
             (try simp only [Act.put, l_t, l_s, l_z, s_t, s_z, s_s])
             refine wpAnyH_take (i := 24) (v := ?_) rfl (by kernel_rfl) (by kernel_rfl) (by kernel_rfl) NormQ.hq (Or.inl ⟨by rfl, ?_⟩) (by assumption) ?_
             rotate_left
             focus
              intro w hSw
              (try dsimp only at hSw)
              (try go_split_ands)
              go_simp
              try with_reducible rfl
             (try simp only [Act.put, l_t, l_s, l_z, s_t, s_z, s_s])
             refine wpAnyH_take (i := 25) (v := ?_) rfl (by kernel_rfl) (by kernel_rfl) (by kernel_rfl) NormQ.hq (Or.inl ⟨by rfl, ?_⟩) (by assumption) ?_
             rotate_left
             focus
              intro w hSw
              (try dsimp only at hSw)
              (try go_split_ands)
              go_simp
              try with_reducible rfl
             (try simp only [Act.put, l_t, l_s, l_z, s_t, s_z, s_s])
             refine wpAnyH_take (i := 26) (v := ?_) rfl (by kernel_rfl) (by kernel_rfl) (by kernel_rfl) NormQ.hq (Or.inl ⟨by rfl, ?_⟩) (by assumption) ?_
             rotate_left
             focus
              intro w hSw
              (try dsimp only at hSw)
              (try go_split_ands)
              go_simp
              try with_reducible rfl
             (try simp only [Act.put, l_t, l_s, l_z, s_t, s_z, s_s])
             refine wpAnyH_take (i := 27) (v := ?_) rfl (by kernel_rfl) (by kernel_rfl) (by kernel_rfl) NormQ.hq (Or.inl ⟨by rfl, ?_⟩) (by assumption) ?_
             rotate_left
             focus
              intro w hSw
              (try dsimp only at hSw)
              (try go_split_ands)
              go_simp
              try with_reducible rfl
             (try simp only [Act.put, l_t, l_s, l_z, s_t, s_z, s_s])
             refine wpAnyH_take (i := 28) (v := ?_) rfl (by kernel_rfl) (by kernel_rfl) (by kernel_rfl) NormQ.hq (Or.inl ⟨by rfl, ?_⟩) (by assumption) ?_
             rotate_left
             focus
              intro w hSw
              (try dsimp only at hSw)
              (try go_split_ands)
              go_simp
              try with_reducible rfl
             (try simp only [Act.put, l_t, l_s, l_z, s_t, s_z, s_s])
             refine wpAnyH_ready (rs := [16]) (by kernel_rfl) (by simp) (AllReadyH.cons rfl (fun K hK => ?_) AllReadyH.nil)
             go_simp
             go_at_call 58
             refine (rsign_any va vb _).mono ?_
             rintro e w' ⟨rfl, rfl⟩
             refine hK.out _ _ (hS) (fun hS => ?_)
             clear hK K
             (try simp only [Act.put, l_t, l_s, l_z, s_t, s_z, s_s])
             refine wpAnyH_ready (rs := [29]) (by kernel_rfl) (by simp) (AllReadyH.cons rfl (fun K hK => ?_) AllReadyH.nil)
             go_simp
             go_at_call 58
             refine (rsign_any za zb _).mono ?_
             rintro e w' ⟨rfl, rfl⟩
             refine hK.out _ _ (hS) (fun hS => ?_)
             clear hK K
             (try simp only [Act.put, l_t, l_s, l_z, s_t, s_z, s_s])
             refine wpAnyH_take (i := 30) (v := ?_) rfl (by kernel_rfl) (by kernel_rfl) (by kernel_rfl) NormQ.hq (Or.inl ⟨by rfl, ?_⟩) (by assumption) ?_
             rotate_left
             focus
              intro w hSw
              (try dsimp only at hSw)
              (try go_split_ands)
              go_simp
              try with_reducible rfl
             (try simp only [Act.put, l_t, l_s, l_z, s_t, s_z, s_s])
             refine wpAnyH_take (i := 31) (v := ?_) rfl (by kernel_rfl) (by kernel_rfl) (by kernel_rfl) NormQ.hq (Or.inl ⟨by rfl, ?_⟩) (by assumption) ?_
             rotate_left
             focus
              intro w hSw
              (try dsimp only at hSw)
              (try go_split_ands)
              go_simp
              try with_reducible rfl
             (try simp only [Act.put, l_t, l_s, l_z, s_t, s_z, s_s])
             refine wpAnyH_take (i := 32) (v := ?_) rfl (by kernel_rfl) (by kernel_rfl) (by kernel_rfl) NormQ.hq (Or.inl ⟨by rfl, ?_⟩) (by assumption) ?_
             rotate_left
             focus
              intro w hSw
              (try dsimp only at hSw)
              (try go_split_ands)
              go_simp
              try with_reducible rfl
             (try simp only [Act.put, l_t, l_s, l_z, s_t, s_z, s_s])
             refine wpAnyH_done (by kernel_rfl) ?_ _
             exact ⟨rfl, rfl, rfl⟩
           intro w' hw'
           have hB' : Below wo.heap.size wo w' := by rw [hw']; exact HBZ.out.on (Below.refl _ _).drew
           have HB' := Lib.hid hB'
           clear hw' hB' c0 ct ea eb fa fb
           go_wp2_with fail
           go_roundw
           case rel => exact ⟨k + 1, by go_num, by omega, by rw [HSS.out]; simp, HB'.out⟩
           case measure => simp [intOf]; omega
       obtain rfl : xn = k := by omega
       have hsa : sameTo x a b xn = !undB x a b := by rw [← sameTo_all, HR1.out.len]; simp
       rw [hsa]
       have hUz := HU.out.below hBz
       have hRT := rowTo_step (x := x) (show a < b by omega)
       clear hsa hBz
       cases hub : undB x a b
       · have HUE : Hid (RrU w1 g1 c1 g2 c2 tn q (bestL x) (worstL x) (undTo x tn a ++ rowTo x a (b + 1)) wr) := Lib.hid (by rw [hRT, hub]; simpa using hUz)
         clear hub hRT hUz
         go_wp2_with fail
         go_roundw
         case rel => exact ⟨b + 1, by go_num, by omega, by omega, HUE.out⟩
         case measure => simp [intOf]; omega
       · rw [hub] at hRT
         have HRT : Hid (undTo x tn a ++ rowTo x a (b + 1) = (undTo x tn a ++ rowTo x a b) ++ [((a : Int), (b : Int))]) := Lib.hid (by rw [hRT]; simp)
         have hul : (undTo x tn a ++ rowTo x a b).length ≤ 100 := by
          obtain ⟨h1, h2⟩ := undTo_len x tn a b (by omega)
          have h3 : a * tn ≤ 4 * 4 := Nat.mul_le_mul (by omega) (by omega)
          rw [List.length_append]; omega
         obtain ⟨U, hU⟩ : ∃ U, undTo x tn a ++ rowTo x a b = U := ⟨_, rfl⟩
         rw [hU] at hUz HRT hul
         obtain ⟨uv, hJ, hO, hu1, hu2, hu3⟩ := hUz
         obtain ⟨un, hun⟩ : ∃ un, U.length = un := ⟨_, rfl⟩
         have hO2 := hO
         unfold OwnSL at hO2
         rw [hun] at hO2 hul
         obtain ⟨pa, pc, rfl, _, _⟩ := own_slice hO2
         obtain ⟨-, -, e2⟩ := hJ.bq.g3
         have hlu := World.ownsRow.lt hO2
         have HLU := Lib.hid hlu
         have HJ := Lib.hid hJ
         have HO2 := Lib.hid hO2
         have HU1 := Lib.hid hu1
         have HU2 := Lib.hid hu2
         have HU3 := Lib.hid hu3
         have HUN := Lib.hid hun
         have hbs : w1.heap.size ≤ wr.heap.size := hJ.bel.size
         obtain ⟨ip, hip, hzp0, hzp1, hzp2⟩ := info_parts info_pr
         clear hub hRT hU hJ hO hO2 hu1 hu2 hu3 hun hlu hbel
         go_wp2_with (at_builtin; refine wpList_append_any rfl _ _ 33 rfl w1.heap.size 84 ip _ 2 16 Tryz.underlying33 hip hzp0 hzp1 hzp2 rfl (by decide) (.slice pa un pc) un (U.flatMap encPr) (HO2.out.alloc _) rfl (some ⟨wr.heap.size, 0, none⟩) 1 1 [.int .i64 (a : Int), .int .i64 (b : Int)] rfl (fun h => by cases h) rfl (fun ad e => by injection e with e; rw [← e]; exact new2 _ _ _ _) (by simp [Value.oneCell']) (by unfold maxLen; omega) (by omega) (by simp; omega) ?_; intro v' w5 h1 g1' f1'; obtain ⟨va', vc', rfl, k5, kf5, kl5, hU5⟩ := app_rr HJ.out hq1 hq2 HO2.out HU1.out HU2.out HU3.out h1 HUN.out g1' f1'; have HU5 := Lib.hid hU5; clear h1 g1' f1' hU5)
         go_roundw
         case rel => exact ⟨b + 1, by go_num, by omega, by omega, by rw [HRT.out]; exact HU5.out⟩
         case measure => simp [intOf]; omega
end Go.Proofs.YtehoidohallfcaaGreatDoor
