/- Contract of rulings.Again. -/
import Derived.Test.YtehoidohallfcaaGreatDoorRuE
import Derived.Test.YtehoidohallfcaaGreatDoorRgX
namespace Go.Proofs.YtehoidohallfcaaGreatDoor
open Go.RowKit
theorem agE_bad {G : Type} {s : Sh} {l : List Rs} {fs : List (Ft G)} {d : Int} (h : ruE s l fs d ≠ 0) : agE s l fs d = ruE s l fs d ∧ agR s l fs d = Rk0 := ⟨by unfold agE; rw [if_pos h], by unfold agR; rw [if_pos h]⟩
theorem agE_ok {G : Type} {s : Sh} {l : List Rs} {fs : List (Ft G)} {d : Int} (h : ruE s l fs d = 0) : agE s l fs d = rankE s (resL fs d l) ∧ agR s l fs d = rankR s (resL fs d l) ∧ ruR s l fs d = resL fs d l := ⟨by unfold agE; rw [if_neg (fun e => e h)], by unfold agR; rw [if_neg (fun e => e h)], by unfold ruR; rw [if_neg (fun e => e h)]⟩
theorem setR3 {w : World} {B : Nat} {v0 v1 v2 : Value} {t : TypeId} (h : Box w B #[v0, v1, v2] t) (u0 u1 u2 : Value) : Box (((w.setCell ⟨B, 0, none⟩ u0).setCell ⟨B, 1, none⟩ u1).setCell ⟨B, 2, none⟩ u2) B #[u0, u1, u2] t := by
 have := ((h.set 0 u0).set 1 u1).set 2 u2
 simpa using this
set_option maxRecDepth 20000 in
set_option maxHeartbeats 4000000 in
theorem again_any (S : Sp) (al : Option Addr) (nl cl : Nat) (l : List Rs) (fa : Option Addr) (fn fc : Nat) (fs : List (Ft Value)) (by' : Int) (W : World) (ht : Tab W) (hS : S.In W) (h0 : SL encRs 6 W al nl cl l) (hF : SL encFt 5 W fa fn fc fs) (hG : GrOk fs) (h4 : S.sh.cs ≤ 4) :
 Calls Tryz.prog 13 #[.agg #[.int .i64 S.sh.cs, .int .i64 S.sh.ps, .slice S.la S.ln S.lc, .slice S.ca S.cn S.cc, .slice S.pa S.pn S.pc, .slice S.ra S.rn S.rc], .slice al nl cl, .slice fa fn fc, .int .i64 by'] W (RetRk W (agR S.sh l fs by') (agE S.sh l fs by')) := by
 have hx1 : Box ((W.alloc (.cells #[.int .i64 S.sh.cs, .int .i64 S.sh.ps, .slice S.la S.ln S.lc, .slice S.ca S.cn S.cc, .slice S.pa S.pn S.pc, .slice S.ra S.rn S.rc] 25)).alloc (.cells #[.slice none 0 0, .slice none 0 0, .slice none 0 0] 35)) W.heap.size #[.int .i64 S.sh.cs, .int .i64 S.sh.ps, .slice S.la S.ln S.lc, .slice S.ca S.cn S.cc, .slice S.pa S.pn S.pc, .slice S.ra S.rn S.rc] 25 := (Box.new W _ _).alloc _
 have hx2 := Box.new (W.alloc (.cells #[.int .i64 S.sh.cs, .int .i64 S.sh.ps, .slice S.la S.ln S.lc, .slice S.ca S.cn S.cc, .slice S.pa S.pn S.pc, .slice S.ra S.rn S.rc] 25)) #[.slice none 0 0, .slice none 0 0, .slice none 0 0] 35
 rw [World.size_alloc] at hx2
 have hbb : Below W.heap.size W ((W.alloc (.cells #[.int .i64 S.sh.cs, .int .i64 S.sh.ps, .slice S.la S.ln S.lc, .slice S.ca S.cn S.cc, .slice S.pa S.pn S.pc, .slice S.ra S.rn S.rc] 25)).alloc (.cells #[.slice none 0 0, .slice none 0 0, .slice none 0 0] 35)) := ((Below.refl _ _).alloc (Nat.le_refl _) _).alloc (by simp) _
 obtain ⟨w0, hw0⟩ : ∃ w0, (W.alloc (.cells #[.int .i64 S.sh.cs, .int .i64 S.sh.ps, .slice S.la S.ln S.lc, .slice S.ca S.cn S.cc, .slice S.pa S.pn S.pc, .slice S.ra S.rn S.rc] 25)).alloc (.cells #[.slice none 0 0, .slice none 0 0, .slice none 0 0] 35) = w0 := ⟨_, rfl⟩
 rw [hw0] at hx1 hx2 hbb
 have HO := Lib.hid (results_any ptC S al nl cl l fa fn fc fs by' w0 (ht.below hbb) (hS.below hbb) (h0.below hbb) (hF.below hbb) hG)
 have HW0 := Lib.hid hw0
 clear hw0
 obtain ⟨d0, d1, d2, d3, d4, d5⟩ := hx1.g6
 have hwW : W.heap.size ≤ W.heap.size + 1 := by omega
 by_cases he : ruE S.sh l fs by' = 0
 rotate_left
 · obtain ⟨E, hE⟩ : ∃ E, ruE S.sh l fs by' = E := ⟨_, rfl⟩
   have HR := Lib.hid (agE_bad he)
   rw [hE] at he HO HR
   have g1 : (E != 0) = true := by simpa using he
   clear hE he
   go_enter Tryz.func13, Tryz.ntmps13
   go_wp2_with fail
   rw [HW0.out]
   go_wp2_with fail
   refine HO.out.mono ?_
   rintro e w1 ⟨v1, rfl, hO1, hB1⟩
   obtain ⟨e0, e1, e2⟩ := (hx2.below hB1).g3
   have f0 := (hx2.below hB1).frozen 0
   have f1 := (hx2.below hB1).frozen 1
   have f2 := (hx2.below hB1).frozen 2
   have l2 := (hx2.below hB1).lt
   go_wp2_with fail
   obtain ⟨y0, y1, y2⟩ := (setR3 (hx2.below hB1) (.slice none 0 0) (.slice none 0 0) (.slice none 0 0)).g3
   refine bodyPost_ret (v := .tuple #[.agg #[.slice none 0 0, .slice none 0 0, .slice none 0 0], .int .i64 E]) (by simp [results, Tryz.results13, go_sem, y0, y1, y2]) rfl ?_
   rw [HR.out.1, HR.out.2]
   exact RetRk.bad (((((hbb.on hB1).setCell hwW _).setCell hwW _).setCell hwW _))
 have HR := Lib.hid (agE_ok he)
 rw [he, (agE_ok he).2.2] at HO
 clear he
 go_enter Tryz.func13, Tryz.ntmps13
 go_wp2_with fail
 rw [HW0.out]
 go_wp2_with fail
 refine HO.out.mono ?_
 rintro e w1 ⟨v1, rfl, hO1, hB1⟩
 obtain ⟨va, vc, rfl, hSL⟩ := hO1.sl encRs_len
 have hb1 := hbb.on hB1
 have HRK := Lib.hid (ranking_any S va (resL fs by' l).length vc (resL fs by' l) w1 (ht.below hb1) (hS.below hb1) hSL h4)
 obtain ⟨d0, d1, d2, d3, d4, d5⟩ := (hx1.below hB1).g6
 have hx2 := hx2.below hB1
 have HSZ := Lib.hid hx2.lt
 obtain ⟨N, hN⟩ : ∃ N, (resL fs by' l).length = N := ⟨_, rfl⟩
 rw [hN] at HRK ⊢
 clear hO1 hSL hB1 hN
 go_wp2_with fail
 refine HRK.out.mono ?_
 rintro e w2 ⟨R, hR, rfl, hRI, hRN, hB2⟩
 have hx2 := hx2.below hB2
 obtain ⟨e0, e1, e2⟩ := hx2.g3
 have f0 := hx2.frozen 0
 have f1 := hx2.frozen 1
 have f2 := hx2.frozen 2
 have l2 := hx2.lt
 have hsz : W.heap.size + 1 < w1.heap.size := HSZ.out
 go_wp2_with fail
 obtain ⟨y0, y1, y2⟩ := (setR3 hx2 (.slice R.ba R.bn R.bc) (.slice R.wa R.wn R.wc) (.slice R.ua R.un R.uc)).g3
 refine bodyPost_ret (v := .tuple #[.agg #[.slice R.ba R.bn R.bc, .slice R.wa R.wn R.wc, .slice R.ua R.un R.uc], .int .i64 (rankE S.sh (resL fs by' l))]) (by simp [results, Tryz.results13, go_sem, y0, y1, y2]) rfl ?_
 rw [HR.out.1, HR.out.2.1]
 exact ⟨R, hR, rfl, ((hRI.setOther hRN hsz _).setOther hRN hsz _).setOther hRN hsz _, ⟨fun q e => Nat.le_trans hb1.size (hRN.1 q e), fun q e => Nat.le_trans hb1.size (hRN.2.1 q e), fun q e => Nat.le_trans hb1.size (hRN.2.2 q e)⟩, (((hb1.on hB2).setCell hwW _).setCell hwW _).setCell hwW _⟩
open Go.RowKit
attribute [local go_sem] Oper.semAt_some
theorem whyN_none {fs : List (Ft Value)} {fr to' : Int} (h : begTo fs fr to' fs.length = []) : whyN fs fr to' = 0 := by
 unfold whyN
 have : fs.findIdx? (begB fr to') = none := by
  rw [List.findIdx?_eq_none_iff]
  intro f hf
  obtain ⟨i, hi, e⟩ := List.getElem_of_mem hf
  refine Bool.eq_false_iff.2 fun hb => ?_
  have : i ∈ begTo fs fr to' fs.length := by
   unfold begTo
   rw [List.mem_filter, List.mem_range]
   refine ⟨hi, ?_⟩
   unfold begI
   rw [List.getElem?_eq_getElem hi, e]; exact hb
  rw [h] at this; cases this
 rw [this]
theorem whyN_some {fs : List (Ft Value)} {fr to' : Int} {k : Nat} (hk : k < fs.length) (h : begTo fs fr to' k = []) (hb : begI fs fr to' k = true) : whyN fs fr to' = k := by
 unfold whyN
 have : fs.findIdx? (begB fr to') = some k := by
  rw [List.findIdx?_eq_some_iff_getElem]
  refine ⟨hk, ?_, fun j hj => ?_⟩
  · unfold begI at hb; rw [List.getElem?_eq_getElem hk] at hb; exact hb
  · refine fun hb2 => ?_
    have : j ∈ begTo fs fr to' k := by
     unfold begTo
     rw [List.mem_filter, List.mem_range]
     refine ⟨hj, ?_⟩
     unfold begI
     rw [List.getElem?_eq_getElem (by omega)]; simpa using hb2
    rw [h] at this; cases this
 rw [this]
theorem KpR.mono {s s' b : Nat} {A B : World} (h : KpR s' b A B) (hs : s ≤ s') : KpR s b A B := ⟨h.1, fun k h1 h2 => h.2 k (by omega) h2⟩
theorem cgTo_step (a b : Rk) (why k : Nat) : cgTo a b why (k + 1) = cgTo a b why k ++ if cgB a b k then [cgAt a b why k] else [] := by
 unfold cgTo
 rw [List.range_succ, List.filter_append, List.map_append]
 by_cases e : cgB a b k <;> simp [e]
theorem cgTo_len (a b : Rk) (why k : Nat) : (cgTo a b why k).length ≤ k := by
 unfold cgTo
 rw [List.length_map]
 refine Nat.le_trans (List.length_filter_le _ _) ?_
 rw [List.length_range]; exact Nat.le_refl _
theorem Ints.kept {w w' : World} {a : Option Addr} {n c b : Nat} {l : List Int} (h : Ints w a n c l) (hk : KpR w.heap.size b w w') (hb : w.heap.size ≤ b) : Ints w' a n c l :=
 ⟨h.len, h.cap, h.mx, fun hn => let ⟨b, o, e, hl⟩ := h.at' hn; ⟨b, o, e, Nat.lt_of_lt_of_le hl hk.1⟩, fun g o e j hj => by
  obtain ⟨b', o', e', hl⟩ := h.at' (by omega)
  rw [e] at e'
  obtain ⟨rfl, rfl⟩ : g = b' ∧ o = o' := by simpa using e'
  exact (World.cell?_of_block (w := w) (hk.2 g hl (by omega))).trans (h.cell g o e j hj)⟩
theorem Sr.In.kept {S : Sr} {w w' : World} {b : Nat} (h : S.In w) (hk : KpR w.heap.size b w w') (hb : w.heap.size ≤ b) : S.In w' :=
 ⟨h.best.kept hk hb, h.worst.kept hk hb, h.und.kept hk (fun B o e hn => by
  obtain ⟨b', o', e', hl⟩ := h.und.at' hn
  rw [e'] at e; injection e with e; injection e with e1 e2; omega)⟩
theorem chE_1 {G : Type} {s : Sh} {l : List Rs} {fs : List (Ft G)} {d e : Int} (h : agE s l fs d ≠ 0) : chE s l fs d e = agE s l fs d ∧ chR s l fs d e = [] := by
 have h1 : chE s l fs d e = agE s l fs d := by unfold chE; rw [if_pos h]
 exact ⟨h1, by unfold chR; rw [if_pos (by rw [h1]; exact h)]⟩
theorem chE_2 {G : Type} {s : Sh} {l : List Rs} {fs : List (Ft G)} {d e : Int} (h : agE s l fs d = 0) (h2 : agE s l fs e ≠ 0) : chE s l fs d e = agE s l fs e ∧ chR s l fs d e = [] := by
 have h1 : chE s l fs d e = agE s l fs e := by unfold chE; rw [if_neg (fun e => e h), if_pos h2]
 exact ⟨h1, by unfold chR; rw [if_pos (by rw [h1]; exact h2)]⟩
theorem chE_3 {G : Type} {s : Sh} {l : List Rs} {fs : List (Ft G)} {d e : Int} (h : agE s l fs d = 0) (h2 : agE s l fs e = 0) (h3 : e < d) : chE s l fs d e = 1 ∧ chR s l fs d e = [] := by
 have h1 : chE s l fs d e = 1 := by unfold chE; rw [if_neg (fun e => e h), if_neg (fun e => e h2), if_pos h3]
 exact ⟨h1, by unfold chR; rw [if_pos (by rw [h1]; decide)]⟩
theorem chE_4 {G : Type} {s : Sh} {l : List Rs} {fs : List (Ft G)} {d e : Int} (h : agE s l fs d = 0) (h2 : agE s l fs e = 0) (h3 : ¬ e < d) : chE s l fs d e = 0 ∧ chR s l fs d e = cgTo (agR s l fs d) (agR s l fs e) (whyN fs d e) s.cs.toNat := by
 have h1 : chE s l fs d e = 0 := by unfold chE; rw [if_neg (fun e => e h), if_neg (fun e => e h2), if_neg h3]
 exact ⟨h1, by unfold chR; rw [if_neg (fun e => e h1)]⟩
def RetCg (W : World) (l : List Cg) (E : Int) (e : Ending) (w' : World) : Prop := ∃ v, e = .returned (.tuple #[v, .int .i64 E]) ∧ OwnSL encCg 6 w' W.heap.size 55 v l ∧ Below W.heap.size W w'
theorem RetCg.bad {W w' : World} {E : Int} (hb : Below W.heap.size W w') : RetCg W [] E (.returned (.tuple #[.slice none 0 0, .int .i64 E])) w' := ⟨_, rfl, OwnSL.nil _ _ _ _ _, hb⟩
theorem agR_len {G : Type} {s : Sh} {l : List Rs} {fs : List (Ft G)} {d : Int} (h : agE s l fs d = 0) : (agR s l fs d).best.length = s.cs.toNat ∧ (agR s l fs d).worst.length = s.cs.toNat ∧ 1 ≤ s.cs := by
 by_cases h1 : ruE s l fs d = 0
 · obtain ⟨e1, e2, _⟩ := agE_ok h1
   rw [e1] at h
   rw [e2]
   obtain ⟨x, _, _, _, _, _, _, _, hc⟩ := rankR_ok h
   exact ⟨(rankR_len h).1, (rankR_len h).2, hc⟩
 · rw [(agE_bad h1).1] at h; exact absurd h h1
theorem new6 (w : World) (a b c d e f : Value) (t : TypeId) : ∀ j u, [a, b, c, d, e, f][j]? = some u → (w.alloc (.cells #[a, b, c, d, e, f] t)).cell? (Addr.add ⟨w.heap.size, 0, none⟩ j) = some u := by
 intro j u hu
 have hb := Box.new w #[a, b, c, d, e, f] t
 have hj := (List.getElem?_eq_some_iff.1 hu).1
 have e : (Addr.add ⟨w.heap.size, 0, none⟩ j) = ⟨w.heap.size, j, none⟩ := by
  simp only [Addr.add]
  split
  · rename_i h0; rw [h0]
  · rw [Nat.zero_add]
 rw [e, hb.cell j]; simpa using hu
theorem info_cg : (Tryz.prog.info? 55).map (fun i => (i.zero, i.size, i.bytes)) = some (some (.agg #[.int .i64 0, .int .i64 0, .int .i64 0, .int .i64 0, .int .i64 0, .int .i64 0]), 6, 48) := by kernel_rfl
theorem cgB_eq (a b : Rk) (k : Nat) {p1 p2 q1 q2 : Int} (h1 : a.best[k]? = some p1) (h2 : a.worst[k]? = some p2) (h3 : b.best[k]? = some q1) (h4 : b.worst[k]? = some q2) (why : Nat) : cgB a b k = !decide (p1 = q1 ∧ p2 = q2) ∧ cgAt a b why k = ⟨k, p1, p2, q1, q2, why⟩ := by
 have e : ∀ {l : List Int} {x : Int}, l[k]? = some x → l.getD k 0 = x := fun h => by rw [List.getD_eq_getElem?_getD, h]; rfl
 constructor
 · unfold cgB
   rw [e h1, e h2, e h3, e h4, Bool.eq_iff_iff]
   by_cases c1 : p1 = q1 <;> by_cases c2 : p2 = q2 <;> simp [c1, c2]
 · unfold cgAt
   rw [e h1, e h2, e h3, e h4]
theorem wp_range_cntB {Q : Exit → Act → World → Prop} {a : Act} {w : World} {assign body : Code} {g : Operand} (b : Nat) (t s : Tmp) (fa : Option Addr) (fn fc : Nat) (fs : List (Ft Value)) (fr to' : Int) (B1 B2 B3 Bw : Nat)
 (hg : a.eval g = .func (.func 50) #[] #[.pointer (some ⟨B1, 0, none⟩), .pointer (some ⟨B2, 0, none⟩), .pointer (some ⟨B3, 0, none⟩)])
 (hx1 : Box w B1 #[.slice fa fn fc] 27) (hx2 : Box w B2 #[.int .i64 fr] 3) (hx3 : Box w B3 #[.int .i64 to'] 3)
 (hS : SL encFt 5 w fa fn fc fs) (hG : GrOk fs) (hn1 : B1 ≠ Bw) (hn2 : B2 ≠ Bw) (hn3 : B3 ≠ Bw) (hfa : ∀ B o, fa = some ⟨B, o, none⟩ → 0 < fn → B < w.heap.size ∧ B ≠ Bw)
 (I Ie : List (Fin fn) → World → Prop) (R : World → Prop) (hI : OwnFrom w.heap.size I) (hIe : OwnFrom w.heap.size Ie) (h0 : I [] w)
 (hassign : ∀ (l : Nat) (x : Fin fn) (W : World) (K : Act → World → Prop), K { tmps := (a.tmps.setIfInBounds t (.int .i64 (x.val : Int))).setIfInBounds s (.int .i64 (x.val : Int)), defers := [] } W →
  assign.wpIn (Fence.wide.inRound l) 4 Tryz.prog (Exit.then K (fun _ _ _ => False)) { tmps := a.tmps.setIfInBounds t (.int .i64 (x.val : Int)), defers := [] } W)
 (hbody : ∀ (l : Nat) (pre : List (Fin fn)) (x : Fin fn) (W : World), I pre W → pre.length < fn →
  body.wpIn (Fence.wide.inRound l) 4 Tryz.prog (ownPostG w.heap.size (KpR w.heap.size Bw) I (fun c pre W => c = .exit b ∧ Ie pre W) (pre ++ [x]) W) { tmps := (a.tmps.setIfInBounds t (.int .i64 (x.val : Int))).setIfInBounds s (.int .i64 (x.val : Int)), defers := [] } W)
 (hR1 : ∀ (xs : List (Fin fn)) (W : World), xs.map Fin.val = begTo fs fr to' fn → I xs W → R W)
 (hR2 : ∀ (k : Nat) (pre : List (Fin fn)) (W : World), k < fn → begI fs fr to' k = true → pre.map Fin.val = begTo fs fr to' k ++ [k] → Ie pre W → R W)
 (hK : ∀ (D : Nat) (W : World), w.heap.size ≤ D → R W → W.heap[D]? = some (.deferred (some [])) → Q .normal { a with defers := { target := .collected D, args := #[] } :: a.defers } W) :
 (Code.rangeFunc g #[t] assign body).wp Tryz.prog (Exit.inBlock b Q) a w := by
 refine wp_range_cnt t s fa fn fc fs fr to' B1 B2 B3 Bw hg hx1 hx2 hx3 hS hG hn1 hn2 hn3 hfa I (fun c pre W => c = .exit b ∧ Ie pre W) hI (fun c pre X Y row h hg hr => ⟨h.1, hIe pre X Y row h.2 hg hr⟩) h0 hassign hbody ?_ ?_
 · intro D xs W hD he hi hd
   exact hK D W hD (hR1 xs W he hi) hd
 · rintro D c k pre W hD hk hb he ⟨rfl, hi⟩ hd
   refine wpIn_wide.2 (wp_exit ?_)
   simp only [Exit.inBlock, if_pos]
   exact hK D W hD (hR2 k pre W hk hb he hi) hd
end Go.Proofs.YtehoidohallfcaaGreatDoor
