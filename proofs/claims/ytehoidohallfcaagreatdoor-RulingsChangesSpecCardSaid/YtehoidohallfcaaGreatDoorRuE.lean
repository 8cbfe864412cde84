/- Contract of rulings.Results. -/
import Derived.Test.YtehoidohallfcaaGreatDoorRuX
import Derived.RecoverIn
namespace Go.Proofs.YtehoidohallfcaaGreatDoor
open Go.RowKit
attribute [local go_sem] Oper.semAt_some
def RetRs (W : World) (l : List Rs) (E : Int) (e : Ending) (w' : World) : Prop := ∃ v, e = .returned (.tuple #[v, .int .i64 E]) ∧ OwnSL encRs 6 w' W.heap.size 53 v l ∧ Below W.heap.size W w'
theorem RetRs.bad {W w' : World} {E : Int} (hb : Below W.heap.size W w') : RetRs W [] E (.returned (.tuple #[.slice none 0 0, .int .i64 E])) w' := ⟨_, rfl, OwnSL.nil _ _ _ _ _, hb⟩
theorem Box.nonC {w w' : World} {B : Nat} {cs : Array Value} {t : TypeId} {row : Option Nat} (h : Box w B cs t) (hg : w.grownBy w' row) (hr : ∀ r, row = some r → ∃ o : Obj, w.heap[r]? = some o ∧ o.isCells = false) : Box w' B cs t :=
 h.grown hg fun e => by
  obtain ⟨o, ho, hc⟩ := hr B e
  have : w.heap[B]? = some (.cells cs t (0, 0)) := h
  rw [this] at ho; injection ho with ho; subst ho; cases hc
theorem OwnSL.nonCell {α : Type} {enc : α → List Value} {k : Nat} {w w' : World} {base : Nat} {e : TypeId} {v : Value} {l : List α} {row : Option Nat} (h : OwnSL enc k w base e v l) (hg : w.grownBy w' row) (hr : ∀ r, row = some r → ∃ o : Obj, w.heap[r]? = some o ∧ o.isCells = false) : OwnSL enc k w' base e v l := by
 refine World.ownsRow.kept h hg ?_
 rcases h.2 with ⟨rfl, _⟩ | ⟨g, cap, cur, rfl, hb, hgb, _⟩
 · exact .inl rfl
 · refine .inr fun e2 => ?_
   obtain ⟨o, ho, hc⟩ := hr g e2.symm
   rw [hgb] at ho; injection ho with ho; subst ho; cases hc
theorem ruE_rk {s : Sh} {l : List Rs} {fs : List (Ft Value)} {d : Int} (h : rkE s l ≠ 0) : ruE s l fs d = rkE s l ∧ ruR s l fs d = [] := by
 have h1 : ruE s l fs d = rkE s l := by unfold ruE; rw [if_pos h]
 exact ⟨h1, by unfold ruR; rw [if_pos (by rw [h1]; exact h)]⟩
theorem ruE_many {s : Sh} {l : List Rs} {fs : List (Ft Value)} {d : Int} (h : rkE s l = 0) (h2 : 16 < fs.length) : ruE s l fs d = 2 ∧ ruR s l fs d = [] := by
 have h1 : ruE s l fs d = 2 := by unfold ruE; rw [if_neg (fun e => e h), if_pos h2]
 exact ⟨h1, by unfold ruR; rw [if_pos (by rw [h1]; decide)]⟩
theorem ruE_bad {s : Sh} {l : List Rs} {fs : List (Ft Value)} {d : Int} (h : rkE s l = 0) (h2 : fs.length ≤ 16) (h3 : fs.all (okFt s) = false) : ruE s l fs d = 540 ∧ ruR s l fs d = [] := by
 have h1 : ruE s l fs d = 540 := by unfold ruE; rw [if_neg (fun e => e h), if_neg (by omega), if_neg (by simp [h3])]
 exact ⟨h1, by unfold ruR; rw [if_pos (by rw [h1]; decide)]⟩
theorem ruE_day {s : Sh} {l : List Rs} {fs : List (Ft Value)} {d : Int} (h : rkE s l = 0) (h2 : fs.length ≤ 16) (h3 : fs.all (okFt s) = true) (h4 : okDay d = false) : ruE s l fs d = 1 ∧ ruR s l fs d = [] := by
 have h1 : ruE s l fs d = 1 := by unfold ruE; rw [if_neg (fun e => e h), if_neg (by omega), if_pos h3, if_neg (by simp [h4])]
 exact ⟨h1, by unfold ruR; rw [if_pos (by rw [h1]; decide)]⟩
theorem ruE_ok {s : Sh} {l : List Rs} {fs : List (Ft Value)} {d : Int} (h : rkE s l = 0) (h2 : fs.length ≤ 16) (h3 : fs.all (okFt s) = true) (h4 : okDay d = true) : ruE s l fs d = 0 ∧ ruR s l fs d = resL fs d l := by
 have h1 : ruE s l fs d = 0 := by unfold ruE; rw [if_neg (fun e => e h), if_neg (by omega), if_pos h3, if_pos h4]
 exact ⟨h1, by unfold ruR; rw [if_neg (fun e => e h1)]⟩
theorem rk_facts {s : Sh} {l : List Rs} (h : rkE s l = 0) : l.length ≤ 32 ∧ okSh s = true ∧ (∀ x ∈ l, okRs s x = true) ∧ s.ps ≤ 8 ∧ 1 ≤ s.ps ∧ 1 ≤ s.cs ∧ s.cs ≤ 8 := by
 unfold rkE at h
 split at h
 · cases h
 · split at h
   · rename_i h2; exact absurd h h2
   · split at h
     · rename_i h1 _ h3
       rw [Bool.and_eq_true] at h3
       have h4 := h3.1
       unfold okSh at h4
       simp only [Bool.and_eq_true, decide_eq_true_eq] at h4
       exact ⟨by omega, h3.1, fun x hx => List.all_eq_true.1 h3.2 x hx, by omega, by omega, by omega, by omega⟩
     · cases h
theorem okRs_pz {s : Sh} {x : Rs} (h : okRs s x = true) : 0 ≤ x.pz ∧ x.pz < s.ps := by
 unfold okRs at h
 simp only [Bool.and_eq_true, decide_eq_true_eq] at h
 omega
theorem okFt_pz {s : Sh} {x : Ft Value} (h : okFt s x = true) : 0 ≤ x.pz ∧ x.pz < s.ps := by
 unfold okFt at h
 simp only [Bool.and_eq_true, decide_eq_true_eq] at h
 omega
theorem any_bad (s : Sh) (fs : List (Ft Value)) : (fs.any fun f => !okFt s f) = !fs.all (okFt s) := by rw [List.not_all_eq_any_not]
theorem run_store_fn (w : World) (o : Obj) (f : Fn) (x y : Array Value) (t : TypeId) : (store ⟨w.heap.size + 1, 0, none⟩ (.func f x y)).run Tryz.prog ((w.alloc o).alloc (.cells #[.nilFunc] t)) = .ok () ((w.alloc o).alloc (.cells #[.func f x y] t)) := by
 have hb := Box.new (w.alloc o) #[.nilFunc] t
 rw [World.size_alloc] at hb
 rw [run_store Tryz.prog _ _ _ _ rfl]
 have h1 := hb.cell 0
 have h2 := hb.frozen 0
 simp only [List.getElem?_toArray, List.getElem?_cons_zero] at h1
 rw [h1, h2]
 have h3 := World.setCell_alloc_new (w := w.alloc o) #[.nilFunc] t 0 (.func f x y)
 rw [World.size_alloc] at h3
 simp only [h3]
 rfl
structure ReI (S : Sp) (fa : Option Addr) (fn fc : Nat) (fs : List (Ft Value)) (W : World) (Bf Bm : Nat) (pre : List Nat) (w : World) : Prop where
 b1 : Box w W.heap.size #[.int .i64 S.sh.cs, .int .i64 S.sh.ps, .slice S.la S.ln S.lc, .slice S.ca S.cn S.cc, .slice S.pa S.pn S.pc, .slice S.ra S.rn S.rc] 25
 b2 : Box w (W.heap.size + 1) #[.slice fa fn fc] 27
 bf : Box w Bf (mkC fs pre) 75
 bm : Box w Bm #[.func (.func 31) #[] #[.pointer (some ⟨Bf, 0, none⟩), .pointer (some ⟨W.heap.size + 1, 0, none⟩)]] 76
 bel : Below W.heap.size W w
theorem ReI.mark {S : Sp} {fa : Option Addr} {fn fc : Nat} {fs : List (Ft Value)} {W : World} {Bf : Nat} {pre : List Nat} {w : World} (h : ReI S fa fn fc fs W Bf (Bf + 1) pre w) {i p : Nat} (hp : p < 8) (hi : pzI fs i = (p : Int)) (hB : W.heap.size + 1 < Bf) : ReI S fa fn fc fs W Bf (Bf + 1) (pre ++ [i]) (w.setCell ⟨Bf, p, none⟩ (.bool true)) :=
 ⟨h.b1.setOther _ (by show W.heap.size ≠ Bf; omega), h.b2.setOther _ (by show W.heap.size + 1 ≠ Bf; omega), by rw [← mkC_set fs pre hp hi]; exact h.bf.set p _, h.bm.setOther _ (by show Bf + 1 ≠ Bf; omega), h.bel.setCell (by show W.heap.size ≤ Bf; omega) _⟩
set_option maxRecDepth 20000 in
set_option maxHeartbeats 8000000 in
theorem results_any (hpt : PtC) (S : Sp) (al : Option Addr) (nl cl : Nat) (l : List Rs) (fa : Option Addr) (fn fc : Nat) (fs : List (Ft Value)) (by' : Int) (W : World) (ht : Tab W) (hS : S.In W) (h0 : SL encRs 6 W al nl cl l) (hF : SL encFt 5 W fa fn fc fs) (hG : GrOk fs) :
 Calls Tryz.prog 11 #[.agg #[.int .i64 S.sh.cs, .int .i64 S.sh.ps, .slice S.la S.ln S.lc, .slice S.ca S.cn S.cc, .slice S.pa S.pn S.pc, .slice S.ra S.rn S.rc], .slice al nl cl, .slice fa fn fc, .int .i64 by'] W (RetRs W (ruR S.sh l fs by') (ruE S.sh l fs by')) := by
 have hx1 : Box ((W.alloc (.cells #[.int .i64 S.sh.cs, .int .i64 S.sh.ps, .slice S.la S.ln S.lc, .slice S.ca S.cn S.cc, .slice S.pa S.pn S.pc, .slice S.ra S.rn S.rc] 25)).alloc (.cells #[.slice fa fn fc] 27)) W.heap.size #[.int .i64 S.sh.cs, .int .i64 S.sh.ps, .slice S.la S.ln S.lc, .slice S.ca S.cn S.cc, .slice S.pa S.pn S.pc, .slice S.ra S.rn S.rc] 25 := (Box.new W _ _).alloc _
 have hx2 := Box.new (W.alloc (.cells #[.int .i64 S.sh.cs, .int .i64 S.sh.ps, .slice S.la S.ln S.lc, .slice S.ca S.cn S.cc, .slice S.pa S.pn S.pc, .slice S.ra S.rn S.rc] 25)) #[.slice fa fn fc] 27
 rw [World.size_alloc] at hx2
 have hbb : Below W.heap.size W ((W.alloc (.cells #[.int .i64 S.sh.cs, .int .i64 S.sh.ps, .slice S.la S.ln S.lc, .slice S.ca S.cn S.cc, .slice S.pa S.pn S.pc, .slice S.ra S.rn S.rc] 25)).alloc (.cells #[.slice fa fn fc] 27)) := ((Below.refl _ _).alloc (Nat.le_refl _) _).alloc (by simp) _
 obtain ⟨w0, hw0⟩ : ∃ w0, (W.alloc (.cells #[.int .i64 S.sh.cs, .int .i64 S.sh.ps, .slice S.la S.ln S.lc, .slice S.ca S.cn S.cc, .slice S.pa S.pn S.pc, .slice S.ra S.rn S.rc] 25)).alloc (.cells #[.slice fa fn fc] 27) = w0 := ⟨_, rfl⟩
 rw [hw0] at hx1 hx2 hbb
 have HCK := Lib.hid (rkCheck_any hpt S al nl cl l w0 (ht.below hbb) (hS.below hbb) (h0.below hbb))
 have HW0 := Lib.hid hw0
 have HL := Lib.hid h0.len
 have HFL := Lib.hid hF.len
 clear hw0
 obtain ⟨d0, d1, d2, d3, d4, d5⟩ := hx1.g6
 have f0 : w0.cell? ⟨W.heap.size + 1, 0, none⟩ = some (.slice fa fn fc) := by simpa using hx2.cell 0
 by_cases he : rkE S.sh l = 0
 rotate_left
 · obtain ⟨E, hE⟩ : ∃ E, rkE S.sh l = E := ⟨_, rfl⟩
   have HR := Lib.hid (ruE_rk (fs := fs) (d := by') he)
   rw [hE] at HR he HCK
   have g1 : (E != 0) = true := by simpa using he
   clear hE he
   refine (callsIn_wide (n := 9)).1 (callsIn_of_wp_marks Tryz.func11 rfl trivial ?_ rfl)
   simp only [Tryz.ntmps11, List.size_toArray, List.length_cons, List.length_nil, Nat.reduceAdd, Nat.reduceSub, Array.replicate_succ, Array.replicate_zero, List.push_toArray, List.append_toArray, List.nil_append, List.cons_append]
   refine wpIn_wide.2 ?_
   go_wp2_with fail
   rw [HW0.out]
   go_wp2_with fail
   refine HCK.out.mono ?_
   rintro e w1 ⟨rfl, hB1⟩
   go_wp2_with fail
   refine ⟨.tuple #[.slice none 0 0, .int .i64 (ruE S.sh l fs by')], by simp [results, Tryz.results11, go_sem, HR.out.1], ?_⟩
   rw [HR.out.2]
   exact RetRs.bad (hbb.on hB1)
 have HE := Lib.hid he
 rw [he] at HCK
 clear he
 by_cases hm : 16 < fn
 · have n1 : decide ((16 : Int) < (fn : Int)) = true := by simp; omega
   have HR := Lib.hid (ruE_many (fs := fs) (d := by') HE.out (by rw [HFL.out]; exact hm))
   clear hm
   refine (callsIn_wide (n := 9)).1 (callsIn_of_wp_marks Tryz.func11 rfl trivial ?_ rfl)
   simp only [Tryz.ntmps11, List.size_toArray, List.length_cons, List.length_nil, Nat.reduceAdd, Nat.reduceSub, Array.replicate_succ, Array.replicate_zero, List.push_toArray, List.append_toArray, List.nil_append, List.cons_append]
   refine wpIn_wide.2 ?_
   go_wp2_with fail
   rw [HW0.out]
   go_wp2_with fail
   refine HCK.out.mono ?_
   rintro e w1 ⟨rfl, hB1⟩
   have f1 : w1.cell? ⟨W.heap.size + 1, 0, none⟩ = some (.slice fa fn fc) := by simpa using (hx2.below hB1).cell 0
   go_wp2_with fail
   refine ⟨.tuple #[.slice none 0 0, .int .i64 (ruE S.sh l fs by')], by simp [results, Tryz.results11, go_sem, HR.out.1], ?_⟩
   rw [HR.out.2]
   exact RetRs.bad (hbb.on hB1)
 have n1 : decide ((16 : Int) < (fn : Int)) = false := by simp; omega
 have hsf := fun (w : World) (o : Obj) (f : Fn) (x y : Array Value) (t : TypeId) => run_store_fn w o f x y t
 have hmf : ∀ (fn : Fn) (first cap : Array Value) (w : World), (Instr.makeFunc fn first cap).run Tryz.prog w = .ok (.func fn first cap) w := fun _ _ _ _ => rfl
 cases ha : fs.all (okFt S.sh)
 · have HR := Lib.hid (ruE_bad (fs := fs) (d := by') HE.out (by rw [HFL.out]; omega) ha)
   have HA := Lib.hid ha
   clear ha
   refine (callsIn_wide (n := 9)).1 (callsIn_of_wp_marks Tryz.func11 rfl trivial ?_ rfl)
   simp only [Tryz.ntmps11, List.size_toArray, List.length_cons, List.length_nil, Nat.reduceAdd, Nat.reduceSub, Array.replicate_succ, Array.replicate_zero, List.push_toArray, List.append_toArray, List.nil_append, List.cons_append]
   refine wpIn_wide.2 ?_
   go_wp2_with fail
   rw [HW0.out]
   go_wp2_with fail
   refine HCK.out.mono ?_
   rintro e w1 ⟨rfl, hB1⟩
   have f1 : w1.cell? ⟨W.heap.size + 1, 0, none⟩ = some (.slice fa fn fc) := by simpa using (hx2.below hB1).cell 0
   have hw1 := hbb.on hB1
   have HC := Lib.hid (ft_contains 28 #[.pointer (some ⟨W.heap.size, 0, none⟩)] fa fn fc fs (fun f => !okFt S.sh f) w1 (enters_of Tryz.func28 (by kernel_rfl) rfl) (hF.below hw1)
    (fun x W' hb => wrongF_any S.sh x _ W' (by simpa using ((hx1.below hB1).below hb).cell 1)))
   rw [any_bad, HA.out] at HC
   clear d0 d1 d2 d3 d4 d5 f0
   go_wp2_with fail
   refine HC.out.mono ?_
   rintro e w2 ⟨rfl, hB2⟩
   clear HC
   go_wp2_with fail
   refine ⟨.tuple #[.slice none 0 0, .int .i64 (ruE S.sh l fs by')], by simp [results, Tryz.results11, go_sem, HR.out.1], ?_⟩
   rw [HR.out.2]
   exact RetRs.bad (hw1.on hB2)
 have HA := Lib.hid ha
 clear ha
 cases hd : okDay by'
 · have HR := Lib.hid (ruE_day (fs := fs) (d := by') HE.out (by rw [HFL.out]; omega) HA.out hd)
   have HDY := Lib.hid hd
   clear hd
   refine (callsIn_wide (n := 9)).1 (callsIn_of_wp_marks Tryz.func11 rfl trivial ?_ rfl)
   simp only [Tryz.ntmps11, List.size_toArray, List.length_cons, List.length_nil, Nat.reduceAdd, Nat.reduceSub, Array.replicate_succ, Array.replicate_zero, List.push_toArray, List.append_toArray, List.nil_append, List.cons_append]
   refine wpIn_wide.2 ?_
   go_wp2_with fail
   rw [HW0.out]
   go_wp2_with fail
   refine HCK.out.mono ?_
   rintro e w1 ⟨rfl, hB1⟩
   have f1 : w1.cell? ⟨W.heap.size + 1, 0, none⟩ = some (.slice fa fn fc) := by simpa using (hx2.below hB1).cell 0
   have hw1 := hbb.on hB1
   have HC := Lib.hid (ft_contains 28 #[.pointer (some ⟨W.heap.size, 0, none⟩)] fa fn fc fs (fun f => !okFt S.sh f) w1 (enters_of Tryz.func28 (by kernel_rfl) rfl) (hF.below hw1)
    (fun x W' hb => wrongF_any S.sh x _ W' (by simpa using ((hx1.below hB1).below hb).cell 1)))
   rw [any_bad, HA.out] at HC
   clear d0 d1 d2 d3 d4 d5 f0
   go_wp2_with fail
   refine HC.out.mono ?_
   rintro e w2 ⟨rfl, hB2⟩
   clear HC
   go_wp2_with fail
   refine (day_any by' _).mono ?_
   rintro e w3 ⟨rfl, rfl⟩
   rw [HDY.out]
   go_wp2_with fail
   refine ⟨.tuple #[.slice none 0 0, .int .i64 (ruE S.sh l fs by')], by simp [results, Tryz.results11, go_sem, HR.out.1], ?_⟩
   rw [HR.out.2]
   exact RetRs.bad (hw1.on hB2)
 have HR := Lib.hid (ruE_ok (fs := fs) (d := by') HE.out (by rw [HFL.out]; omega) HA.out hd)
 have HDY := Lib.hid hd
 clear hd
 refine (callsIn_wide (n := 9)).1 (callsIn_of_wp_marks Tryz.func11 rfl trivial ?_ rfl)
 simp only [Tryz.ntmps11, List.size_toArray, List.length_cons, List.length_nil, Nat.reduceAdd, Nat.reduceSub, Array.replicate_succ, Array.replicate_zero, List.push_toArray, List.append_toArray, List.nil_append, List.cons_append]
 refine wpIn_wide.2 ?_
 go_wp2_with fail
 rw [HW0.out]
 go_wp2_with fail
 refine HCK.out.mono ?_
 rintro e w1 ⟨rfl, hB1⟩
 have f1 : w1.cell? ⟨W.heap.size + 1, 0, none⟩ = some (.slice fa fn fc) := by simpa using (hx2.below hB1).cell 0
 have hw1 := hbb.on hB1
 have HC := Lib.hid (ft_contains 28 #[.pointer (some ⟨W.heap.size, 0, none⟩)] fa fn fc fs (fun f => !okFt S.sh f) w1 (enters_of Tryz.func28 (by kernel_rfl) rfl) (hF.below hw1)
  (fun x W' hb => wrongF_any S.sh x _ W' (by simpa using ((hx1.below hB1).below hb).cell 1)))
 rw [any_bad, HA.out] at HC
 clear d0 d1 d2 d3 d4 d5 f0
 go_wp2_with fail
 refine HC.out.mono ?_
 rintro e w2 ⟨rfl, hB2⟩
 clear HC
 go_wp2_with fail
 refine (day_any by' _).mono ?_
 rintro e w3 ⟨rfl, rfl⟩
 rw [HDY.out]
 have hx1 := (hx1.below hB1).below hB2
 have hx2 := (hx2.below hB1).below hB2
 have hw2 := hw1.on hB2
 have hl2 := hx2.lt
 have hl3 : W.heap.size + 1 < w2.heap.size + 1 := by omega
 have f2 : w2.cell? ⟨W.heap.size + 1, 0, none⟩ = some (.slice fa fn fc) := by simpa using hx2.cell 0
 clear f1 hbb hB1 hw1 hB2
 have hz1 := (hx1.alloc (.cells #[.bool false, .bool false, .bool false, .bool false, .bool false, .bool false, .bool false, .bool false] 75)).alloc (.cells #[.func (.func 31) #[] #[.pointer (some ⟨w2.heap.size, 0, none⟩), .pointer (some ⟨W.heap.size + 1, 0, none⟩)]] 76)
 have hz2 := (hx2.alloc (.cells #[.bool false, .bool false, .bool false, .bool false, .bool false, .bool false, .bool false, .bool false] 75)).alloc (.cells #[.func (.func 31) #[] #[.pointer (some ⟨w2.heap.size, 0, none⟩), .pointer (some ⟨W.heap.size + 1, 0, none⟩)]] 76)
 have hz3 := (Box.new w2 #[.bool false, .bool false, .bool false, .bool false, .bool false, .bool false, .bool false, .bool false] 75).alloc (.cells #[.func (.func 31) #[] #[.pointer (some ⟨w2.heap.size, 0, none⟩), .pointer (some ⟨W.heap.size + 1, 0, none⟩)]] 76)
 have hz4 := Box.new (w2.alloc (.cells #[.bool false, .bool false, .bool false, .bool false, .bool false, .bool false, .bool false, .bool false] 75)) #[.func (.func 31) #[] #[.pointer (some ⟨w2.heap.size, 0, none⟩), .pointer (some ⟨W.heap.size + 1, 0, none⟩)]] 76
 have hz5 : Below W.heap.size W ((w2.alloc (.cells #[.bool false, .bool false, .bool false, .bool false, .bool false, .bool false, .bool false, .bool false] 75)).alloc (.cells #[.func (.func 31) #[] #[.pointer (some ⟨w2.heap.size, 0, none⟩), .pointer (some ⟨W.heap.size + 1, 0, none⟩)]] 76)) := (hw2.alloc hw2.size _).alloc (by have := hw2.size; simp; omega) _
 rw [World.size_alloc] at hz4
 go_wp2_with fail
 refine (counting_any fa fn fc (-1) by' _).mono ?_
 rintro e w4 ⟨rfl, hy1, hy2, hy3, hB4⟩
 have hI4 : ReI S fa fn fc fs W w2.heap.size (w2.heap.size + 1) [] w4 := ⟨hz1.below hB4, hz2.below hB4, by rw [mkC_zero]; exact hz3.below hB4, hz4.below hB4, hz5.on hB4⟩
 simp only [World.size_alloc] at hy1 hy2 hy3 hB4 ⊢
 have hl4 := hy3.lt
 clear hz1 hz2 hz3 hz4 hz5 hx1 hx2 hB4
 have hF4 := hF.below hI4.bel
 have h04 := h0.below hI4.bel
 have HI4 := Lib.hid hI4
 clear hI4
 have hfb : ∀ B o, fa = some ⟨B, o, none⟩ → 0 < fn → B < W.heap.size := fun B o e hn => by
  obtain ⟨b', o', e', hlt⟩ := hF.at' hn
  rw [e'] at e; injection e with e; injection e with e1 e2; omega
 have hw24 := hw2.size
 clear f2
 go_wp2_with fail
 refine wp_range_cnt 36 14 fa fn fc fs (-1) by' (w2.heap.size + 1 + 1) (w2.heap.size + 1 + 1 + 1) (w2.heap.size + 1 + 1 + 1 + 1) w2.heap.size rfl hy1 hy2 hy3 hF4 hG (by omega) (by omega) (by omega) (fun B o e hn => by have := hfb B o e hn; omega) (fun pre w => ReI S fa fn fc fs W w2.heap.size (w2.heap.size + 1) (pre.map Fin.val) w) (fun _ _ _ => False) ?hI ?hIx HI4.out ?hassign ?hbody ?hdone ?hstop
 case hI =>
  rintro pre X Y row ⟨h1, h2, h3, h4, h5⟩ hg hr
  have hr2 := fun r e => (hr r e).2
  exact ⟨Box.nonC h1 hg hr2, Box.nonC h2 hg hr2, Box.nonC h3 hg hr2, Box.nonC h4 hg hr2, h5.grown hg (by have := h5.size; omega) (fun b e => by have := (hr b e).1; omega)⟩
 case hIx => intro c pre X Y row h; exact h.elim
 case hassign =>
  intro li x W2 K hK
  simp only [s_t, s_z, s_s] at hK ⊢
  gi_wp2
  exact hK
 case hbody =>
  intro li pre x W2 hI2 hlen
  obtain ⟨i, hi⟩ := x
  simp only [s_t, s_z, s_s]
  obtain ⟨x, hx⟩ := hF.get hi
  obtain ⟨hp0, hp1⟩ := okFt_pz (List.all_eq_true.1 HA.out x (List.mem_of_getElem? hx))
  obtain ⟨_, _, _, hps, _⟩ := rk_facts HE.out
  obtain ⟨p, hp⟩ : ∃ p : Nat, x.pz = (p : Int) := ⟨x.pz.toNat, by omega⟩
  have hpI : pzI fs i = (p : Int) := by unfold pzI; rw [hx]; exact hp
  have hMK := Lib.hid (mark_any i w2.heap.size (W.heap.size + 1) fa fn fc fs p _ _ W2 hI2.bf (by omega) hpI (by simpa using hI2.b2.cell 0) (hF.below hI2.bel) hi ⟨_, mkC_get _ _ (by omega)⟩)
  have cm : W2.cell? ⟨w2.heap.size + 1, 0, none⟩ = some (.func (.func 31) #[] #[.pointer (some ⟨w2.heap.size, 0, none⟩), .pointer (some ⟨W.heap.size + 1, 0, none⟩)]) := by simpa using hI2.bm.cell 0
  have HI2 := Lib.hid hI2
  have HPI := Lib.hid hpI
  have HP8 : Hid (p < 8) := Lib.hid (by omega)
  clear hI2 hpI hp hp0 hp1 hx hps
  gi_wp2_with (refine ⟨trivial, ?_⟩; gi_at_call 31; refine (CallsIn.inRound li (callsIn_wide.2 hMK.out)).mono ?_; rintro e w7 ⟨rfl, rfl⟩)
  exact ⟨KeepsFrom.of_grownBy (grownBy_setCell _ _ _) (fun j e => by injection e with e; subst e; show w2.heap.size < w4.heap.size; omega), KpR.set _ _ _, by show ReI S fa fn fc fs W _ _ (List.map Fin.val (pre ++ [_])) _; rw [List.map_append]; exact HI2.out.mark HP8.out HPI.out hl2⟩
 case hdone =>
  intro D xs W2 hD hxs hI2 hKD
  simp only [Exit.inBlock, Exit.then]
  rw [hxs, ← HFL.out] at hI2
  have HI2 := Lib.hid hI2
  have hlW := hI2.bf.lt
  have hD2 : D < W2.heap.size := (Array.getElem?_eq_some_iff.1 hKD).1
  have HKD := Lib.hid hKD
  obtain ⟨hl32, _, hrs, hps, _⟩ := rk_facts HE.out
  rw [HL.out] at hl32
  have HRS := Lib.hid hrs
  have hCL := Lib.hid (cloneR_any al nl cl l W2 (h0.below hI2.bel) (by omega))
  clear hxs hI2 hKD hrs HI4 HCK hy1 hy2 hy3 hfb h04 hF4
  go_wp2_with fail
  refine hCL.out.mono ?_
  rintro e w5 ⟨v5, rfl, hO5, hB5⟩
  clear hCL
  have hs5 := hB5.size
  have hv5 : ∃ a c, v5 = .slice a nl c := by
   obtain ⟨a, c, e, _⟩ := own_slice hO5
   exact ⟨a, c, by rw [e, HL.out]⟩
  obtain ⟨va, vc, rfl⟩ := hv5
  have HO5 := Lib.hid hO5
  have HB5 := Lib.hid hB5
  clear hO5 hB5
  go_wp2_with fail
  go_loopw [44] (fun i wr => ∃ k : Nat, i = .int .i64 k ∧ k ≤ nl ∧ OwnSL encRs 6 wr W2.heap.size 53 (.slice va nl vc) (resTo fs by' l k) ∧ Below W2.heap.size W2 wr) (fun i _ => nl - (intOf i).toNat)
  case atStart => exact ⟨0, rfl, by omega, by rw [resTo_zero]; exact HO5.out, HB5.out⟩
  case round =>
   clear HO5 HB5
   obtain ⟨k, rfl, hk, hO, hB⟩ := hrel
   by_cases hlt : k < nl
   rotate_left
   · obtain rfl : nl = k := by omega
     have HO := Lib.hid hO
     have HB := Lib.hid hB
     clear hO hB
     go_wp2_with fail
     refine ⟨by simp, .inl ⟨_, _, rfl, run_takeDeferred ((HB.out.block D hD2).trans HKD.out), ?_⟩⟩
     refine ⟨.tuple #[.slice va nl vc, .int .i64 0], by simp [results, Tryz.results11, go_sem], ?_⟩
     rw [HR.out.1, HR.out.2]
     have hKr := (HB.out.block D hD2).trans HKD.out
     have hgp := grownBy_putObj' wr D (.deferred none)
     have hbw := HI2.out.bel.on HB.out
     refine ⟨_, rfl, ?_, hbw.grown hgp (by have := hbw.size; omega) (fun b e => by injection e with e; subst e; have := hw2.size; omega)⟩
     have h1 := HO.out
     rw [← HL.out, resTo_all, HL.out] at h1
     exact (h1.mono HI2.out.bel.size).nonCell hgp (fun r e => by injection e with e; subst e; exact ⟨_, hKr, rfl⟩)
   obtain ⟨x, hx⟩ : ∃ x, l[k]? = some x := ⟨_, List.getElem?_eq_getElem (by rw [HL.out]; exact hlt)⟩
   have hget := resTo_get (fs := fs) (by' := by') hx
   have hxl := resTo_len fs by' l k
   rw [HL.out] at hxl
   obtain ⟨a', c', e', hSL⟩ := hO.sl encRs_len
   injection e' with ea en ec
   subst ea ec
   rw [hxl] at hSL
   have hO2 := hO
   unfold OwnSL at hO2
   rw [hxl] at hO2
   obtain ⟨vb, rfl, hvb, hvl, hfz⟩ := own_spot hO2 (by omega)
   obtain ⟨e0, e1, e2, e3, e4, e5⟩ := hSL.rs6 hget
   simp only [Nat.zero_add] at e0 e1 e2 e3 e4 e5
   have f5 := hfz (k * 6 + 5)
   obtain ⟨hp0, hp1⟩ := okRs_pz (HRS.out x (List.mem_of_getElem? hx))
   obtain ⟨p, hp⟩ : ∃ p : Nat, x.pz = (p : Int) := ⟨x.pz.toNat, by omega⟩
   have hbf := (HI2.out.bf.below hB).cell p
   rw [mkC_get _ _ (by omega), mkB_all, ← hp] at hbf
   have hnew : Hid (OwnSL encRs 6 (wr.setCell ⟨vb, k * 6 + 5, none⟩ (.bool (x.rt && !fltB fs x.pz by'))) W2.heap.size 53 (.slice (some ⟨vb, 0, none⟩) nl vc) (resTo fs by' l (k + 1))) := Lib.hid (by rw [resTo_step hx]; exact hO.set encRs_len hxl hget (by omega) rfl)
   have hBn : Hid (Below W2.heap.size W2 (wr.setCell ⟨vb, k * 6 + 5, none⟩ (.bool (x.rt && !fltB fs x.pz by')))) := Lib.hid (hB.setCell hvb _)
   have s0 : (0 : Int) ≤ (k : Int) := by omega
   have s1 : (k : Int) < (nl : Int) := by omega
   have s2 : (0 : Int) ≤ (p : Int) := by omega
   have s3 : (p : Int) < 8 := by omega
   have hm0 := hSL.mx
   have hc0 := hSL.cap
   unfold maxLen at hm0
   rw [hp] at e1
   have HP := Lib.hid hp
   clear hO hO2 hSL hget hx hxl hfz hB hp0 hp1 hp hps
   cases hr : x.rt
   · rw [hr] at e5
     rw [hr] at hnew hBn
     simp only [Bool.false_and] at hnew hBn
     clear hr hbf
     go_wp2_with fail
     go_roundw
     case rel => exact ⟨k + 1, by go_num, by omega, hnew.out, hBn.out⟩
     case measure => simp [intOf]; omega
   · rw [hr] at e5
     rw [hr] at hnew hBn
     simp only [Bool.true_and] at hnew hBn
     obtain ⟨q, hq⟩ : ∃ q, fltB fs x.pz by' = q := ⟨_, rfl⟩
     rw [hq] at hbf hnew hBn
     clear hr hq
     go_wp2_with fail
     go_roundw
     case rel => exact ⟨k + 1, by go_num, by omega, hnew.out, hBn.out⟩
     case measure => simp [intOf]; omega
 case hstop => intro D c k pre W2 _ _ _ _ h; exact h.elim
end Go.Proofs.YtehoidohallfcaaGreatDoor
