/- The references' faults that count, the first that begins, the check of faults. -/
import Derived.Test.YtehoidohallfcaaGreatDoorRdHx
import Derived.Test.YtehoidohallfcaaGreatDoorSaX
namespace Go.Proofs.YtehoidohallfcaaGreatDoor
open Go.RowKit
attribute [local go_sem] Oper.semAt_some
theorem why_at {fs : List (Ft Value)} {fr to' : Int} {k : Nat} {f : Ft Value} (h : ∀ j g, j < k → fs[j]? = some g → begB fr to' g = false) (hf : fs[k]? = some f) (hb : begB fr to' f = true) : whyN fs fr to' = k := by
 obtain ⟨hk, e⟩ := List.getElem?_eq_some_iff.1 hf
 have : fs.findIdx? (begB fr to') = some k := by
  rw [List.findIdx?_eq_some_iff_getElem]
  refine ⟨hk, by rw [e]; exact hb, fun j hj => ?_⟩
  rw [h j fs[j] hj (List.getElem?_eq_getElem (by omega))]
  decide
 unfold whyN
 rw [this]
theorem why_no {fs : List (Ft Value)} {fr to' : Int} (h : ∀ j g, j < fs.length → fs[j]? = some g → begB fr to' g = false) : whyN fs fr to' = 0 := by
 have : fs.findIdx? (begB fr to') = none := by
  rw [List.findIdx?_eq_none_iff]
  intro f hf
  obtain ⟨j, hj, e⟩ := List.mem_iff_getElem.1 hf
  exact h j f hj (by rw [← e]; exact List.getElem?_eq_getElem hj)
 unfold whyN
 rw [this]
set_option maxRecDepth 20000 in
set_option maxHeartbeats 4000000 in
theorem rreason_any (fa : Option Addr) (fn fc : Nat) (fs : List (Ft Value)) (fr to' : Int) (W : World) (hF : SL encFt 5 W fa fn fc fs) :
 Calls Tryz.prog 38 #[.slice fa fn fc, .int .i64 fr, .int .i64 to'] W fun e w' => e = .returned (.int .i64 (whyN fs fr to' : Int)) ∧ w' = W := by
 have HL := Lib.hid hF.len
 have mF := hF.mx
 have cF := hF.cap
 unfold maxLen at mF
 go_enter Tryz.func38, Tryz.ntmps38
 go_wp2_with fail
 go_loop [7] (fun i => ∃ k : Nat, i = .int .i64 k ∧ k ≤ fn ∧ Hid (∀ j g, j < k → fs[j]? = some g → begB fr to' g = false)) (fun i => fn - (intOf i).toNat)
 case atStart => exact ⟨0, rfl, by omega, Lib.hid (fun j g hj => by omega)⟩
 case round =>
  obtain ⟨k, rfl, hk, HA⟩ := hrel
  have s0 : (0 : Int) ≤ (k : Int) := by omega
  by_cases hlt : k < fn
  rotate_left
  · obtain rfl : fn = k := by omega
    have HR : Hid (whyN fs fr to' = 0) := Lib.hid (why_no (fun j g hj hg => HA.out j g (by rw [HL.out] at hj; exact hj) hg))
    go_wp2_with fail
    go_ret
    exact ⟨by rw [HR.out]; rfl, rfl⟩
  have s1 : (k : Int) < (fn : Int) := by omega
  obtain ⟨b, o, rfl, hb⟩ := hF.at' (by omega)
  obtain ⟨f, hf⟩ := hF.get hlt
  obtain ⟨-, e1, -, e3, -⟩ := hF.ft5 hf
  have HFK := Lib.hid hf
  clear hf
  by_cases c1 : f.kd = 3
  · have n1 : (f.kd != 3) = false := by simpa using c1
    have HN : Hid (∀ j g, j < k + 1 → fs[j]? = some g → begB fr to' g = false) := Lib.hid fun j g hj hg => by
     by_cases e : j = k
     · subst e; rw [HFK.out] at hg; injection hg with hg; subst hg
       unfold begB
       simp only [Bool.and_eq_false_iff, decide_eq_false_iff_not]
       omega
     · exact HA.out j g (by omega) hg
    go_wp2_with fail
    go_round
    case rel => exact ⟨k + 1, by go_num, by omega, HN⟩
    case measure => simp [intOf]; omega
  have n1 : (f.kd != 3) = true := by simpa using c1
  by_cases c2 : fr < f.dy
  rotate_left
  · have n2 : decide (fr < f.dy) = false := by simpa using c2
    have HN : Hid (∀ j g, j < k + 1 → fs[j]? = some g → begB fr to' g = false) := Lib.hid fun j g hj hg => by
     by_cases e : j = k
     · subst e; rw [HFK.out] at hg; injection hg with hg; subst hg
       unfold begB
       simp only [Bool.and_eq_false_iff, decide_eq_false_iff_not]
       omega
     · exact HA.out j g (by omega) hg
    go_wp2_with fail
    go_round
    case rel => exact ⟨k + 1, by go_num, by omega, HN⟩
    case measure => simp [intOf]; omega
  have n2 : decide (fr < f.dy) = true := by simpa using c2
  by_cases c3 : f.dy ≤ to'
  rotate_left
  · have n3 : decide (f.dy ≤ to') = false := by simpa using c3
    have HN : Hid (∀ j g, j < k + 1 → fs[j]? = some g → begB fr to' g = false) := Lib.hid fun j g hj hg => by
     by_cases e : j = k
     · subst e; rw [HFK.out] at hg; injection hg with hg; subst hg
       unfold begB
       simp only [Bool.and_eq_false_iff, decide_eq_false_iff_not]
       omega
     · exact HA.out j g (by omega) hg
    go_wp2_with fail
    go_round
    case rel => exact ⟨k + 1, by go_num, by omega, HN⟩
    case measure => simp [intOf]; omega
  have n3 : decide (f.dy ≤ to') = true := by simpa using c3
  have HR : Hid (whyN fs fr to' = k) := Lib.hid (why_at HA.out HFK.out (by unfold begB; simp [c1, c2, c3]))
  go_wp2_with fail
  go_ret
  exact ⟨by rw [HR.out]; rfl, rfl⟩
set_option maxRecDepth 20000 in
set_option maxHeartbeats 4000000 in
theorem rfaulty_any (fa : Option Addr) (fn fc : Nat) (fs : List (Ft Value)) (p by' : Int) (W : World) (hF : SL encFt 5 W fa fn fc fs) (hG : GrOk fs) (hd : ∀ f ∈ fs, 0 ≤ f.dy) :
 Calls Tryz.prog 35 #[.slice fa fn fc, .int .i64 p, .int .i64 by'] W fun e w' => RetB W (.bool (fltB fs p by')) e w' := by
 have HL := Lib.hid hF.len
 have mF := hF.mx
 have cF := hF.cap
 unfold maxLen at mF
 have HD := Lib.hid hd
 clear hd
 go_enter Tryz.func35, Tryz.ntmps35
 go_wp2_with fail
 go_loopw [7] (fun i wr => ∃ k : Nat, i = .int .i64 k ∧ k ≤ fn ∧ Hid (∀ j g, j < k → fs[j]? = some g → (decide (g.pz = p) && begB (-1) by' g) = false) ∧ Below W.heap.size W wr) (fun i _ => fn - (intOf i).toNat)
 case atStart => exact ⟨0, rfl, by omega, Lib.hid (fun j g hj => by omega), Below.refl _ _⟩
 case round =>
  obtain ⟨k, rfl, hk, HA, hB⟩ := hrel
  have s0 : (0 : Int) ≤ (k : Int) := by omega
  by_cases hlt : k < fn
  rotate_left
  · obtain rfl : fn = k := by omega
    have HR : Hid (fltB fs p by' = false) := Lib.hid (by
     unfold fltB
     rw [List.any_eq_false]
     intro f hf
     obtain ⟨j, hj, e⟩ := List.mem_iff_getElem.1 hf
     rw [HL.out] at hj
     rw [HA.out j f hj (by rw [← e]; exact List.getElem?_eq_getElem _)]
     decide)
    go_wp2_with fail
    go_ret
    exact ⟨by rw [HR.out]; rfl, hB⟩
  have s1 : (k : Int) < (fn : Int) := by omega
  obtain ⟨b, o, rfl, hb⟩ := hF.at' (by omega)
  obtain ⟨f, hf⟩ := hF.get hlt
  obtain ⟨e0, e1, e2, e3, e4⟩ := (hF.below hB).ft5 hf
  obtain ⟨ga, gn, gc, hgx⟩ := hG f (List.mem_of_getElem? hf)
  rw [hgx] at e4
  have hdy := HD.out f (List.mem_of_getElem? hf)
  obtain ⟨q0, q1, q2, q3, q4⟩ := (Box.new wr #[.int .i64 f.pz, .int .i64 f.kd, .int .i64 f.un, .int .i64 f.dy, .slice ga gn gc] 48).g5
  have HBn := Lib.hid (hB.on ((Below.refl wr.heap.size wr).alloc (Nat.le_refl _) (.cells #[.int .i64 f.pz, .int .i64 f.kd, .int .i64 f.un, .int .i64 f.dy, .slice ga gn gc] 48)))
  have HFK := Lib.hid hf
  clear hf hgx hB
  by_cases c0 : f.pz = p
  rotate_left
  · have n0 : (f.pz == p) = false := by simpa using c0
    have HN : Hid (∀ j g, j < k + 1 → fs[j]? = some g → (decide (g.pz = p) && begB (-1) by' g) = false) := Lib.hid fun j g hj hg => by
     by_cases e : j = k
     · subst e; rw [HFK.out] at hg; injection hg with hg; subst hg
       unfold begB
       simp only [Bool.and_eq_false_iff, decide_eq_false_iff_not]
       omega
     · exact HA.out j g (by omega) hg
    clear c0
    go_wp2_with fail
    go_roundw
    case rel => exact ⟨k + 1, by go_num, by omega, HN, HBn.out⟩
    case measure => simp [intOf]; omega
  have n0 : (f.pz == p) = true := by simpa using c0
  by_cases c1 : f.kd = 3
  · have n1 : (f.kd != 3) = false := by simpa using c1
    have HN : Hid (∀ j g, j < k + 1 → fs[j]? = some g → (decide (g.pz = p) && begB (-1) by' g) = false) := Lib.hid fun j g hj hg => by
     by_cases e : j = k
     · subst e; rw [HFK.out] at hg; injection hg with hg; subst hg
       unfold begB
       simp only [Bool.and_eq_false_iff, decide_eq_false_iff_not]
       omega
     · exact HA.out j g (by omega) hg
    clear c0 c1
    go_wp2_with fail
    go_roundw
    case rel => exact ⟨k + 1, by go_num, by omega, HN, HBn.out⟩
    case measure => simp [intOf]; omega
  have n1 : (f.kd != 3) = true := by simpa using c1
  by_cases c3 : f.dy ≤ by'
  rotate_left
  · have n3 : decide (f.dy ≤ by') = false := by simpa using c3
    have HN : Hid (∀ j g, j < k + 1 → fs[j]? = some g → (decide (g.pz = p) && begB (-1) by' g) = false) := Lib.hid fun j g hj hg => by
     by_cases e : j = k
     · subst e; rw [HFK.out] at hg; injection hg with hg; subst hg
       unfold begB
       simp only [Bool.and_eq_false_iff, decide_eq_false_iff_not]
       omega
     · exact HA.out j g (by omega) hg
    clear c0 c1 c3
    go_wp2_with fail
    go_roundw
    case rel => exact ⟨k + 1, by go_num, by omega, HN, HBn.out⟩
    case measure => simp [intOf]; omega
  have n3 : decide (f.dy ≤ by') = true := by simpa using c3
  have HR : Hid (fltB fs p by' = true) := Lib.hid (by
   unfold fltB
   rw [List.any_eq_true]
   refine ⟨f, List.mem_of_getElem? HFK.out, ?_⟩
   unfold begB
   simp only [Bool.and_eq_true, decide_eq_true_eq]
   exact ⟨c0, ⟨c1, by omega⟩, c3⟩)
  clear c0 c1 c3
  go_wp2_with fail
  go_ret
  exact ⟨by rw [HR.out]; rfl, HBn.out⟩
open Go.RowKit
attribute [local go_sem] Oper.semAt_some
section
variable {s : Sh} {l : List Rs} {fs : List (Ft Value)} {d : Int}
theorem ru_1 (h : rkE s l ≠ 0) : ruE s l fs d = rkE s l := by unfold ruE; rw [if_pos h]
theorem ru_2 (h : rkE s l = 0) (h2 : 16 < fs.length) : ruE s l fs d = 2 := by unfold ruE; rw [if_neg (fun x => x h), if_pos h2]
theorem ru_3 (h : rkE s l = 0) (h2 : ¬ 16 < fs.length) {k : Nat} {f : Ft Value} (hf : fs[k]? = some f) (hb : okFt s f = false) : ruE s l fs d = 540 := by
 unfold ruE
 rw [if_neg (fun x => x h), if_neg h2, if_neg]
 intro h4
 have := List.all_eq_true.1 h4 f (List.mem_of_getElem? hf)
 rw [hb] at this; cases this
theorem ru_4 (h : rkE s l = 0) (h2 : ¬ 16 < fs.length) (h3 : ∀ k f, k < fs.length → fs[k]? = some f → okFt s f = true) : ruE s l fs d = if okDay d then 0 else 1 := by
 unfold ruE
 rw [if_neg (fun x => x h), if_neg h2, if_pos]
 rw [List.all_eq_true]
 intro f hf
 obtain ⟨k, hk, e⟩ := List.mem_iff_getElem.1 hf
 exact h3 k f hk (by rw [← e]; exact List.getElem?_eq_getElem hk)
end
set_option maxRecDepth 20000 in
set_option maxHeartbeats 4000000 in
theorem rvalid_any (hpt : RPtC) (S : Sp) (al : Option Addr) (nl cl : Nat) (l : List Rs) (fa : Option Addr) (fn fc : Nat) (fs : List (Ft Value)) (d : Int) (W : World) (hS : S.In W) (h0 : SL encRs 6 W al nl cl l) (hF : SL encFt 5 W fa fn fc fs) (hG : GrOk fs) (hpn : S.pn ≤ 30) (hwr : WdR S.sh.pg) :
 Calls Tryz.prog 34 #[.agg #[.int .i64 S.sh.cs, .int .i64 S.sh.ps, .slice S.la S.ln S.lc, .slice S.ca S.cn S.cc, .slice S.pa S.pn S.pc, .slice S.ra S.rn S.rc], .slice al nl cl, .slice fa fn fc, .int .i64 d] W fun e w' => RetB W (.int .i64 (ruE S.sh l fs d)) e w' := by
 have hx1 := Box.new W #[.int .i64 S.sh.cs, .int .i64 S.sh.ps, .slice S.la S.ln S.lc, .slice S.ca S.cn S.cc, .slice S.pa S.pn S.pc, .slice S.ra S.rn S.rc] 25
 have hbb : Below W.heap.size W (W.alloc (.cells #[.int .i64 S.sh.cs, .int .i64 S.sh.ps, .slice S.la S.ln S.lc, .slice S.ca S.cn S.cc, .slice S.pa S.pn S.pc, .slice S.ra S.rn S.rc] 25)) := (Below.refl _ _).alloc (Nat.le_refl _) _
 obtain ⟨w0, hw0⟩ : ∃ w0, W.alloc (.cells #[.int .i64 S.sh.cs, .int .i64 S.sh.ps, .slice S.la S.ln S.lc, .slice S.ca S.cn S.cc, .slice S.pa S.pn S.pc, .slice S.ra S.rn S.rc] 25) = w0 := ⟨_, rfl⟩
 rw [hw0] at hx1 hbb
 have HW0 := Lib.hid hw0
 have HFL := Lib.hid hF.len
 have HCK := Lib.hid (rcheck53_any hpt S al nl cl l w0 (hS.below hbb) (h0.below hbb) hpn hwr)
 clear hw0
 obtain ⟨E, hE⟩ : ∃ E, rkE S.sh l = E := ⟨_, rfl⟩
 rw [hE] at HCK
 by_cases c1 : E = 0
 rotate_left
 · have g1 : (E != 0) = true := by simpa using c1
   have HR : Hid (ruE S.sh l fs d = E) := Lib.hid (by rw [ru_1 (by rw [hE]; exact c1), hE])
   clear hE c1
   obtain ⟨d0, d1, d2, d3, d4, d5⟩ := hx1.g6
   go_enter Tryz.func34, Tryz.ntmps34
   go_wp2_with fail
   rw [HW0.out]
   go_wp2_with fail
   refine HCK.out.mono ?_
   rintro e w1 ⟨rfl, hB1⟩
   have hx1 := hx1.below hB1
   have hbb := hbb.on hB1
   clear d0 d1 d2 d3 d4 d5 hB1 HCK
   go_wp2_with fail
   go_ret
   exact ⟨by rw [HR.out]; rfl, hbb⟩
 subst c1
 have HE := Lib.hid hE
 clear hE
 by_cases c2 : 16 < fn
 · have n1 : decide ((16 : Int) < (fn : Int)) = true := by simp; omega
   have n2 : decide (16 < fn) = true := by simpa using c2
   have HR : Hid (ruE S.sh l fs d = 2) := Lib.hid (ru_2 HE.out (by rw [HFL.out]; exact c2))
   obtain ⟨d0, d1, d2, d3, d4, d5⟩ := hx1.g6
   go_enter Tryz.func34, Tryz.ntmps34
   go_wp2_with fail
   rw [HW0.out]
   go_wp2_with fail
   refine HCK.out.mono ?_
   rintro e w1 ⟨rfl, hB1⟩
   have hx1 := hx1.below hB1
   have hbb := hbb.on hB1
   clear d0 d1 d2 d3 d4 d5 hB1 HCK
   go_wp2_with fail
   go_ret
   exact ⟨by rw [HR.out]; rfl, hbb⟩
 have n1 : decide ((16 : Int) < (fn : Int)) = false := by simp; omega
 have n2 : decide (16 < fn) = false := by simpa using c2
 have HC2 : Hid (¬ 16 < fs.length) := Lib.hid (by rw [HFL.out]; exact c2)
 obtain ⟨d0, d1, d2, d3, d4, d5⟩ := hx1.g6
 go_enter Tryz.func34, Tryz.ntmps34
 go_wp2_with fail
 rw [HW0.out]
 go_wp2_with fail
 refine HCK.out.mono ?_
 rintro e w1 ⟨rfl, hB1⟩
 have hx1 := hx1.below hB1
 have hbb := hbb.on hB1
 clear d0 d1 d2 d3 d4 d5 hB1 HCK
 have HX1 := Lib.hid hx1
 have HBB := Lib.hid hbb
 have mF := hF.mx
 have cF := hF.cap
 unfold maxLen at mF
 clear hx1 hbb
 go_wp2_with fail
 go_loopw [10] (fun i wr => ∃ k : Nat, i = .int .i64 k ∧ k ≤ fn ∧ Hid (∀ j f, j < k → fs[j]? = some f → okFt S.sh f = true) ∧ Below w1.heap.size w1 wr) (fun i _ => fn - (intOf i).toNat)
 case atStart => exact ⟨0, rfl, by omega, Lib.hid (fun j f hj => by omega), Below.refl _ _⟩
 case round =>
  obtain ⟨k, rfl, hk, HA, hB⟩ := hrel
  have s0 : (0 : Int) ≤ (k : Int) := by omega
  by_cases hlt : k < fn
  rotate_left
  · obtain rfl : fn = k := by omega
    have HR := Lib.hid (ru_4 (d := d) HE.out HC2.out (fun j f hj hf => HA.out j f (by rw [HFL.out] at hj; exact hj) hf))
    have HB := Lib.hid (HBB.out.on hB)
    clear hB
    by_cases e1 : d < 0
    · have m1 : decide (d < 0) = true := by simpa using e1
      have HD : Hid (okDay d = false) := Lib.hid (by unfold okDay; simp; omega)
      go_wp2_with fail
      go_ret
      exact ⟨by rw [HR.out, HD.out]; rfl, HB.out⟩
    have m1 : decide (d < 0) = false := by simpa using e1
    by_cases e2 : 1024 ≤ d
    · have m2 : decide (1024 ≤ d) = true := by simpa using e2
      have HD : Hid (okDay d = false) := Lib.hid (by unfold okDay; simp; omega)
      go_wp2_with fail
      go_ret
      exact ⟨by rw [HR.out, HD.out]; rfl, HB.out⟩
    have m2 : decide (1024 ≤ d) = false := by simpa using e2
    have HD : Hid (okDay d = true) := Lib.hid (by unfold okDay; simp; omega)
    go_wp2_with fail
    go_ret
    exact ⟨by rw [HR.out, HD.out]; rfl, HB.out⟩
  have s1 : (k : Int) < (fn : Int) := by omega
  obtain ⟨b, o, rfl, hb⟩ := hF.at' (by omega)
  obtain ⟨f, hf⟩ := hF.get hlt
  have hBW := HBB.out.on hB
  obtain ⟨e0, e1, e2, e3, e4⟩ := (hF.below hBW).ft5 hf
  obtain ⟨ga, gn, gc, hgx⟩ := hG f (List.mem_of_getElem? hf)
  rw [hgx] at e4
  have hal := (Below.refl wr.heap.size wr).alloc (Nat.le_refl _) (.cells #[.int .i64 f.pz, .int .i64 f.kd, .int .i64 f.un, .int .i64 f.dy, .slice ga gn gc] 48)
  obtain ⟨q0, q1, q2, q3, q4⟩ := (Box.new wr #[.int .i64 f.pz, .int .i64 f.kd, .int .i64 f.un, .int .i64 f.dy, .slice ga gn gc] 48).g5
  obtain ⟨-, d1, -, -, -, -⟩ := ((HX1.out.below hB).below hal).g6
  have hxz := (HX1.out.below hB).lt
  have HBn := Lib.hid (hB.on hal)
  have HBW := Lib.hid (hBW.on hal)
  have HFK := Lib.hid hf
  clear hf hgx hB hBW hal
  by_cases c1 : f.pz < 0
  · have n3 : decide (f.pz < 0) = true := by simpa using c1
    have HR : Hid (ruE S.sh l fs d = 540) := Lib.hid (ru_3 HE.out HC2.out HFK.out (by
     cases h : okFt S.sh f
     · rfl
     · unfold okFt okDay at h
       simp only [Bool.and_eq_true, decide_eq_true_eq] at h
       omega))
    go_wp2_with fail
    go_ret
    exact ⟨by rw [HR.out]; rfl, HBW.out⟩
  have n3 : decide (f.pz < 0) = false := by simpa using c1
  by_cases c3 : S.sh.ps ≤ f.pz
  · have n4 : decide (S.sh.ps ≤ f.pz) = true := by simpa using c3
    have HR : Hid (ruE S.sh l fs d = 540) := Lib.hid (ru_3 HE.out HC2.out HFK.out (by
     cases h : okFt S.sh f
     · rfl
     · unfold okFt okDay at h
       simp only [Bool.and_eq_true, decide_eq_true_eq] at h
       omega))
    go_wp2_with fail
    go_ret
    exact ⟨by rw [HR.out]; rfl, HBW.out⟩
  have n4 : decide (S.sh.ps ≤ f.pz) = false := by simpa using c3
  have HKF := Lib.hid (show f.kd = 1 ∨ f.kd = 2 ∨ f.kd = 3 ∨ (f.kd ≠ 1 ∧ f.kd ≠ 2 ∧ f.kd ≠ 3) by omega)
  by_cases k1 : f.kd = 1
  · have n5 : (f.kd != 1) = false := by simpa using k1
    have HKD : Hid (1 ≤ f.kd ∧ f.kd ≤ 3) := Lib.hid (by omega)
    clear k1
    by_cases c4 : f.dy < 0
    · have n8 : decide (f.dy < 0) = true := by simpa using c4
      have HR : Hid (ruE S.sh l fs d = 540) := Lib.hid (ru_3 HE.out HC2.out HFK.out (by
       cases h : okFt S.sh f
       · rfl
       · unfold okFt okDay at h
         simp only [Bool.and_eq_true, decide_eq_true_eq] at h
         omega))
      go_wp2_with fail
      go_ret
      exact ⟨by rw [HR.out]; rfl, HBW.out⟩
    have n8 : decide (f.dy < 0) = false := by simpa using c4
    by_cases c5 : 1024 ≤ f.dy
    · have n9 : decide (1024 ≤ f.dy) = true := by simpa using c5
      have HR : Hid (ruE S.sh l fs d = 540) := Lib.hid (ru_3 HE.out HC2.out HFK.out (by
       cases h : okFt S.sh f
       · rfl
       · unfold okFt okDay at h
         simp only [Bool.and_eq_true, decide_eq_true_eq] at h
         omega))
      go_wp2_with fail
      go_ret
      exact ⟨by rw [HR.out]; rfl, HBW.out⟩
    have n9 : decide (1024 ≤ f.dy) = false := by simpa using c5
    have HN : Hid (∀ j g, j < k + 1 → fs[j]? = some g → okFt S.sh g = true) := Lib.hid fun j g hj hg => by
     by_cases e : j = k
     · subst e; rw [HFK.out] at hg; injection hg with hg; subst hg
       unfold okFt okDay
       simp only [Bool.and_eq_true, decide_eq_true_eq]
       have := HKD.out
       omega
     · exact HA.out j g (by omega) hg
    go_wp2_with fail
    go_roundw
    case rel => exact ⟨k + 1, by go_num, by omega, HN, HBn.out⟩
    case measure => simp [intOf]; omega
  have n5 : (f.kd != 1) = true := by simpa using k1
  by_cases k2 : f.kd = 2
  · have n6 : (f.kd != 2) = false := by simpa using k2
    have HKD : Hid (1 ≤ f.kd ∧ f.kd ≤ 3) := Lib.hid (by omega)
    clear k1 k2
    by_cases c4 : f.dy < 0
    · have n8 : decide (f.dy < 0) = true := by simpa using c4
      have HR : Hid (ruE S.sh l fs d = 540) := Lib.hid (ru_3 HE.out HC2.out HFK.out (by
       cases h : okFt S.sh f
       · rfl
       · unfold okFt okDay at h
         simp only [Bool.and_eq_true, decide_eq_true_eq] at h
         omega))
      go_wp2_with fail
      go_ret
      exact ⟨by rw [HR.out]; rfl, HBW.out⟩
    have n8 : decide (f.dy < 0) = false := by simpa using c4
    by_cases c5 : 1024 ≤ f.dy
    · have n9 : decide (1024 ≤ f.dy) = true := by simpa using c5
      have HR : Hid (ruE S.sh l fs d = 540) := Lib.hid (ru_3 HE.out HC2.out HFK.out (by
       cases h : okFt S.sh f
       · rfl
       · unfold okFt okDay at h
         simp only [Bool.and_eq_true, decide_eq_true_eq] at h
         omega))
      go_wp2_with fail
      go_ret
      exact ⟨by rw [HR.out]; rfl, HBW.out⟩
    have n9 : decide (1024 ≤ f.dy) = false := by simpa using c5
    have HN : Hid (∀ j g, j < k + 1 → fs[j]? = some g → okFt S.sh g = true) := Lib.hid fun j g hj hg => by
     by_cases e : j = k
     · subst e; rw [HFK.out] at hg; injection hg with hg; subst hg
       unfold okFt okDay
       simp only [Bool.and_eq_true, decide_eq_true_eq]
       have := HKD.out
       omega
     · exact HA.out j g (by omega) hg
    go_wp2_with fail
    go_roundw
    case rel => exact ⟨k + 1, by go_num, by omega, HN, HBn.out⟩
    case measure => simp [intOf]; omega
  have n6 : (f.kd != 2) = true := by simpa using k2
  by_cases k3 : f.kd = 3
  · have n7 : (f.kd != 3) = false := by simpa using k3
    have HKD : Hid (1 ≤ f.kd ∧ f.kd ≤ 3) := Lib.hid (by omega)
    clear k1 k2 k3
    by_cases c4 : f.dy < 0
    · have n8 : decide (f.dy < 0) = true := by simpa using c4
      have HR : Hid (ruE S.sh l fs d = 540) := Lib.hid (ru_3 HE.out HC2.out HFK.out (by
       cases h : okFt S.sh f
       · rfl
       · unfold okFt okDay at h
         simp only [Bool.and_eq_true, decide_eq_true_eq] at h
         omega))
      go_wp2_with fail
      go_ret
      exact ⟨by rw [HR.out]; rfl, HBW.out⟩
    have n8 : decide (f.dy < 0) = false := by simpa using c4
    by_cases c5 : 1024 ≤ f.dy
    · have n9 : decide (1024 ≤ f.dy) = true := by simpa using c5
      have HR : Hid (ruE S.sh l fs d = 540) := Lib.hid (ru_3 HE.out HC2.out HFK.out (by
       cases h : okFt S.sh f
       · rfl
       · unfold okFt okDay at h
         simp only [Bool.and_eq_true, decide_eq_true_eq] at h
         omega))
      go_wp2_with fail
      go_ret
      exact ⟨by rw [HR.out]; rfl, HBW.out⟩
    have n9 : decide (1024 ≤ f.dy) = false := by simpa using c5
    have HN : Hid (∀ j g, j < k + 1 → fs[j]? = some g → okFt S.sh g = true) := Lib.hid fun j g hj hg => by
     by_cases e : j = k
     · subst e; rw [HFK.out] at hg; injection hg with hg; subst hg
       unfold okFt okDay
       simp only [Bool.and_eq_true, decide_eq_true_eq]
       have := HKD.out
       omega
     · exact HA.out j g (by omega) hg
    go_wp2_with fail
    go_roundw
    case rel => exact ⟨k + 1, by go_num, by omega, HN, HBn.out⟩
    case measure => simp [intOf]; omega
  have n7 : (f.kd != 3) = true := by simpa using k3
  have HR : Hid (ruE S.sh l fs d = 540) := Lib.hid (ru_3 HE.out HC2.out HFK.out (by
   cases h : okFt S.sh f
   · rfl
   · unfold okFt okDay at h
     simp only [Bool.and_eq_true, decide_eq_true_eq] at h
     omega))
  go_wp2_with fail
  go_ret
  exact ⟨by rw [HR.out]; rfl, HBW.out⟩
open Go.RowKit
attribute [local go_sem] Oper.semAt_some
theorem resK_step {fs : List (Ft Value)} {d : Int} {l : List Rs} {k : Nat} {x : Rs} (h : l[k]? = some x) : (resL fs d l).take (k + 1) = (resL fs d l).take k ++ [{ x with rt := x.rt && !fltB fs x.pz d }] := takeF (resL_get h)
theorem fts_dy {s : Sh} {l : List Rs} {fs : List (Ft Value)} {d : Int} (h : ruE s l fs d = 0) : ∀ f ∈ fs, 0 ≤ f.dy := fun f hf => by
 unfold ruE at h
 split at h
 · rename_i h1; exact absurd h h1
 · split at h
   · cases h
   · split at h
     · rename_i h3
       have := List.all_eq_true.1 h3 f hf
       unfold okFt okDay at this
       simp only [Bool.and_eq_true, decide_eq_true_eq] at this
       exact this.2.1
     · cases h
theorem size_setC (w : World) (a : Addr) (v : Value) : (w.setCell a v).heap.size = w.heap.size := by simp [World.setCell]
theorem new6s (w : World) (p : Addr) (v a b c d e f : Value) (t : TypeId) : ∀ j u, [a, b, c, d, e, f][j]? = some u → ((w.setCell p v).alloc (.cells #[a, b, c, d, e, f] t)).cell? (Addr.add ⟨w.heap.size, 0, none⟩ j) = some u := by
 intro j u hu
 have hb := Box.new (w.setCell p v) #[a, b, c, d, e, f] t
 rw [size_setC] at hb
 have e : (Addr.add ⟨w.heap.size, 0, none⟩ j) = ⟨w.heap.size, j, none⟩ := by
  simp only [Addr.add]
  split
  · rename_i h0; rw [h0]
  · rw [Nat.zero_add]
 rw [e, hb.cell j]; simpa using hu
set_option maxRecDepth 20000 in
set_option maxHeartbeats 4000000 in
theorem rresults_any (hpt : RPtC) (S : Sp) (al : Option Addr) (nl cl : Nat) (l : List Rs) (fa : Option Addr) (fn fc : Nat) (fs : List (Ft Value)) (d : Int) (W : World) (hS : S.In W) (h0 : SL encRs 6 W al nl cl l) (hF : SL encFt 5 W fa fn fc fs) (hG : GrOk fs) (hpn : S.pn ≤ 30) (hwr : WdR S.sh.pg) (hn : nl ≤ 1000000) :
 Calls Tryz.prog 12 #[.agg #[.int .i64 S.sh.cs, .int .i64 S.sh.ps, .slice S.la S.ln S.lc, .slice S.ca S.cn S.cc, .slice S.pa S.pn S.pc, .slice S.ra S.rn S.rc], .slice al nl cl, .slice fa fn fc, .int .i64 d] W (RetRs W (ruR S.sh l fs d) (ruE S.sh l fs d)) := by
 have hx1 := Box.new W #[.int .i64 S.sh.cs, .int .i64 S.sh.ps, .slice S.la S.ln S.lc, .slice S.ca S.cn S.cc, .slice S.pa S.pn S.pc, .slice S.ra S.rn S.rc] 25
 have hbb : Below W.heap.size W (W.alloc (.cells #[.int .i64 S.sh.cs, .int .i64 S.sh.ps, .slice S.la S.ln S.lc, .slice S.ca S.cn S.cc, .slice S.pa S.pn S.pc, .slice S.ra S.rn S.rc] 25)) := (Below.refl _ _).alloc (Nat.le_refl _) _
 obtain ⟨w0, hw0⟩ : ∃ w0, W.alloc (.cells #[.int .i64 S.sh.cs, .int .i64 S.sh.ps, .slice S.la S.ln S.lc, .slice S.ca S.cn S.cc, .slice S.pa S.pn S.pc, .slice S.ra S.rn S.rc] 25) = w0 := ⟨_, rfl⟩
 rw [hw0] at hx1 hbb
 have HW0 := Lib.hid hw0
 have HL := Lib.hid h0.len
 have HCK := Lib.hid (rvalid_any hpt S al nl cl l fa fn fc fs d w0 (hS.below hbb) (h0.below hbb) (hF.below hbb) hG hpn hwr)
 clear hw0
 obtain ⟨E, hE⟩ : ∃ E, ruE S.sh l fs d = E := ⟨_, rfl⟩
 rw [hE] at HCK ⊢
 have HE := Lib.hid hE
 clear hE
 by_cases c1 : E = 0
 rotate_left
 · have g1 : (E != 0) = true := by simpa using c1
   have HR : Hid (ruR S.sh l fs d = []) := Lib.hid (by unfold ruR; rw [if_pos (by rw [HE.out]; exact c1)])
   clear c1
   obtain ⟨d0, d1, d2, d3, d4, d5⟩ := hx1.g6
   go_enter Tryz.func12, Tryz.ntmps12
   go_wp2_with fail
   rw [HW0.out]
   go_wp2_with fail
   refine HCK.out.mono ?_
   rintro e w1 ⟨rfl, hB1⟩
   have hbb := hbb.on hB1
   clear d0 d1 d2 d3 d4 d5 hB1 HCK hx1
   go_wp2_with fail
   refine bodyPost_ret (v := .tuple #[.slice none 0 0, .int .i64 E]) (by simp [results, Tryz.results12, go_sem]) rfl ?_
   rw [HR.out]
   exact RetRs.bad hbb
 subst c1
 have HR : Hid (ruR S.sh l fs d = resL fs d l) := Lib.hid (ruR_0 HE.out)
 have HDY := Lib.hid (fts_dy HE.out)
 obtain ⟨d0, d1, d2, d3, d4, d5⟩ := hx1.g6
 go_enter Tryz.func12, Tryz.ntmps12
 go_wp2_with fail
 rw [HW0.out]
 go_wp2_with fail
 refine HCK.out.mono ?_
 rintro e w1 ⟨rfl, hB1⟩
 have hbb := hbb.on hB1
 clear d0 d1 d2 d3 d4 d5 hB1 HCK hx1
 have HBB := Lib.hid hbb
 have mL := h0.mx
 have cL := h0.cap
 unfold maxLen at mL
 have HO0 : Hid (OwnSL encRs 6 (w1.alloc (.cells #[] 53)) w1.heap.size 53 (.slice (some ⟨w1.heap.size, 0, none⟩) 0 0) ((resL fs d l).take 0)) := Lib.hid (OwnSL.made0 _ _ _ _ _ (Nat.le_refl _))
 have HB0 : Hid (Below w1.heap.size w1 (w1.alloc (.cells #[] 53))) := Lib.hid ((Below.refl _ _).alloc (Nat.le_refl _) _)
 clear hbb
 go_wp2_with fail
 go_loopw [11, 12] (fun u i wr => ∃ k : Nat, i = .int .i64 k ∧ k ≤ nl ∧ OwnSL encRs 6 wr w1.heap.size 53 u ((resL fs d l).take k) ∧ Below w1.heap.size w1 wr) (fun _ i _ => nl - (intOf i).toNat)
 case atStart => exact ⟨0, rfl, by omega, HO0.out, HB0.out⟩
 case round =>
  clear HO0 HB0
  obtain ⟨k, rfl, hk, hO, hB⟩ := hrel
  have s0 : (0 : Int) ≤ (k : Int) := by omega
  by_cases hlt : k < nl
  rotate_left
  · obtain rfl : nl = k := by omega
    rw [List.take_of_length_le (by rw [resL_len, HL.out]; exact Nat.le_refl _)] at hO
    have HO := Lib.hid hO
    have HB := Lib.hid (HBB.out.on hB)
    have hz := HBB.out.size
    clear hO hB
    go_wp2_with fail
    refine bodyPost_ret (v := .tuple #[u11, .int .i64 0]) (by simp [results, Tryz.results12, go_sem]) rfl ?_
    rw [HR.out]
    exact ⟨_, rfl, HO.out.mono hz, HB.out⟩
  have s1 : (k : Int) < (nl : Int) := by omega
  obtain ⟨b, o, rfl, hb⟩ := h0.at' (by omega)
  obtain ⟨x, hx⟩ := h0.get hlt
  have hBW := HBB.out.on hB
  obtain ⟨e0, e1, e2, e3, e4, e5⟩ := (h0.below hBW).rs6 hx
  have hal := (Below.refl wr.heap.size wr).alloc (Nat.le_refl _) (.cells #[.int .i64 x.cm, .int .i64 x.pz, .int .i64 x.tr, .int .i64 x.lo, .int .i64 x.hi, .bool x.rt] 53)
  have hbx := Box.new wr #[.int .i64 x.cm, .int .i64 x.pz, .int .i64 x.tr, .int .i64 x.lo, .int .i64 x.hi, .bool x.rt] 53
  have hlen : ((resL fs d l).take k).length = k := by rw [List.length_take, resL_len, HL.out]; omega
  have HST := Lib.hid (resK_step (fs := fs) (d := d) hx)
  have hlt2 := hO.lt
  obtain ⟨L, hL⟩ : ∃ L, (resL fs d l).take k = L := ⟨_, rfl⟩
  rw [hL] at hO hlen HST
  obtain ⟨va, vc, rfl, _, _⟩ := own_slice hO
  rw [hlen] at hO hlt2 ⊢
  have hO6 : wr.ownsRow w1.heap.size 53 6 (.slice va k vc) k (L.flatMap encRs) := by unfold OwnSL at hO; rwa [hlen] at hO
  have HLN := Lib.hid hlen
  have HOL := Lib.hid hlt2
  have hsz := hB.size
  have HX := Lib.hid hx
  have hne : (Value.slice va k vc).ownBlock ≠ some wr.heap.size := fun e => by have := (hlt2 _ e).2; omega
  have HO6 := Lib.hid hO6
  have HB := Lib.hid hB
  obtain ⟨i28, hi28, hz280, hz281, hz282⟩ := info_parts info6
  have hkk : k ≤ 1000000 := by omega
  clear hx hL hO hO6 hlen hlt2 hB hBW
  obtain ⟨xr, hxr⟩ : ∃ xr, x.rt = xr := ⟨_, rfl⟩
  rw [hxr] at e5 hbx hal HST
  clear hxr
  cases xr
  · have HS2 : Hid ((resL fs d l).take (k + 1) = L ++ [{ x with rt := false }]) := Lib.hid (by rw [HST.out]; rfl)
    obtain ⟨q0, q1, q2, q3, q4, q5⟩ := hbx.g6
    have f5 := hbx.frozen 5
    have l5 := hbx.lt
    have HOA := Lib.hid ((HO6.out.alloc (.cells #[.int .i64 x.cm, .int .i64 x.pz, .int .i64 x.tr, .int .i64 x.lo, .int .i64 x.hi, .bool false] 53)).alloc (.cells #[.int .i64 x.cm, .int .i64 x.pz, .int .i64 x.tr, .int .i64 x.lo, .int .i64 x.hi, .bool false] 53))
    have HNW := Lib.hid (new6 (wr.alloc (.cells #[.int .i64 x.cm, .int .i64 x.pz, .int .i64 x.tr, .int .i64 x.lo, .int .i64 x.hi, .bool false] 53)) (.int .i64 x.cm) (.int .i64 x.pz) (.int .i64 x.tr) (.int .i64 x.lo) (.int .i64 x.hi) (.bool false) 53)
    rw [World.size_alloc] at HNW
    have HBA := Lib.hid (HB.out.on hal)
    clear hbx hal
    go_wp2_with (at_builtin; (refine wpList_append_any rfl _ _ 26 rfl w1.heap.size 53 i28 _ 6 48 Tryz.underlying26 hi28 hz280 hz281 hz282 rfl (by decide) (.slice va k vc) k (L.flatMap encRs) HOA.out rfl (some ⟨wr.heap.size + 1, 0, none⟩) 1 1 [.int .i64 x.cm, .int .i64 x.pz, .int .i64 x.tr, .int .i64 x.lo, .int .i64 x.hi, .bool false] rfl (fun h => by cases h) rfl (fun ad e => by injection e with e; rw [← e]; exact HNW.out) (by simp [Value.oneCell']) (by unfold maxLen; omega) (by omega) (by simp; omega) ?_); intro v8 w8 hown' hgrow hfr)
    go_roundw
    case rel =>
     refine ⟨k + 1, by go_num, by omega, ?_, (HBA.out.alloc (by simp; omega) _).grown hgrow (by simp; omega) (fun q e => (HOL.out q e).1)⟩
     rw [HS2.out]
     have h9 : w8.ownsRow w1.heap.size 53 6 v8 (L.length + 1) (L.flatMap encRs ++ encRs { x with rt := false }) := by rw [HLN.out]; exact hown'
     exact OwnSL.snoc h9
    case measure => simp [intOf]; omega
  · skip
    obtain ⟨q0, q1, q2, q3, q4, q5⟩ := hbx.g6
    have HFL := Lib.hid (rfaulty_any fa fn fc fs x.pz d (wr.alloc (.cells #[.int .i64 x.cm, .int .i64 x.pz, .int .i64 x.tr, .int .i64 x.lo, .int .i64 x.hi, .bool true] 53)) (hF.below ((HBB.out.on HB.out).on hal)) hG HDY.out)
    obtain ⟨fb, hfb⟩ : ∃ fb, fltB fs x.pz d = fb := ⟨_, rfl⟩
    rw [hfb] at HFL HST
    have HBA := Lib.hid (HB.out.on hal)
    clear hfb hal
    go_wp2_with fail
    refine HFL.out.mono ?_
    rintro e w2 ⟨rfl, hB2⟩
    have hbx2 := hbx.below hB2
    have hs2 := hB2.size
    rw [World.size_alloc] at hs2
    clear q0 q1 q2 q3 q4 q5 hbx HFL
    obtain ⟨q0, q1, q2, q3, q4, q5⟩ := hbx2.g6
    have f5 := hbx2.frozen 5
    have l5 := hbx2.lt
    cases fb
    · skip
      have HS2 : Hid ((resL fs d l).take (k + 1) = L ++ [{ x with rt := true }]) := Lib.hid (by rw [HST.out]; rfl)
      have hbs := hbx2.set 5 (.bool true)
      simp only [s_t, s_z, s_s] at hbs
      obtain ⟨r0, r1, r2, r3, r4, r5⟩ := hbs.g6
      have HOA := Lib.hid ((ownsRow_setCell_other (ownsRow_below' (HO6.out.alloc (.cells #[.int .i64 x.cm, .int .i64 x.pz, .int .i64 x.tr, .int .i64 x.lo, .int .i64 x.hi, .bool true] 53)) hB2) (a := ⟨wr.heap.size, 5, none⟩) hne (.bool true)).alloc (.cells #[.int .i64 x.cm, .int .i64 x.pz, .int .i64 x.tr, .int .i64 x.lo, .int .i64 x.hi, .bool true] 53))
      have HNW := Lib.hid (new6s w2 ⟨wr.heap.size, 5, none⟩ (.bool true) (.int .i64 x.cm) (.int .i64 x.pz) (.int .i64 x.tr) (.int .i64 x.lo) (.int .i64 x.hi) (.bool true) 53)
      have HBC := Lib.hid ((HBA.out.on hB2).setCell (p := ⟨wr.heap.size, 5, none⟩) hsz (.bool true))
      clear hbx2 hbs hB2
      go_wp2_with (at_builtin; (refine wpList_append_any rfl _ _ 26 rfl w1.heap.size 53 i28 _ 6 48 Tryz.underlying26 hi28 hz280 hz281 hz282 rfl (by decide) (.slice va k vc) k (L.flatMap encRs) HOA.out rfl (some ⟨w2.heap.size, 0, none⟩) 1 1 [.int .i64 x.cm, .int .i64 x.pz, .int .i64 x.tr, .int .i64 x.lo, .int .i64 x.hi, .bool true] rfl (fun h => by cases h) rfl (fun ad e => by injection e with e; rw [← e]; exact HNW.out) (by simp [Value.oneCell']) (by unfold maxLen; omega) (by omega) (by simp; omega) ?_); intro v8 w8 hown' hgrow hfr)
      go_roundw
      case rel =>
       refine ⟨k + 1, by go_num, by omega, ?_, (HBC.out.alloc (by simp; omega) _).grown hgrow (by simp; omega) (fun q e => (HOL.out q e).1)⟩
       rw [HS2.out]
       have h9 : w8.ownsRow w1.heap.size 53 6 v8 (L.length + 1) (L.flatMap encRs ++ encRs { x with rt := true }) := by rw [HLN.out]; exact hown'
       exact OwnSL.snoc h9
      case measure => simp [intOf]; omega
    · skip
      have HS2 : Hid ((resL fs d l).take (k + 1) = L ++ [{ x with rt := false }]) := Lib.hid (by rw [HST.out]; rfl)
      have hbs := hbx2.set 5 (.bool false)
      simp only [s_t, s_z, s_s] at hbs
      obtain ⟨r0, r1, r2, r3, r4, r5⟩ := hbs.g6
      have HOA := Lib.hid ((ownsRow_setCell_other (ownsRow_below' (HO6.out.alloc (.cells #[.int .i64 x.cm, .int .i64 x.pz, .int .i64 x.tr, .int .i64 x.lo, .int .i64 x.hi, .bool true] 53)) hB2) (a := ⟨wr.heap.size, 5, none⟩) hne (.bool false)).alloc (.cells #[.int .i64 x.cm, .int .i64 x.pz, .int .i64 x.tr, .int .i64 x.lo, .int .i64 x.hi, .bool false] 53))
      have HNW := Lib.hid (new6s w2 ⟨wr.heap.size, 5, none⟩ (.bool false) (.int .i64 x.cm) (.int .i64 x.pz) (.int .i64 x.tr) (.int .i64 x.lo) (.int .i64 x.hi) (.bool false) 53)
      have HBC := Lib.hid ((HBA.out.on hB2).setCell (p := ⟨wr.heap.size, 5, none⟩) hsz (.bool false))
      clear hbx2 hbs hB2
      go_wp2_with (at_builtin; (refine wpList_append_any rfl _ _ 26 rfl w1.heap.size 53 i28 _ 6 48 Tryz.underlying26 hi28 hz280 hz281 hz282 rfl (by decide) (.slice va k vc) k (L.flatMap encRs) HOA.out rfl (some ⟨w2.heap.size, 0, none⟩) 1 1 [.int .i64 x.cm, .int .i64 x.pz, .int .i64 x.tr, .int .i64 x.lo, .int .i64 x.hi, .bool false] rfl (fun h => by cases h) rfl (fun ad e => by injection e with e; rw [← e]; exact HNW.out) (by simp [Value.oneCell']) (by unfold maxLen; omega) (by omega) (by simp; omega) ?_); intro v8 w8 hown' hgrow hfr)
      go_roundw
      case rel =>
       refine ⟨k + 1, by go_num, by omega, ?_, (HBC.out.alloc (by simp; omega) _).grown hgrow (by simp; omega) (fun q e => (HOL.out q e).1)⟩
       rw [HS2.out]
       have h9 : w8.ownsRow w1.heap.size 53 6 v8 (L.length + 1) (L.flatMap encRs ++ encRs { x with rt := false }) := by rw [HLN.out]; exact hown'
       exact OwnSL.snoc h9
      case measure => simp [intOf]; omega
end Go.Proofs.YtehoidohallfcaaGreatDoor
