/- Steps of a region that draws its order, in short words. No program in sight. -/
import Derived.Test.YtehoidohallfcaaGreatDoorKrX
import Derived.Test.YtehoidohallfcaaGreatDoorRdAx
namespace Go.Proofs.YtehoidohallfcaaGreatDoor
open Go.RowKit
theorem PS : (∀ (a : Act) (d : Nat) (v : Value), a.put (some d) v = { a with tmps := a.tmps.setIfInBounds d v }) ∧ (∀ (a : Act) (v : Value), a.put none v = a) ∧ (∀ (l : List Value) (i : Nat) (v : Value), l.toArray.setIfInBounds i v = (l.set i v).toArray) ∧ (∀ (l : List Value) (x v : Value), (x :: l).set 0 v = v :: l) ∧ (∀ (l : List Value) (x v : Value) (i : Nat), (x :: l).set (i + 1) v = x :: l.set i v) ∧ (∀ (l : List Value) (i : Nat) (h : i < l.toArray.size), l.toArray[i] = l[i]'(by simpa using h)) ∧ (∀ (l : List Value) (x : Value) (h : 0 < (x :: l).length), (x :: l)[0] = x) ∧ (∀ (l : List Value) (x : Value) (i : Nat) (h : i + 1 < (x :: l).length), (x :: l)[i + 1] = l[i]'(by simpa using h)) :=
 ⟨fun _ _ _ => rfl, fun _ _ => rfl, fun l i v => by simp, fun _ _ _ => rfl, fun _ _ _ _ => rfl, fun _ _ _ => by simp, fun _ _ _ => rfl, fun _ _ _ _ => rfl⟩
section
variable {P : Program} {ops : Array Oper} {Q : Exit → Act → World → Prop} {md : Region.Mode} {S : World → Prop}
theorem takeN (i : Nat) {oi : Oper} {v : Value} {f : Nat} {L : Array Bool} {a : Act} {w : World} (hi : ops[i]? = some oi) (hc : (Region.noSelect ops && Region.free md ops L i && (Region.ready md ops L).contains i) = true) (hw : Region.wanted oi (yielded ops a.tmps) = true)
 (hy : ∀ w, S w → (execOp a.eval oi).run P w = .ok (.value v) w) (hS : S w) (h : wpAnyH P md ops (NormQ Q) S f (L.setIfInBounds i true) (a.put oi.dst v) w) : wpAnyH P md ops (NormQ Q) S (f + 1) L a w := by
 simp only [Bool.and_eq_true] at hc
 exact wpAnyH_take hi hc.1.1 hc.1.2 hc.2 NormQ.hq (.inl ⟨hw, hy⟩) hS h
theorem nextH {i : Nat} {o : Oper} {f : Nat} {L : Array Bool} {a : Act} {w : World} (ho : ops[i]? = some o) (hr : (Region.ready md ops L == [i]) = true)
 (h : ∀ K' : Act → World → Prop, Shut (∀ a w, S w → (S w → wpAnyH P md ops Q S f (L.setIfInBounds i true) a w) → K' a w) → if Region.wanted o (yielded ops a.tmps) = true then Oper.wp P o a w K' Q else K' (a.put o.dst undef) w) : wpAnyH P md ops Q S (f + 1) L a w :=
 wpAnyH_ready (by simpa using hr) (by simp) (AllReadyH.cons ho h AllReadyH.nil)
end
open Go.RowKit
set_option maxRecDepth 20000 in
set_option maxHeartbeats 4000000 in
theorem rsheet_any (S : Sp) (W : World) (hS : S.In W) : Calls Tryz.prog 74 #[.agg #[.int .i64 S.sh.cs, .int .i64 S.sh.ps, .slice S.la S.ln S.lc, .slice S.ca S.cn S.cc, .slice S.pa S.pn S.pc, .slice S.ra S.rn S.rc]] W fun e w' => RetB W (.bool (okSh S.sh)) e w' := by
 have hx1 := Box.new W #[.int .i64 S.sh.cs, .int .i64 S.sh.ps, .slice S.la S.ln S.lc, .slice S.ca S.cn S.cc, .slice S.pa S.pn S.pc, .slice S.ra S.rn S.rc] 25
 have hbb : Below W.heap.size W (W.alloc (.cells #[.int .i64 S.sh.cs, .int .i64 S.sh.ps, .slice S.la S.ln S.lc, .slice S.ca S.cn S.cc, .slice S.pa S.pn S.pc, .slice S.ra S.rn S.rc] 25)) := (Below.refl _ _).alloc (Nat.le_refl _) _
 have HS := Lib.hid (hS.below hbb)
 have HLL := Lib.hid hS.lv.len
 have HCL := Lib.hid hS.cl.len
 have HPL := Lib.hid hS.pr.len
 obtain ⟨w0, hw0⟩ : ∃ w0, W.alloc (.cells #[.int .i64 S.sh.cs, .int .i64 S.sh.ps, .slice S.la S.ln S.lc, .slice S.ca S.cn S.cc, .slice S.pa S.pn S.pc, .slice S.ra S.rn S.rc] 25) = w0 := ⟨_, rfl⟩
 rw [hw0] at hx1 hbb HS
 have HW0 := Lib.hid hw0
 clear hw0
 by_cases c1 : S.sh.cs < 1
 · have n1 : decide (S.sh.cs < 1) = true := by simpa using c1
   have HR : Hid (okSh S.sh = false) := Lib.hid (by
    have h1 := HLL.out
    have h2 := HCL.out
    have h3 := HPL.out
    cases h : okSh S.sh
    · rfl
    · unfold okSh at h
      simp only [Bool.and_eq_true, decide_eq_true_eq] at h
      omega)
   obtain ⟨d0, d1, d2, d3, d4, d5⟩ := hx1.g6
   go_enter Tryz.func74, Tryz.ntmps74
   go_wp2_with fail
   rw [HW0.out]
   go_wp2_with fail
   go_ret
   exact ⟨by rw [HR.out]; rfl, hbb⟩
 have n1 : decide (S.sh.cs < 1) = false := by simpa using c1
 by_cases c2 : 8 < S.sh.cs
 · have n2 : decide (8 < S.sh.cs) = true := by simpa using c2
   have HR : Hid (okSh S.sh = false) := Lib.hid (by
    have h1 := HLL.out
    have h2 := HCL.out
    have h3 := HPL.out
    cases h : okSh S.sh
    · rfl
    · unfold okSh at h
      simp only [Bool.and_eq_true, decide_eq_true_eq] at h
      omega)
   obtain ⟨d0, d1, d2, d3, d4, d5⟩ := hx1.g6
   go_enter Tryz.func74, Tryz.ntmps74
   go_wp2_with fail
   rw [HW0.out]
   go_wp2_with fail
   go_ret
   exact ⟨by rw [HR.out]; rfl, hbb⟩
 have n2 : decide (8 < S.sh.cs) = false := by simpa using c2
 by_cases c3 : S.sh.ps < 1
 · have n3 : decide (S.sh.ps < 1) = true := by simpa using c3
   have HR : Hid (okSh S.sh = false) := Lib.hid (by
    have h1 := HLL.out
    have h2 := HCL.out
    have h3 := HPL.out
    cases h : okSh S.sh
    · rfl
    · unfold okSh at h
      simp only [Bool.and_eq_true, decide_eq_true_eq] at h
      omega)
   obtain ⟨d0, d1, d2, d3, d4, d5⟩ := hx1.g6
   go_enter Tryz.func74, Tryz.ntmps74
   go_wp2_with fail
   rw [HW0.out]
   go_wp2_with fail
   go_ret
   exact ⟨by rw [HR.out]; rfl, hbb⟩
 have n3 : decide (S.sh.ps < 1) = false := by simpa using c3
 by_cases c4 : 8 < S.sh.ps
 · have n4 : decide (8 < S.sh.ps) = true := by simpa using c4
   have HR : Hid (okSh S.sh = false) := Lib.hid (by
    have h1 := HLL.out
    have h2 := HCL.out
    have h3 := HPL.out
    cases h : okSh S.sh
    · rfl
    · unfold okSh at h
      simp only [Bool.and_eq_true, decide_eq_true_eq] at h
      omega)
   obtain ⟨d0, d1, d2, d3, d4, d5⟩ := hx1.g6
   go_enter Tryz.func74, Tryz.ntmps74
   go_wp2_with fail
   rw [HW0.out]
   go_wp2_with fail
   go_ret
   exact ⟨by rw [HR.out]; rfl, hbb⟩
 have n4 : decide (8 < S.sh.ps) = false := by simpa using c4
 by_cases c5 : (S.ln : Int) = S.sh.ps
 rotate_left
 · have n5 : ((S.ln : Int) != S.sh.ps) = true := by simpa using c5
   have HR : Hid (okSh S.sh = false) := Lib.hid (by
    have h1 := HLL.out
    have h2 := HCL.out
    have h3 := HPL.out
    cases h : okSh S.sh
    · rfl
    · unfold okSh at h
      simp only [Bool.and_eq_true, decide_eq_true_eq] at h
      omega)
   obtain ⟨d0, d1, d2, d3, d4, d5⟩ := hx1.g6
   go_enter Tryz.func74, Tryz.ntmps74
   go_wp2_with fail
   rw [HW0.out]
   go_wp2_with fail
   go_ret
   exact ⟨by rw [HR.out]; rfl, hbb⟩
 have n5 : ((S.ln : Int) != S.sh.ps) = false := by simpa using c5
 by_cases c6 : (S.cn : Int) = S.sh.ps
 rotate_left
 · have n6 : ((S.cn : Int) != S.sh.ps) = true := by simpa using c6
   have HR : Hid (okSh S.sh = false) := Lib.hid (by
    have h1 := HLL.out
    have h2 := HCL.out
    have h3 := HPL.out
    cases h : okSh S.sh
    · rfl
    · unfold okSh at h
      simp only [Bool.and_eq_true, decide_eq_true_eq] at h
      omega)
   obtain ⟨d0, d1, d2, d3, d4, d5⟩ := hx1.g6
   go_enter Tryz.func74, Tryz.ntmps74
   go_wp2_with fail
   rw [HW0.out]
   go_wp2_with fail
   go_ret
   exact ⟨by rw [HR.out]; rfl, hbb⟩
 have n6 : ((S.cn : Int) != S.sh.ps) = false := by simpa using c6
 by_cases c7 : 8 < S.rn
 · have n7 : decide ((8 : Int) < (S.rn : Int)) = true := by simp; omega
   have n8 : decide (8 < S.rn) = true := by simpa using c7
   have HR : Hid (okSh S.sh = false) := Lib.hid (by
    have h1 := HLL.out
    have h2 := HCL.out
    have h3 := HPL.out
    cases h : okSh S.sh
    · rfl
    · unfold okSh at h
      simp only [Bool.and_eq_true, decide_eq_true_eq] at h
      omega)
   obtain ⟨d0, d1, d2, d3, d4, d5⟩ := hx1.g6
   go_enter Tryz.func74, Tryz.ntmps74
   go_wp2_with fail
   rw [HW0.out]
   go_wp2_with fail
   go_ret
   exact ⟨by rw [HR.out]; rfl, hbb⟩
 have n7 : decide ((8 : Int) < (S.rn : Int)) = false := by simp; omega
 have n8 : decide (8 < S.rn) = false := by simpa using c7
 have HR : Hid (okSh S.sh = (betw 0 9 S.sh.lv && (betw 0 512 S.sh.cl && betw 0 1048576 S.sh.pr))) := Lib.hid (by
  have h1 := HLL.out
  have h2 := HCL.out
  have h3 := HPL.out
  unfold okSh
  rw [decide_eq_true (show 1 ≤ S.sh.cs by omega), decide_eq_true (show S.sh.cs ≤ 8 by omega), decide_eq_true (show 1 ≤ S.sh.ps by omega), decide_eq_true (show S.sh.ps ≤ 8 by omega), decide_eq_true (show (S.sh.lv.length : Int) = S.sh.ps by omega), decide_eq_true (show (S.sh.cl.length : Int) = S.sh.ps by omega), decide_eq_true (show S.sh.pr.length ≤ 8 by omega)]
  simp only [Bool.true_and, Bool.and_assoc])
 have H1 := Lib.hid (rbtw_any S.la S.ln S.lc S.sh.lv 0 9 w0 HS.out.lv)
 have H2 := Lib.hid (rbtw_any S.ca S.cn S.cc S.sh.cl 0 512 w0 HS.out.cl)
 have H3 := Lib.hid (rbtw_any S.ra S.rn S.rc S.sh.pr 0 1048576 w0 HS.out.pr)
 obtain ⟨b1, hb1⟩ : ∃ b, betw 0 9 S.sh.lv = b := ⟨_, rfl⟩
 obtain ⟨b2, hb2⟩ : ∃ b, betw 0 512 S.sh.cl = b := ⟨_, rfl⟩
 obtain ⟨b3, hb3⟩ : ∃ b, betw 0 1048576 S.sh.pr = b := ⟨_, rfl⟩
 rw [hb1] at H1 HR
 rw [hb2] at H2 HR
 rw [hb3] at H3 HR
 clear hb1 hb2 hb3 c1 c2 c3 c4 c5 c6 c7
 obtain ⟨d0, d1, d2, d3, d4, d5⟩ := hx1.g6
 go_enter Tryz.func74, Tryz.ntmps74
 go_wp2_with fail
 rw [HW0.out]
 go_wp2_with fail
 refine H1.out.mono ?_
 rintro e w' ⟨rfl, rfl⟩
 cases b1
 · go_wp2_with fail
   go_ret
   exact ⟨by rw [HR.out]; rfl, hbb⟩
 go_wp2_with fail
 refine H2.out.mono ?_
 rintro e w' ⟨rfl, rfl⟩
 cases b2
 · go_wp2_with fail
   go_ret
   exact ⟨by rw [HR.out]; rfl, hbb⟩
 go_wp2_with fail
 refine H3.out.mono ?_
 rintro e w' ⟨rfl, rfl⟩
 go_wp2_with fail
 go_ret
 exact ⟨by rw [HR.out]; rfl, hbb⟩
set_option maxRecDepth 20000 in
set_option maxHeartbeats 4000000 in
theorem rresult_any (S : Sp) (x : Rs) (W : World) : Calls Tryz.prog 75 #[.agg #[.int .i64 S.sh.cs, .int .i64 S.sh.ps, .slice S.la S.ln S.lc, .slice S.ca S.cn S.cc, .slice S.pa S.pn S.pc, .slice S.ra S.rn S.rc], .agg #[.int .i64 x.cm, .int .i64 x.pz, .int .i64 x.tr, .int .i64 x.lo, .int .i64 x.hi, .bool x.rt]] W fun e w' => RetB W (.bool (okRs S.sh x)) e w' := by
 have hx1 := (Box.new W #[.int .i64 S.sh.cs, .int .i64 S.sh.ps, .slice S.la S.ln S.lc, .slice S.ca S.cn S.cc, .slice S.pa S.pn S.pc, .slice S.ra S.rn S.rc] 25).alloc (.cells #[.int .i64 x.cm, .int .i64 x.pz, .int .i64 x.tr, .int .i64 x.lo, .int .i64 x.hi, .bool x.rt] 53)
 have hx2 := Box.new (W.alloc (.cells #[.int .i64 S.sh.cs, .int .i64 S.sh.ps, .slice S.la S.ln S.lc, .slice S.ca S.cn S.cc, .slice S.pa S.pn S.pc, .slice S.ra S.rn S.rc] 25)) #[.int .i64 x.cm, .int .i64 x.pz, .int .i64 x.tr, .int .i64 x.lo, .int .i64 x.hi, .bool x.rt] 53
 have hbb : Below W.heap.size W ((W.alloc (.cells #[.int .i64 S.sh.cs, .int .i64 S.sh.ps, .slice S.la S.ln S.lc, .slice S.ca S.cn S.cc, .slice S.pa S.pn S.pc, .slice S.ra S.rn S.rc] 25)).alloc (.cells #[.int .i64 x.cm, .int .i64 x.pz, .int .i64 x.tr, .int .i64 x.lo, .int .i64 x.hi, .bool x.rt] 53)) := ((Below.refl _ _).alloc (Nat.le_refl _) _).alloc (by simp) _
 rw [World.size_alloc] at hx2
 obtain ⟨w0, hw0⟩ : ∃ w0, (W.alloc (.cells #[.int .i64 S.sh.cs, .int .i64 S.sh.ps, .slice S.la S.ln S.lc, .slice S.ca S.cn S.cc, .slice S.pa S.pn S.pc, .slice S.ra S.rn S.rc] 25)).alloc (.cells #[.int .i64 x.cm, .int .i64 x.pz, .int .i64 x.tr, .int .i64 x.lo, .int .i64 x.hi, .bool x.rt] 53) = w0 := ⟨_, rfl⟩
 rw [hw0] at hx1 hx2 hbb
 have HW0 := Lib.hid hw0
 clear hw0
 by_cases c1 : x.cm < 0
 · have n1 : decide (x.cm < 0) = true := by simpa using c1
   have HR : Hid (okRs S.sh x = false) := Lib.hid (by
    cases h : okRs S.sh x
    · rfl
    · unfold okRs at h
      simp only [Bool.and_eq_true, decide_eq_true_eq] at h
      omega)
   obtain ⟨d0, d1, d2, d3, d4, d5⟩ := hx1.g6
   obtain ⟨e0, e1, e2, e3, e4, e5⟩ := hx2.g6
   go_enter Tryz.func75, Tryz.ntmps75
   go_wp2_with fail
   rw [HW0.out]
   go_wp2_with fail
   go_ret
   exact ⟨by rw [HR.out]; rfl, hbb⟩
 have n1 : decide (x.cm < 0) = false := by simpa using c1
 by_cases c2 : S.sh.cs ≤ x.cm
 · have n2 : decide (S.sh.cs ≤ x.cm) = true := by simpa using c2
   have HR : Hid (okRs S.sh x = false) := Lib.hid (by
    cases h : okRs S.sh x
    · rfl
    · unfold okRs at h
      simp only [Bool.and_eq_true, decide_eq_true_eq] at h
      omega)
   obtain ⟨d0, d1, d2, d3, d4, d5⟩ := hx1.g6
   obtain ⟨e0, e1, e2, e3, e4, e5⟩ := hx2.g6
   go_enter Tryz.func75, Tryz.ntmps75
   go_wp2_with fail
   rw [HW0.out]
   go_wp2_with fail
   go_ret
   exact ⟨by rw [HR.out]; rfl, hbb⟩
 have n2 : decide (S.sh.cs ≤ x.cm) = false := by simpa using c2
 by_cases c3 : x.pz < 0
 · have n3 : decide (x.pz < 0) = true := by simpa using c3
   have HR : Hid (okRs S.sh x = false) := Lib.hid (by
    cases h : okRs S.sh x
    · rfl
    · unfold okRs at h
      simp only [Bool.and_eq_true, decide_eq_true_eq] at h
      omega)
   obtain ⟨d0, d1, d2, d3, d4, d5⟩ := hx1.g6
   obtain ⟨e0, e1, e2, e3, e4, e5⟩ := hx2.g6
   go_enter Tryz.func75, Tryz.ntmps75
   go_wp2_with fail
   rw [HW0.out]
   go_wp2_with fail
   go_ret
   exact ⟨by rw [HR.out]; rfl, hbb⟩
 have n3 : decide (x.pz < 0) = false := by simpa using c3
 by_cases c4 : S.sh.ps ≤ x.pz
 · have n4 : decide (S.sh.ps ≤ x.pz) = true := by simpa using c4
   have HR : Hid (okRs S.sh x = false) := Lib.hid (by
    cases h : okRs S.sh x
    · rfl
    · unfold okRs at h
      simp only [Bool.and_eq_true, decide_eq_true_eq] at h
      omega)
   obtain ⟨d0, d1, d2, d3, d4, d5⟩ := hx1.g6
   obtain ⟨e0, e1, e2, e3, e4, e5⟩ := hx2.g6
   go_enter Tryz.func75, Tryz.ntmps75
   go_wp2_with fail
   rw [HW0.out]
   go_wp2_with fail
   go_ret
   exact ⟨by rw [HR.out]; rfl, hbb⟩
 have n4 : decide (S.sh.ps ≤ x.pz) = false := by simpa using c4
 by_cases c5 : x.tr < 0
 · have n5 : decide (x.tr < 0) = true := by simpa using c5
   have HR : Hid (okRs S.sh x = false) := Lib.hid (by
    cases h : okRs S.sh x
    · rfl
    · unfold okRs at h
      simp only [Bool.and_eq_true, decide_eq_true_eq] at h
      omega)
   obtain ⟨d0, d1, d2, d3, d4, d5⟩ := hx1.g6
   obtain ⟨e0, e1, e2, e3, e4, e5⟩ := hx2.g6
   go_enter Tryz.func75, Tryz.ntmps75
   go_wp2_with fail
   rw [HW0.out]
   go_wp2_with fail
   go_ret
   exact ⟨by rw [HR.out]; rfl, hbb⟩
 have n5 : decide (x.tr < 0) = false := by simpa using c5
 by_cases c6 : 32 < x.tr
 · have n6 : decide (32 < x.tr) = true := by simpa using c6
   have HR : Hid (okRs S.sh x = false) := Lib.hid (by
    cases h : okRs S.sh x
    · rfl
    · unfold okRs at h
      simp only [Bool.and_eq_true, decide_eq_true_eq] at h
      omega)
   obtain ⟨d0, d1, d2, d3, d4, d5⟩ := hx1.g6
   obtain ⟨e0, e1, e2, e3, e4, e5⟩ := hx2.g6
   go_enter Tryz.func75, Tryz.ntmps75
   go_wp2_with fail
   rw [HW0.out]
   go_wp2_with fail
   go_ret
   exact ⟨by rw [HR.out]; rfl, hbb⟩
 have n6 : decide (32 < x.tr) = false := by simpa using c6
 by_cases c7 : 0 ≤ x.lo
 rotate_left
 · have n7 : decide (0 ≤ x.lo) = false := by simpa using c7
   have HR : Hid (okRs S.sh x = false) := Lib.hid (by
    cases h : okRs S.sh x
    · rfl
    · unfold okRs at h
      simp only [Bool.and_eq_true, decide_eq_true_eq] at h
      omega)
   obtain ⟨d0, d1, d2, d3, d4, d5⟩ := hx1.g6
   obtain ⟨e0, e1, e2, e3, e4, e5⟩ := hx2.g6
   go_enter Tryz.func75, Tryz.ntmps75
   go_wp2_with fail
   rw [HW0.out]
   go_wp2_with fail
   go_ret
   exact ⟨by rw [HR.out]; rfl, hbb⟩
 have n7 : decide (0 ≤ x.lo) = true := by simpa using c7
 by_cases c8 : x.lo ≤ x.hi
 rotate_left
 · have n8 : decide (x.lo ≤ x.hi) = false := by simpa using c8
   have HR : Hid (okRs S.sh x = false) := Lib.hid (by
    cases h : okRs S.sh x
    · rfl
    · unfold okRs at h
      simp only [Bool.and_eq_true, decide_eq_true_eq] at h
      omega)
   obtain ⟨d0, d1, d2, d3, d4, d5⟩ := hx1.g6
   obtain ⟨e0, e1, e2, e3, e4, e5⟩ := hx2.g6
   go_enter Tryz.func75, Tryz.ntmps75
   go_wp2_with fail
   rw [HW0.out]
   go_wp2_with fail
   go_ret
   exact ⟨by rw [HR.out]; rfl, hbb⟩
 have n8 : decide (x.lo ≤ x.hi) = true := by simpa using c8
 by_cases c9 : x.hi ≤ 1048576
 rotate_left
 · have n9 : decide (x.hi ≤ 1048576) = false := by simpa using c9
   have HR : Hid (okRs S.sh x = false) := Lib.hid (by
    cases h : okRs S.sh x
    · rfl
    · unfold okRs at h
      simp only [Bool.and_eq_true, decide_eq_true_eq] at h
      omega)
   obtain ⟨d0, d1, d2, d3, d4, d5⟩ := hx1.g6
   obtain ⟨e0, e1, e2, e3, e4, e5⟩ := hx2.g6
   go_enter Tryz.func75, Tryz.ntmps75
   go_wp2_with fail
   rw [HW0.out]
   go_wp2_with fail
   go_ret
   exact ⟨by rw [HR.out]; rfl, hbb⟩
 have n9 : decide (x.hi ≤ 1048576) = true := by simpa using c9
 have HR : Hid (okRs S.sh x = true) := Lib.hid (by
  unfold okRs
  simp only [Bool.and_eq_true, decide_eq_true_eq]
  omega)
 obtain ⟨d0, d1, d2, d3, d4, d5⟩ := hx1.g6
 obtain ⟨e0, e1, e2, e3, e4, e5⟩ := hx2.g6
 go_enter Tryz.func75, Tryz.ntmps75
 go_wp2_with fail
 rw [HW0.out]
 go_wp2_with fail
 go_ret
 exact ⟨by rw [HR.out]; rfl, hbb⟩
open Go.RowKit
attribute [local go_sem] Oper.semAt_some
theorem region_fix2 {c : Code} {P : Program} {Q : Exit → Act → World → Prop} {a : Act} {w : World} {R : World → Prop} {F : Act}
 (h : c.wp P (NormQ fun _ a' w' => a' = F ∧ R w') a w) (hk : ∀ w', R w' → Q .normal F w') : c.wp P Q a w :=
 wp_mono h fun e a' w' ⟨he, ha, hr⟩ => by subst he ha; exact hk _ hr
def WdR (l : List Wd) : Prop := ∀ x ∈ l, -9223372036854775808 ≤ x.n ∧ x.n ≤ 9223372036854775807
def RPtC : Prop := ∀ (a : Option Addr) (n c : Nat) (l : List Wd) (w : World), SL encW 2 w a n c l → n ≤ 30 → WdR l → Calls Tryz.prog 73 #[.slice a n c] w fun e w' => RetB w (.int .i64 (ptE l)) e w'
theorem rk_1 {s : Sh} {l : List Rs} (h : 32 < l.length) : rkE s l = 2 := by unfold rkE; rw [if_pos h]
theorem rk_2 {s : Sh} {l : List Rs} (h : ¬ 32 < l.length) (h2 : ptE s.pg ≠ 0) : rkE s l = ptE s.pg := by unfold rkE; rw [if_neg h, if_pos h2]
theorem rk_3 {s : Sh} {l : List Rs} (h : ¬ 32 < l.length) (h2 : ptE s.pg = 0) (h3 : okSh s = false) : rkE s l = 530 := by unfold rkE; rw [if_neg h, if_neg (fun x => x h2), if_neg (by rw [h3]; simp)]
theorem rk_4 {s : Sh} {l : List Rs} (h : ¬ 32 < l.length) (h2 : ptE s.pg = 0) {k : Nat} {x : Rs} (hx : l[k]? = some x) (h3 : okRs s x = false) : rkE s l = 530 := by
 unfold rkE
 rw [if_neg h, if_neg (fun x => x h2), if_neg]
 rw [Bool.and_eq_true]
 rintro ⟨_, h4⟩
 have := List.all_eq_true.1 h4 x (List.mem_of_getElem? hx)
 rw [h3] at this; cases this
theorem rk_5 {s : Sh} {l : List Rs} (h : ¬ 32 < l.length) (h2 : ptE s.pg = 0) (h3 : okSh s = true) (h4 : ∀ k x, k < l.length → l[k]? = some x → okRs s x = true) : rkE s l = 0 := by
 unfold rkE
 rw [if_neg h, if_neg (fun x => x h2), if_pos]
 rw [Bool.and_eq_true]
 refine ⟨h3, List.all_eq_true.2 fun x hx => ?_⟩
 obtain ⟨k, hk, e⟩ := List.mem_iff_getElem.1 hx
 exact h4 k x hk (by rw [← e]; exact List.getElem?_eq_getElem hk)
set_option maxRecDepth 20000 in
set_option maxHeartbeats 4000000 in
theorem rcheck53_any (hpt : RPtC) (S : Sp) (al : Option Addr) (nl cl : Nat) (l : List Rs) (W : World) (hS : S.In W) (h0 : SL encRs 6 W al nl cl l) (hpn : S.pn ≤ 30) (hwr : WdR S.sh.pg) :
 Calls Tryz.prog 51 #[.agg #[.int .i64 S.sh.cs, .int .i64 S.sh.ps, .slice S.la S.ln S.lc, .slice S.ca S.cn S.cc, .slice S.pa S.pn S.pc, .slice S.ra S.rn S.rc], .slice al nl cl] W fun e w' => RetB W (.int .i64 (rkE S.sh l)) e w' := by
 have hx1 := Box.new W #[.int .i64 S.sh.cs, .int .i64 S.sh.ps, .slice S.la S.ln S.lc, .slice S.ca S.cn S.cc, .slice S.pa S.pn S.pc, .slice S.ra S.rn S.rc] 25
 have hbb : Below W.heap.size W (W.alloc (.cells #[.int .i64 S.sh.cs, .int .i64 S.sh.ps, .slice S.la S.ln S.lc, .slice S.ca S.cn S.cc, .slice S.pa S.pn S.pc, .slice S.ra S.rn S.rc] 25)) := (Below.refl _ _).alloc (Nat.le_refl _) _
 obtain ⟨w0, hw0⟩ : ∃ w0, W.alloc (.cells #[.int .i64 S.sh.cs, .int .i64 S.sh.ps, .slice S.la S.ln S.lc, .slice S.ca S.cn S.cc, .slice S.pa S.pn S.pc, .slice S.ra S.rn S.rc] 25) = w0 := ⟨_, rfl⟩
 rw [hw0] at hx1 hbb
 have HW0 := Lib.hid hw0
 have HL := Lib.hid h0.len
 have HPT := Lib.hid (hpt S.pa S.pn S.pc S.sh.pg w0 (hS.below hbb).pg hpn hwr)
 clear hw0 hwr
 by_cases c1 : 32 < nl
 · have n1 : decide ((32 : Int) < (nl : Int)) = true := by simp; omega
   have n2 : decide (32 < nl) = true := by simpa using c1
   have HR : Hid (rkE S.sh l = 2) := Lib.hid (rk_1 (by rw [HL.out]; exact c1))
   obtain ⟨d0, d1, d2, d3, d4, d5⟩ := hx1.g6
   go_enter Tryz.func51, Tryz.ntmps51
   go_wp2_with fail
   rw [HW0.out]
   go_wp2_with fail
   go_ret
   exact ⟨by rw [HR.out]; rfl, hbb⟩
 have n1 : decide ((32 : Int) < (nl : Int)) = false := by simp; omega
 have n2 : decide (32 < nl) = false := by simpa using c1
 have HC1 : Hid (¬ 32 < l.length) := Lib.hid (by rw [HL.out]; exact c1)
 obtain ⟨E, hE⟩ : ∃ E, ptE S.sh.pg = E := ⟨_, rfl⟩
 rw [hE] at HPT
 by_cases c2 : E = 0
 rotate_left
 · have g1 : (E != 0) = true := by simpa using c2
   have HR : Hid (rkE S.sh l = E) := Lib.hid (by rw [rk_2 HC1.out (by rw [hE]; exact c2), hE])
   clear hE c2
   obtain ⟨d0, d1, d2, d3, d4, d5⟩ := hx1.g6
   go_enter Tryz.func51, Tryz.ntmps51
   go_wp2_with fail
   rw [HW0.out]
   go_wp2_with fail
   refine HPT.out.mono ?_
   rintro e w1 ⟨rfl, hB1⟩
   clear d0 d1 d2 d3 d4 d5
   go_wp2_with fail
   go_ret
   exact ⟨by rw [HR.out]; rfl, hbb.on hB1⟩
 subst c2
 have HE := Lib.hid hE
 clear hE
 obtain ⟨d0, d1, d2, d3, d4, d5⟩ := hx1.g6
 go_enter Tryz.func51, Tryz.ntmps51
 go_wp2_with fail
 rw [HW0.out]
 go_wp2_with fail
 refine HPT.out.mono ?_
 rintro e w1 ⟨rfl, hB1⟩
 have hx1 := hx1.below hB1
 have hbb := hbb.on hB1
 have HSH := Lib.hid (rsheet_any S w1 (hS.below hbb))
 clear d0 d1 d2 d3 d4 d5 hB1 HPT
 obtain ⟨d0, d1, d2, d3, d4, d5⟩ := hx1.g6
 go_wp2_with fail
 refine HSH.out.mono ?_
 rintro e w2 ⟨rfl, hB2⟩
 have hx1 := hx1.below hB2
 have hbb := hbb.on hB2
 clear d0 d1 d2 d3 d4 d5 hB2 HSH
 cases hsh : okSh S.sh
 · have HR : Hid (rkE S.sh l = 530) := Lib.hid (rk_3 HC1.out HE.out hsh)
   go_wp2_with fail
   go_ret
   exact ⟨by rw [HR.out]; rfl, hbb⟩
 have HSK := Lib.hid hsh
 have HX1 := Lib.hid hx1
 have HBB := Lib.hid hbb
 have mL := h0.mx
 have cL := h0.cap
 unfold maxLen at mL
 clear hsh hx1 hbb
 go_wp2_with fail
 go_loopw [6] (fun i wr => ∃ k : Nat, i = .int .i64 k ∧ k ≤ nl ∧ Hid (∀ j x, j < k → l[j]? = some x → okRs S.sh x = true) ∧ Below w2.heap.size w2 wr) (fun i _ => nl - (intOf i).toNat)
 case atStart => exact ⟨0, rfl, by omega, Lib.hid (fun j x hj => by omega), Below.refl _ _⟩
 case round =>
  obtain ⟨k, rfl, hk, HA, hB⟩ := hrel
  have s0 : (0 : Int) ≤ (k : Int) := by omega
  by_cases hlt : k < nl
  rotate_left
  · obtain rfl : nl = k := by omega
    have HR : Hid (rkE S.sh l = 0) := Lib.hid (rk_5 HC1.out HE.out HSK.out (fun j x hj hx => HA.out j x (by rw [HL.out] at hj; exact hj) hx))
    have HB := Lib.hid (HBB.out.on hB)
    clear hB
    go_wp2_with fail
    go_ret
    exact ⟨by rw [HR.out]; rfl, HB.out⟩
  have s1 : (k : Int) < (nl : Int) := by omega
  obtain ⟨b, o, rfl, hb⟩ := h0.at' (by omega)
  obtain ⟨x, hx⟩ := h0.get hlt
  have hBW := HBB.out.on hB
  obtain ⟨e0, e1, e2, e3, e4, e5⟩ := (h0.below hBW).rs6 hx
  obtain ⟨d0, d1, d2, d3, d4, d5⟩ := (HX1.out.below hB).g6
  have HRS := Lib.hid (fun w => rresult_any S x w)
  have HX := Lib.hid hx
  have HB := Lib.hid hB
  clear hx hB hBW
  cases hok : okRs S.sh x
  · have HR : Hid (rkE S.sh l = 530) := Lib.hid (rk_4 HC1.out HE.out HX.out hok)
    rw [hok] at HRS
    go_wp2_with fail
    apply region_fix2 (R := fun w' => Below wr.heap.size wr w')
    · refine wp_region_held_drew (S := fun w' => w'.cell? ⟨W.heap.size, 0, none⟩ = some (.int .i64 S.sh.cs) ∧ w'.cell? ⟨W.heap.size, 1, none⟩ = some (.int .i64 S.sh.ps) ∧ w'.cell? ⟨W.heap.size, 2, none⟩ = some (.slice S.la S.ln S.lc) ∧ w'.cell? ⟨W.heap.size, 3, none⟩ = some (.slice S.ca S.cn S.cc) ∧ w'.cell? ⟨W.heap.size, 4, none⟩ = some (.slice S.pa S.pn S.pc) ∧ w'.cell? ⟨W.heap.size, 5, none⟩ = some (.slice S.ra S.rn S.rc) ∧ w'.cell? ⟨b, o + k * 6, none⟩ = some (.int .i64 x.cm) ∧ w'.cell? ⟨b, o + k * 6 + 1, none⟩ = some (.int .i64 x.pz) ∧ w'.cell? ⟨b, o + k * 6 + 2, none⟩ = some (.int .i64 x.tr) ∧ w'.cell? ⟨b, o + k * 6 + 3, none⟩ = some (.int .i64 x.lo) ∧ w'.cell? ⟨b, o + k * 6 + 4, none⟩ = some (.int .i64 x.hi) ∧ w'.cell? ⟨b, o + k * 6 + 5, none⟩ = some (.bool x.rt)) (by kernel_rfl) ⟨d0, d1, d2, d3, d4, d5, e0, e1, e2, e3, e4, e5⟩ (fun hS => ?_)
      refine takeN 0 (v := ?_) rfl (by kernel_rfl) (by rfl) (fun w hSw => ?_) (by assumption) ?_
      rotate_left
      focus ((try dsimp only at hSw); (try go_split_ands); go_simp; try with_reducible rfl)
      (try simp only [PS])
      refine takeN 1 (v := ?_) rfl (by kernel_rfl) (by rfl) (fun w hSw => ?_) (by assumption) ?_
      rotate_left
      focus ((try dsimp only at hSw); (try go_split_ands); go_simp; try with_reducible rfl)
      (try simp only [PS])
      refine takeN 2 (v := ?_) rfl (by kernel_rfl) (by rfl) (fun w hSw => ?_) (by assumption) ?_
      rotate_left
      focus ((try dsimp only at hSw); (try go_split_ands); go_simp; try with_reducible rfl)
      (try simp only [PS])
      refine takeN 3 (v := ?_) rfl (by kernel_rfl) (by rfl) (fun w hSw => ?_) (by assumption) ?_
      rotate_left
      focus ((try dsimp only at hSw); (try go_split_ands); go_simp; try with_reducible rfl)
      (try simp only [PS])
      refine takeN 4 (v := ?_) rfl (by kernel_rfl) (by rfl) (fun w hSw => ?_) (by assumption) ?_
      rotate_left
      focus ((try dsimp only at hSw); (try go_split_ands); go_simp; try with_reducible rfl)
      (try simp only [PS])
      refine wpAnyH_ready (rs := [5]) (by kernel_rfl) (by simp) (AllReadyH.cons rfl (fun K hK => ?_) AllReadyH.nil)
      go_simp
      go_at_call 75
      refine (HRS.out _).mono ?_
      rintro e w3 ⟨rfl, hB3⟩
      have hbd : Below wr.heap.size wr w3 := ((Below.refl wr.heap.size wr).drew).on hB3
      have hS3 : w3.cell? ⟨W.heap.size, 0, none⟩ = some (.int .i64 S.sh.cs) ∧ w3.cell? ⟨W.heap.size, 1, none⟩ = some (.int .i64 S.sh.ps) ∧ w3.cell? ⟨W.heap.size, 2, none⟩ = some (.slice S.la S.ln S.lc) ∧ w3.cell? ⟨W.heap.size, 3, none⟩ = some (.slice S.ca S.cn S.cc) ∧ w3.cell? ⟨W.heap.size, 4, none⟩ = some (.slice S.pa S.pn S.pc) ∧ w3.cell? ⟨W.heap.size, 5, none⟩ = some (.slice S.ra S.rn S.rc) ∧ w3.cell? ⟨b, o + k * 6, none⟩ = some (.int .i64 x.cm) ∧ w3.cell? ⟨b, o + k * 6 + 1, none⟩ = some (.int .i64 x.pz) ∧ w3.cell? ⟨b, o + k * 6 + 2, none⟩ = some (.int .i64 x.tr) ∧ w3.cell? ⟨b, o + k * 6 + 3, none⟩ = some (.int .i64 x.lo) ∧ w3.cell? ⟨b, o + k * 6 + 4, none⟩ = some (.int .i64 x.hi) ∧ w3.cell? ⟨b, o + k * 6 + 5, none⟩ = some (.bool x.rt) := by
       have kp : ∀ {a : Addr} {v : Value}, wr.cell? a = some v → w3.cell? a = some v := fun {a v} h => (hbd.cell (World.block_lt_of_cell? wr a h)).trans h
       exact ⟨kp d0, kp d1, kp d2, kp d3, kp d4, kp d5, kp e0, kp e1, kp e2, kp e3, kp e4, kp e5⟩
      refine hK.out _ _ (hS3) (fun hS => ?_)
      clear hK K
      (try simp only [PS])
      refine wpAnyH_ready (rs := [6]) (by kernel_rfl) (by simp) (AllReadyH.cons rfl (fun K hK => ?_) AllReadyH.nil)
      go_simp
      refine hK.out _ _ (hS3) (fun hS => ?_)
      clear hK K
      (try simp only [PS])
      refine wpAnyH_done (by kernel_rfl) ?_ _
      exact ⟨rfl, rfl, hbd⟩
    intro w3 hB3
    have HB3 := Lib.hid (HB.out.on hB3)
    clear hB3 d0 d1 d2 d3 d4 d5 e0 e1 e2 e3 e4 e5
    have HB4 := Lib.hid (HBB.out.on HB3.out)
    go_wp2_with fail
    go_ret
    exact ⟨by rw [HR.out]; rfl, HB4.out⟩
  · have HN : Hid (∀ j x, j < k + 1 → l[j]? = some x → okRs S.sh x = true) := Lib.hid fun j z hj hz => by
     by_cases e : j = k
     · subst e; rw [HX.out] at hz; injection hz with hz; subst hz; exact hok
     · exact HA.out j z (by omega) hz
    rw [hok] at HRS
    go_wp2_with fail
    apply region_fix2 (R := fun w' => Below wr.heap.size wr w')
    · refine wp_region_held_drew (S := fun w' => w'.cell? ⟨W.heap.size, 0, none⟩ = some (.int .i64 S.sh.cs) ∧ w'.cell? ⟨W.heap.size, 1, none⟩ = some (.int .i64 S.sh.ps) ∧ w'.cell? ⟨W.heap.size, 2, none⟩ = some (.slice S.la S.ln S.lc) ∧ w'.cell? ⟨W.heap.size, 3, none⟩ = some (.slice S.ca S.cn S.cc) ∧ w'.cell? ⟨W.heap.size, 4, none⟩ = some (.slice S.pa S.pn S.pc) ∧ w'.cell? ⟨W.heap.size, 5, none⟩ = some (.slice S.ra S.rn S.rc) ∧ w'.cell? ⟨b, o + k * 6, none⟩ = some (.int .i64 x.cm) ∧ w'.cell? ⟨b, o + k * 6 + 1, none⟩ = some (.int .i64 x.pz) ∧ w'.cell? ⟨b, o + k * 6 + 2, none⟩ = some (.int .i64 x.tr) ∧ w'.cell? ⟨b, o + k * 6 + 3, none⟩ = some (.int .i64 x.lo) ∧ w'.cell? ⟨b, o + k * 6 + 4, none⟩ = some (.int .i64 x.hi) ∧ w'.cell? ⟨b, o + k * 6 + 5, none⟩ = some (.bool x.rt)) (by kernel_rfl) ⟨d0, d1, d2, d3, d4, d5, e0, e1, e2, e3, e4, e5⟩ (fun hS => ?_)
      refine takeN 0 (v := ?_) rfl (by kernel_rfl) (by rfl) (fun w hSw => ?_) (by assumption) ?_
      rotate_left
      focus ((try dsimp only at hSw); (try go_split_ands); go_simp; try with_reducible rfl)
      (try simp only [PS])
      refine takeN 1 (v := ?_) rfl (by kernel_rfl) (by rfl) (fun w hSw => ?_) (by assumption) ?_
      rotate_left
      focus ((try dsimp only at hSw); (try go_split_ands); go_simp; try with_reducible rfl)
      (try simp only [PS])
      refine takeN 2 (v := ?_) rfl (by kernel_rfl) (by rfl) (fun w hSw => ?_) (by assumption) ?_
      rotate_left
      focus ((try dsimp only at hSw); (try go_split_ands); go_simp; try with_reducible rfl)
      (try simp only [PS])
      refine takeN 3 (v := ?_) rfl (by kernel_rfl) (by rfl) (fun w hSw => ?_) (by assumption) ?_
      rotate_left
      focus ((try dsimp only at hSw); (try go_split_ands); go_simp; try with_reducible rfl)
      (try simp only [PS])
      refine takeN 4 (v := ?_) rfl (by kernel_rfl) (by rfl) (fun w hSw => ?_) (by assumption) ?_
      rotate_left
      focus ((try dsimp only at hSw); (try go_split_ands); go_simp; try with_reducible rfl)
      (try simp only [PS])
      refine wpAnyH_ready (rs := [5]) (by kernel_rfl) (by simp) (AllReadyH.cons rfl (fun K hK => ?_) AllReadyH.nil)
      go_simp
      go_at_call 75
      refine (HRS.out _).mono ?_
      rintro e w3 ⟨rfl, hB3⟩
      have hbd : Below wr.heap.size wr w3 := ((Below.refl wr.heap.size wr).drew).on hB3
      have hS3 : w3.cell? ⟨W.heap.size, 0, none⟩ = some (.int .i64 S.sh.cs) ∧ w3.cell? ⟨W.heap.size, 1, none⟩ = some (.int .i64 S.sh.ps) ∧ w3.cell? ⟨W.heap.size, 2, none⟩ = some (.slice S.la S.ln S.lc) ∧ w3.cell? ⟨W.heap.size, 3, none⟩ = some (.slice S.ca S.cn S.cc) ∧ w3.cell? ⟨W.heap.size, 4, none⟩ = some (.slice S.pa S.pn S.pc) ∧ w3.cell? ⟨W.heap.size, 5, none⟩ = some (.slice S.ra S.rn S.rc) ∧ w3.cell? ⟨b, o + k * 6, none⟩ = some (.int .i64 x.cm) ∧ w3.cell? ⟨b, o + k * 6 + 1, none⟩ = some (.int .i64 x.pz) ∧ w3.cell? ⟨b, o + k * 6 + 2, none⟩ = some (.int .i64 x.tr) ∧ w3.cell? ⟨b, o + k * 6 + 3, none⟩ = some (.int .i64 x.lo) ∧ w3.cell? ⟨b, o + k * 6 + 4, none⟩ = some (.int .i64 x.hi) ∧ w3.cell? ⟨b, o + k * 6 + 5, none⟩ = some (.bool x.rt) := by
       have kp : ∀ {a : Addr} {v : Value}, wr.cell? a = some v → w3.cell? a = some v := fun {a v} h => (hbd.cell (World.block_lt_of_cell? wr a h)).trans h
       exact ⟨kp d0, kp d1, kp d2, kp d3, kp d4, kp d5, kp e0, kp e1, kp e2, kp e3, kp e4, kp e5⟩
      refine hK.out _ _ (hS3) (fun hS => ?_)
      clear hK K
      (try simp only [PS])
      refine wpAnyH_ready (rs := [6]) (by kernel_rfl) (by simp) (AllReadyH.cons rfl (fun K hK => ?_) AllReadyH.nil)
      go_simp
      refine hK.out _ _ (hS3) (fun hS => ?_)
      clear hK K
      (try simp only [PS])
      refine wpAnyH_done (by kernel_rfl) ?_ _
      exact ⟨rfl, rfl, hbd⟩
    intro w3 hB3
    have HB3 := Lib.hid (HB.out.on hB3)
    clear hB3 d0 d1 d2 d3 d4 d5 e0 e1 e2 e3 e4 e5
    go_wp2_with fail
    go_roundw
    case rel => exact ⟨k + 1, by go_num, by omega, HN, HB3.out⟩
    case measure => simp [intOf]; omega
end Go.Proofs.YtehoidohallfcaaGreatDoor
