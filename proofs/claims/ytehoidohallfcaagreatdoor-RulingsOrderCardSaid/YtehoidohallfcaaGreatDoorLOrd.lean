/- The order of faults (law54.RulingsOrder), at every input: the walk. -/
import Derived.Test.YtehoidohallfcaaGreatDoorSanB
import Derived.Test.YtehoidohallfcaaGreatDoorLwM
import Derived.Test.YtehoidohallfcaaGreatDoorOrdX
import Derived.WalkKit
import Derived.WalkSpells
import Derived.WalkLawsBesides
import Derived.Deep.LoopGhost
import Derived.Deep.QuietTactic
import Derived.BigQuiet
import Derived.StillTailTactics
import Derived.Lib.Hide
import Derived.Outline
import Derived.Lib.QuietBelow
namespace Go.Proofs.YtehoidohallfcaaGreatDoor
open Go.RowKit
attribute [local go_sem] Oper.semAt_some

set_option maxRecDepth 20000 in
set_option maxHeartbeats 8000000 in
theorem lawOrder_any (S : Sp) (al : Option Addr) (nl cl : Nat) (l : List Rs) (fa : Option Addr) (fn fc : Nat) (fs : List (Ft Value)) (d : Int) (oa : Option Addr) (on oc : Nat) (os : List Nat) (W : World) (ht : Tab W) (hS : S.In W) (h0 : SL encRs 6 W al nl cl l) (hF : SL encFt 5 W fa fn fc fs) (hG : GrOk fs) (hO : SL encB 1 W oa on oc os) (hO8 : ∀ x ∈ os, x < 256) :
    Calls Tryz.prog 5 #[.agg #[.int .i64 S.sh.cs, .int .i64 S.sh.ps, .slice S.la S.ln S.lc, .slice S.ca S.cn S.cc, .slice S.pa S.pn S.pc, .slice S.ra S.rn S.rc], .slice al nl cl, .slice fa fn fc, .int .i64 d, .slice oa on oc] W fun e w' => RetB W (.bool true) e w' := by
  have hx1 := Box.new W #[.int .i64 S.sh.cs, .int .i64 S.sh.ps, .slice S.la S.ln S.lc, .slice S.ca S.cn S.cc, .slice S.pa S.pn S.pc, .slice S.ra S.rn S.rc] 25
  have hbb : Below W.heap.size W (W.alloc (.cells #[.int .i64 S.sh.cs, .int .i64 S.sh.ps, .slice S.la S.ln S.lc, .slice S.ca S.cn S.cc, .slice S.pa S.pn S.pc, .slice S.ra S.rn S.rc] 25)) := al0 _ _ _
  obtain ⟨w0, hw0⟩ : ∃ w0, W.alloc (.cells #[.int .i64 S.sh.cs, .int .i64 S.sh.ps, .slice S.la S.ln S.lc, .slice S.ca S.cn S.cc, .slice S.pa S.pn S.pc, .slice S.ra S.rn S.rc] 25) = w0 := ⟨_, rfl⟩
  rw [hw0] at hx1 hbb
  have HW0 := Lib.hid hw0
  have HL := Lib.hid h0.len
  have HFL := Lib.hid hF.len
  have HSA := Lib.hid (sane_any w0 (ht.below hbb))
  clear hw0
  cases hf : (few53 S.sh l && decide (fs.length ≤ 20))
  · have HF := Lib.hid hf
    clear hf
    go_enter Tryz.func5, Tryz.ntmps5
    go_wp2_with fail
    rw [HW0.out]
    go_wp2_with fail
    refine HSA.out.mono ?_
    rintro e w1 ⟨rfl, hB1⟩
    have hx1 := hx1.below hB1
    have hbb := hbb.on hB1
    have HFW := Lib.hid (few54_any S al nl cl l fa fn fc fs w1 (hS.below hbb) (h0.below hbb) (hF.below hbb))
    rw [HF.out] at HFW
    obtain ⟨d0, d1, d2, d3, d4, d5⟩ := hx1.g6
    go_wp2_with fail
    refine HFW.out.mono ?_
    rintro e w2 ⟨rfl, hB2⟩
    have hbb := hbb.on hB2
    have hx1 := hx1.below hB2
    clear HFW hB1 hB2 d0 d1 d2 d3 d4 d5
    go_wp2_with fail
    go_ret
    exact ⟨rfl, hbb⟩
  have h4 : S.sh.cs ≤ 4 := by
    unfold few53 at hf
    simp only [Bool.and_eq_true, decide_eq_true_eq] at hf
    omega
  have HF := Lib.hid hf
  have H4 := Lib.hid h4
  clear hf h4
  by_cases ho20 : 20 < on
  · have n1 : decide ((20 : Int) < (on : Int)) = true := by simp; omega
    have n2 : decide (20 < on) = true := by simpa using ho20
    go_enter Tryz.func5, Tryz.ntmps5
    go_wp2_with fail
    rw [HW0.out]
    go_wp2_with fail
    refine HSA.out.mono ?_
    rintro e w1 ⟨rfl, hB1⟩
    have hx1 := hx1.below hB1
    have hbb := hbb.on hB1
    have HFW := Lib.hid (few54_any S al nl cl l fa fn fc fs w1 (hS.below hbb) (h0.below hbb) (hF.below hbb))
    rw [HF.out] at HFW
    obtain ⟨d0, d1, d2, d3, d4, d5⟩ := hx1.g6
    go_wp2_with fail
    refine HFW.out.mono ?_
    rintro e w2 ⟨rfl, hB2⟩
    have hbb := hbb.on hB2
    have hx1 := hx1.below hB2
    clear HFW hB1 hB2 d0 d1 d2 d3 d4 d5
    go_wp2_with fail
    go_ret
    exact ⟨rfl, hbb⟩
  have n1 : decide ((20 : Int) < (on : Int)) = false := by simp; omega
  have n2 : decide (20 < on) = false := by simpa using ho20
  obtain ⟨E1, hE1⟩ : ∃ E, ruE S.sh l fs d = E := ⟨_, rfl⟩
  by_cases c1 : E1 = 0
  rotate_left
  · have HE1 := Lib.hid hE1
    have HR1 : Hid (ruR S.sh l fs d = []) := Lib.hid (by unfold ruR; rw [if_pos (by rw [hE1]; exact c1)])
    have g1 : (E1 != 0) = true := by simpa using c1
    clear hE1 c1
    go_enter Tryz.func5, Tryz.ntmps5
    go_wp2_with fail
    rw [HW0.out]
    go_wp2_with fail
    refine HSA.out.mono ?_
    rintro e w1 ⟨rfl, hB1⟩
    have hx1 := hx1.below hB1
    have hbb := hbb.on hB1
    have HFW := Lib.hid (few54_any S al nl cl l fa fn fc fs w1 (hS.below hbb) (h0.below hbb) (hF.below hbb))
    rw [HF.out] at HFW
    obtain ⟨d0, d1, d2, d3, d4, d5⟩ := hx1.g6
    go_wp2_with fail
    refine HFW.out.mono ?_
    rintro e w2 ⟨rfl, hB2⟩
    have hbb := hbb.on hB2
    have hx1 := hx1.below hB2
    clear HFW hB1 hB2 d0 d1 d2 d3 d4 d5
    obtain ⟨d0, d1, d2, d3, d4, d5⟩ := hx1.g6
    have hRR := Lib.hid (results_any ptC S al nl cl l fa fn fc fs d w2 (ht.below hbb) (hS.below hbb) (h0.below hbb) (hF.below hbb) hG)
    rw [HE1.out, HR1.out] at hRR
    go_wp2_with fail
    refine hRR.out.mono ?_
    rintro e w3 ⟨v3, rfl, hO3, hB3⟩
    have hbb := hbb.on hB3
    have hx1 := hx1.below hB3
    clear hRR d0 d1 d2 d3 d4 d5
    obtain ⟨a3, c3, rfl, hs3⟩ := hO3.sl encRs_len
    clear hO3 hs3
    simp only [List.length_nil]
    go_wp2_with fail
    go_ret
    exact ⟨rfl, hbb⟩
  subst c1
  have HE := Lib.hid hE1
  clear hE1
  go_enter Tryz.func5, Tryz.ntmps5
  go_wp2_with fail
  rw [HW0.out]
  go_wp2_with fail
  refine HSA.out.mono ?_
  rintro e w1 ⟨rfl, hB1⟩
  have hx1 := hx1.below hB1
  have hbb := hbb.on hB1
  have HFW := Lib.hid (few54_any S al nl cl l fa fn fc fs w1 (hS.below hbb) (h0.below hbb) (hF.below hbb))
  rw [HF.out] at HFW
  obtain ⟨d0, d1, d2, d3, d4, d5⟩ := hx1.g6
  go_wp2_with fail
  refine HFW.out.mono ?_
  rintro e w2 ⟨rfl, hB2⟩
  have hbb := hbb.on hB2
  have hx1 := hx1.below hB2
  clear HFW hB1 hB2 d0 d1 d2 d3 d4 d5
  obtain ⟨d0, d1, d2, d3, d4, d5⟩ := hx1.g6
  have hRR := Lib.hid (results_any ptC S al nl cl l fa fn fc fs d w2 (ht.below hbb) (hS.below hbb) (h0.below hbb) (hF.below hbb) hG)
  rw [HE.out, ruR_0 HE.out] at hRR
  go_wp2_with fail
  refine hRR.out.mono ?_
  rintro e w3 ⟨v3, rfl, hO3, hB3⟩
  have hbb := hbb.on hB3
  have hx1 := hx1.below hB3
  clear hRR d0 d1 d2 d3 d4 d5
  obtain ⟨a3, c3, rfl, hs3⟩ := hO3.sl encRs_len
  rw [resL_len, HL.out] at hs3 ⊢
  have HS3 := Lib.hid hs3
  have HBB := Lib.hid hbb
  have HX1 := Lib.hid hx1
  clear hs3 hO3 hB3 hbb hx1
  have hfn16 : fn ≤ 16 := by rw [← HFL.out]; exact (ruE_parts HE.out).2.1
  have hF3 := hF.below HBB.out
  obtain ⟨i27, hi27, hz270, hz271, hz272⟩ := info_parts info_ft
  have hfz := hF3.at'
  have hnil : fa = none → fn = 0 := fun e => by
    rcases Nat.eq_zero_or_pos fn with h | h
    · exact h
    · obtain ⟨b, o, e2, _⟩ := hfz h; rw [e] at e2; cases e2
  clear hfz
  have HFL5 : Hid ((fs.flatMap encFt).length = fn * 5) := Lib.hid (by rw [flat_len encFt_len, HFL.out])
  have HMF := Lib.hid (fun (w4 : World) (v' : Value) (h1 : w4.ownsRow w3.heap.size 48 5 v' (0 + fn) ([] ++ fs.flatMap encFt)) (h2 : (w3.alloc (.cells #[] 48)).grownBy w4 (Value.slice (some ⟨w3.heap.size, 0, none⟩) 0 0).ownBlock) => mixed_facts h1 h2 HFL.out)
  have HF3 := Lib.hid hF3
  have HNIL := Lib.hid hnil
  clear hF3 hnil
  go_wp2_with (at_builtin; refine wpList_append_any rfl _ _ 27 rfl w3.heap.size 48 i27 _ 5 56 Tryz.underlying27 hi27 hz270 hz271 hz272 rfl (by decide) (.slice (some ⟨w3.heap.size, 0, none⟩) 0 0) 0 [] (World.ownsRow_made w3 #[] 0 (Nat.le_refl _) (by simp [maxLen]) rfl) rfl fa fn fc (fs.flatMap encFt) rfl HNIL.out HFL5.out (fun a ha => (HF3.out.below (al0 _ _ _)).flat encFt_len (by decide) a ha) (fts_one hG) (by unfold maxLen; omega) (by omega) (by simp) ?_; intro v' w4 hown' hgrow hfr; obtain ⟨va, vc, rfl, hM4, hB4⟩ := HMF.out w4 v' hown' hgrow; clear hown' hgrow hfr)
  have HB4 := Lib.hid hB4
  have HM4 := Lib.hid hM4
  clear hM4 hB4 hi27 hz270 hz271 hz272
  go_loopw [61] (fun i wr => ∃ k : Nat, i = .int .i64 k ∧ k ≤ on ∧ (∃ ms, FtV wr w3.heap.size va fn vc fs ms) ∧ Below w3.heap.size w3 wr) (fun i _ => on - (intOf i).toNat)
  case atStart => exact ⟨0, rfl, by omega, ⟨fs, HM4.out⟩, HB4.out⟩
  case round =>
    obtain ⟨k, rfl, hk, ⟨ms, hm⟩, hB⟩ := hrel
    have s0 : (0 : Int) ≤ (k : Int) := by omega
    by_cases hlt : k < on
    · obtain ⟨ob, oo, rfl, hob⟩ := hO.at' (by omega)
      obtain ⟨x8, hx8⟩ := hO.get hlt
      have e8 := (hO.below (HBB.out.on hB)).b1 hx8
      have s1 : (k : Int) < (on : Int) := by omega
      have mO := hO.mx
      have cO := hO.cap
      unfold maxLen at mO
      have hx256 := hO8 _ (List.mem_of_getElem? hx8)
      clear hx8
      by_cases hf0 : fn = 0
      · have z1 : decide ((0 : Int) < (fn : Int)) = false := by simp [hf0]
        have z2 : decide (0 < fn) = false := by simp [hf0]
        have HM := Lib.hid hm
        have HB := Lib.hid hB
        clear hm hB hf0
        go_wp2_with fail
        go_roundw
        case rel => exact ⟨k + 1, by go_num, by omega, ⟨ms, HM.out⟩, HB.out⟩
        case measure => simp [intOf]; omega
      · have hp0 : 0 < fn := by omega
        have z1 : decide ((0 : Int) < (fn : Int)) = true := by simpa using hp0
        have z2 : decide (0 < fn) = true := by simpa using hp0
        have z3 : ¬ (fn : Int) = 0 := by omega
        have z4 : ((fn : Int) == 0) = false := by simpa using hf0
        obtain ⟨g, rfl, hg1, hg2⟩ := hm.spot hp0
        obtain ⟨p, hp⟩ : ∃ p, k % fn = p := ⟨_, rfl⟩
        obtain ⟨q, hq⟩ : ∃ q, x8 % fn = q := ⟨_, rfl⟩
        have hpl : p < fn := by rw [← hp]; exact Nat.mod_lt _ hp0
        have hql : q < fn := by rw [← hq]; exact Nat.mod_lt _ hp0
        have t1 : Int.tmod (k : Int) (fn : Int) = (p : Int) := by rw [← hp, Int.ofNat_tmod]
        have t2 : Int.tmod (x8 : Int) (fn : Int) = (q : Int) := by rw [← hq, Int.ofNat_tmod]
        have t3 : IntKind.i64.wrap (x8 : Int) = (x8 : Int) := by rw [IntKind.wrap_i64]; omega
        have p0 : (0 : Int) ≤ (p : Int) := by omega
        have p1 : (p : Int) < (fn : Int) := by omega
        have q0 : (0 : Int) ≤ (q : Int) := by omega
        have q1 : (q : Int) < (fn : Int) := by omega
        have HB := Lib.hid hB
        have HM := Lib.hid hm
        clear hm hB hp hq hf0
        go_wp2_with fail
        go_quiet (fail)
        obtain ⟨w5, hw5⟩ : ∃ w5, wr.drewN nq = w5 := ⟨_, rfl⟩
        have hb5 : Below wr.heap.size wr w5 := by rw [← hw5]; exact Below.drewN0 _ _
        have hm := HM.out.below hb5
        replace HB := Lib.hid (HB.out.on hb5)
        rw [hw5]
        clear hw5 hb5 HM e8
        have hml := hm.sl
        obtain ⟨x, hx⟩ := hml.get hpl
        obtain ⟨y, hy⟩ := hml.get hql
        obtain ⟨e0, e1, e2, e3, e4⟩ := hml.ft5 hx
        obtain ⟨f0, f1, f2, f3, f4⟩ := hml.ft5 hy
        obtain ⟨ga, gn, gc, hgx⟩ := hm.gr hG x (List.mem_of_getElem? hx)
        obtain ⟨ha, hn, hc, hgy⟩ := hm.gr hG y (List.mem_of_getElem? hy)
        have hmd := hm.below ((Below.refl _ _).drew : Below w5.heap.size w5 w5.drew)
        have HSW := Lib.hid (hmd.swap hx hy)
        have HBD := Lib.hid (HB.out.drew)
        have hln : ms.length = fn := by rw [hm.alike.len, hm.len]
        have HTH1 := Lib.hid (hmd.own.there encFt_len hln hpl)
        have HTH3 := Lib.hid ((hmd.own.setAt encFt_len hln hpl y).there encFt_len (by rw [List.length_set]; exact hln) hql)
        have mM := hml.mx
        have cM := hml.cap
        unfold maxLen at mM
        rw [hgx] at e4
        rw [hgy] at f4
        rw [Nat.zero_add] at e0 e1 e2 e3 e4 f0 f1 f2 f3 f4
        have HEX : Hid (encFt x = [.int .i64 x.pz, .int .i64 x.kd, .int .i64 x.un, .int .i64 x.dy, .slice ga gn gc]) := Lib.hid (by unfold encFt; rw [hgx])
        have HEY : Hid (encFt y = [.int .i64 y.pz, .int .i64 y.kd, .int .i64 y.un, .int .i64 y.dy, .slice ha hn hc]) := Lib.hid (by unfold encFt; rw [hgy])
        rw [HEX.out] at HSW
        rw [HEY.out] at HSW HTH3
        clear hm hmd hx hy hml hgx hgy hln
        go_wp2_with fail
        apply region_fix (R := fun w' => ∃ ms', FtV w' w3.heap.size (some ⟨g, 0, none⟩) fn vc fs ms' ∧ Below w3.heap.size w3 w')
        · refine wp_region_held_drew (S := fun _ => True) (by kernel_rfl) trivial (fun hS => ?_)
          refine wpAnyH_take (i := 0) (v := ?_) rfl (by kernel_rfl) (by kernel_rfl) (by kernel_rfl) NormQ.hq (Or.inl ⟨by rfl, ?_⟩) (by assumption) ?_
          rotate_left
          focus
            intro w hSw
            (try dsimp only at hSw)
            (try go_split_ands)
            go_simp
            try with_reducible rfl
          (try simp only [Act.put, List.getElem_toArray, List.getElem_cons_zero, List.setIfInBounds_toArray, List.set_cons_zero, List.set_cons_succ])
          refine wpAnyH_take (i := 1) (v := ?_) rfl (by kernel_rfl) (by kernel_rfl) (by kernel_rfl) NormQ.hq (Or.inl ⟨by rfl, ?_⟩) (by assumption) ?_
          rotate_left
          focus
            intro w hSw
            (try dsimp only at hSw)
            (try go_split_ands)
            go_simp
            try with_reducible rfl
          (try simp only [Act.put, List.getElem_toArray, List.getElem_cons_succ, List.getElem_cons_zero, List.setIfInBounds_toArray, List.set_cons_zero, List.set_cons_succ])
          refine wpAnyH_take (i := 2) (v := ?_) rfl (by kernel_rfl) (by kernel_rfl) (by kernel_rfl) NormQ.hq (Or.inl ⟨by rfl, ?_⟩) (by assumption) ?_
          rotate_left
          focus
            intro w hSw
            (try dsimp only at hSw)
            (try go_split_ands)
            go_simp
            try with_reducible rfl
          (try simp only [Act.put, List.getElem_toArray, List.getElem_cons_succ, List.getElem_cons_zero, List.setIfInBounds_toArray, List.set_cons_zero, List.set_cons_succ])
          refine wpAnyH_take (i := 3) (v := ?_) rfl (by kernel_rfl) (by kernel_rfl) (by kernel_rfl) NormQ.hq (Or.inl ⟨by rfl, ?_⟩) (by assumption) ?_
          rotate_left
          focus
            intro w hSw
            (try dsimp only at hSw)
            (try go_split_ands)
            go_simp
            try with_reducible rfl
          (try simp only [Act.put, List.getElem_toArray, List.getElem_cons_succ, List.getElem_cons_zero, List.setIfInBounds_toArray, List.set_cons_zero, List.set_cons_succ])
          refine wpAnyH_take (i := 4) (v := ?_) rfl (by kernel_rfl) (by kernel_rfl) (by kernel_rfl) NormQ.hq (Or.inl ⟨by rfl, ?_⟩) (by assumption) ?_
          rotate_left
          focus
            intro w hSw
            (try dsimp only at hSw)
            (try go_split_ands)
            go_simp
            try with_reducible rfl
          (try simp only [Act.put, List.getElem_toArray, List.getElem_cons_succ, List.getElem_cons_zero, List.setIfInBounds_toArray, List.set_cons_zero, List.set_cons_succ])
          refine wpAnyH_take (i := 5) (v := ?_) rfl (by kernel_rfl) (by kernel_rfl) (by kernel_rfl) NormQ.hq (Or.inl ⟨by rfl, ?_⟩) (by assumption) ?_
          rotate_left
          focus
            intro w hSw
            (try dsimp only at hSw)
            (try go_split_ands)
            go_simp
            try with_reducible rfl
          (try simp only [Act.put, List.getElem_toArray, List.getElem_cons_succ, List.getElem_cons_zero, List.setIfInBounds_toArray, List.set_cons_zero, List.set_cons_succ])
          refine wpAnyH_take (i := 6) (v := ?_) rfl (by kernel_rfl) (by kernel_rfl) (by kernel_rfl) NormQ.hq (Or.inl ⟨by rfl, ?_⟩) (by assumption) ?_
          rotate_left
          focus
            intro w hSw
            (try dsimp only at hSw)
            (try go_split_ands)
            go_simp
            try with_reducible rfl
          (try simp only [Act.put, List.getElem_toArray, List.getElem_cons_succ, List.getElem_cons_zero, List.setIfInBounds_toArray, List.set_cons_zero, List.set_cons_succ])
          refine wpAnyH_take (i := 8) (v := ?_) rfl (by kernel_rfl) (by kernel_rfl) (by kernel_rfl) NormQ.hq (Or.inl ⟨by rfl, ?_⟩) (by assumption) ?_
          rotate_left
          focus
            intro w hSw
            (try dsimp only at hSw)
            (try go_split_ands)
            go_simp
            try with_reducible rfl
          (try simp only [Act.put, List.getElem_toArray, List.getElem_cons_succ, List.getElem_cons_zero, List.setIfInBounds_toArray, List.set_cons_zero, List.set_cons_succ])
          refine wpAnyH_take (i := 9) (v := ?_) rfl (by kernel_rfl) (by kernel_rfl) (by kernel_rfl) NormQ.hq (Or.inl ⟨by rfl, ?_⟩) (by assumption) ?_
          rotate_left
          focus
            intro w hSw
            (try dsimp only at hSw)
            (try go_split_ands)
            go_simp
            try with_reducible rfl
          (try simp only [Act.put, List.getElem_toArray, List.getElem_cons_succ, List.getElem_cons_zero, List.setIfInBounds_toArray, List.set_cons_zero, List.set_cons_succ])
          refine wpAnyH_take (i := 10) (v := ?_) rfl (by kernel_rfl) (by kernel_rfl) (by kernel_rfl) NormQ.hq (Or.inl ⟨by rfl, ?_⟩) (by assumption) ?_
          rotate_left
          focus
            intro w hSw
            (try dsimp only at hSw)
            (try go_split_ands)
            go_simp
            try with_reducible rfl
          (try simp only [Act.put, List.getElem_toArray, List.getElem_cons_succ, List.getElem_cons_zero, List.setIfInBounds_toArray, List.set_cons_zero, List.set_cons_succ])
          refine wpAnyH_ready (rs := [7, 11]) (by kernel_rfl) (by simp) (AllReadyH.cons rfl (fun K hK => ?_) (AllReadyH.cons rfl (fun K hK => ?_) AllReadyH.nil))
          · skip
            go_simp
            refine hK.out _ _ (trivial) (fun hS => ?_)
            clear hK K
            (try simp only [Act.put, List.getElem_toArray, List.getElem_cons_succ, List.getElem_cons_zero, List.setIfInBounds_toArray, List.set_cons_zero, List.set_cons_succ])
            refine wpAnyH_ready (rs := [11]) (by kernel_rfl) (by simp) (AllReadyH.cons rfl (fun K hK => ?_) AllReadyH.nil)
            go_simp
            refine hK.out _ _ (trivial) (fun hS => ?_)
            clear hK K
            (try simp only [Act.put, List.getElem_toArray, List.getElem_cons_succ, List.getElem_cons_zero, List.setIfInBounds_toArray, List.set_cons_zero, List.set_cons_succ])
            refine wpAnyH_take (i := 12) (v := ?_) rfl (by kernel_rfl) (by kernel_rfl) (by kernel_rfl) NormQ.hq (Or.inl ⟨by rfl, ?_⟩) (by assumption) ?_
            rotate_left
            focus
              intro w hSw
              (try dsimp only at hSw)
              (try go_split_ands)
              go_simp
              try with_reducible rfl
            (try simp only [Act.put, List.getElem_toArray, List.getElem_cons_succ, List.getElem_cons_zero, List.setIfInBounds_toArray, List.set_cons_zero, List.set_cons_succ])
            refine wpAnyH_ready (rs := [13]) (by kernel_rfl) (by simp) (AllReadyH.cons rfl (fun K hK => ?_) AllReadyH.nil)
            rw [if_pos (by rfl)]
            refine wp_store_mid 48 _ _ rfl g (p * 5) _ rfl rfl HTH1.out (by kernel_rfl) (by simp [Value.oneCell']) ?_
            refine hK.out _ _ (trivial) (fun hS => ?_)
            clear hK K
            (try simp only [Act.put, List.getElem_toArray, List.getElem_cons_succ, List.getElem_cons_zero])
            refine wpAnyH_take (i := 14) (v := ?_) rfl (by kernel_rfl) (by kernel_rfl) (by kernel_rfl) NormQ.hq (Or.inl ⟨by rfl, ?_⟩) (by assumption) ?_
            rotate_left
            focus
              intro w hSw
              (try dsimp only at hSw)
              (try go_split_ands)
              go_simp
              try with_reducible rfl
            (try simp only [Act.put, List.getElem_toArray, List.getElem_cons_succ, List.getElem_cons_zero, List.setIfInBounds_toArray, List.set_cons_zero, List.set_cons_succ])
            refine wpAnyH_ready (rs := [15]) (by kernel_rfl) (by simp) (AllReadyH.cons rfl (fun K hK => ?_) AllReadyH.nil)
            rw [if_pos (by rfl)]
            refine wp_store_mid 48 _ _ rfl g (q * 5) _ rfl rfl HTH3.out (by kernel_rfl) (by simp [Value.oneCell']) ?_
            refine hK.out _ _ (trivial) (fun hS => ?_)
            clear hK K
            (try simp only [Act.put, List.getElem_toArray, List.getElem_cons_succ, List.getElem_cons_zero])
            refine wpAnyH_done (by kernel_rfl) ?_ _
            exact ⟨rfl, rfl, _, HSW.out, below_setCs hg1 _ _ _ (below_setCs hg1 _ _ _ HBD.out)⟩
          · skip
            go_simp
            refine hK.out _ _ (trivial) (fun hS => ?_)
            clear hK K
            (try simp only [Act.put, List.getElem_toArray, List.getElem_cons_succ, List.getElem_cons_zero, List.setIfInBounds_toArray, List.set_cons_zero, List.set_cons_succ])
            refine wpAnyH_ready (rs := [7]) (by kernel_rfl) (by simp) (AllReadyH.cons rfl (fun K hK => ?_) AllReadyH.nil)
            go_simp
            refine hK.out _ _ (trivial) (fun hS => ?_)
            clear hK K
            (try simp only [Act.put, List.getElem_toArray, List.getElem_cons_succ, List.getElem_cons_zero, List.setIfInBounds_toArray, List.set_cons_zero, List.set_cons_succ])
            refine wpAnyH_take (i := 12) (v := ?_) rfl (by kernel_rfl) (by kernel_rfl) (by kernel_rfl) NormQ.hq (Or.inl ⟨by rfl, ?_⟩) (by assumption) ?_
            rotate_left
            focus
              intro w hSw
              (try dsimp only at hSw)
              (try go_split_ands)
              go_simp
              try with_reducible rfl
            (try simp only [Act.put, List.getElem_toArray, List.getElem_cons_succ, List.getElem_cons_zero, List.setIfInBounds_toArray, List.set_cons_zero, List.set_cons_succ])
            refine wpAnyH_ready (rs := [13]) (by kernel_rfl) (by simp) (AllReadyH.cons rfl (fun K hK => ?_) AllReadyH.nil)
            rw [if_pos (by rfl)]
            refine wp_store_mid 48 _ _ rfl g (p * 5) _ rfl rfl HTH1.out (by kernel_rfl) (by simp [Value.oneCell']) ?_
            refine hK.out _ _ (trivial) (fun hS => ?_)
            clear hK K
            (try simp only [Act.put, List.getElem_toArray, List.getElem_cons_succ, List.getElem_cons_zero])
            refine wpAnyH_take (i := 14) (v := ?_) rfl (by kernel_rfl) (by kernel_rfl) (by kernel_rfl) NormQ.hq (Or.inl ⟨by rfl, ?_⟩) (by assumption) ?_
            rotate_left
            focus
              intro w hSw
              (try dsimp only at hSw)
              (try go_split_ands)
              go_simp
              try with_reducible rfl
            (try simp only [Act.put, List.getElem_toArray, List.getElem_cons_succ, List.getElem_cons_zero, List.setIfInBounds_toArray, List.set_cons_zero, List.set_cons_succ])
            refine wpAnyH_ready (rs := [15]) (by kernel_rfl) (by simp) (AllReadyH.cons rfl (fun K hK => ?_) AllReadyH.nil)
            rw [if_pos (by rfl)]
            refine wp_store_mid 48 _ _ rfl g (q * 5) _ rfl rfl HTH3.out (by kernel_rfl) (by simp [Value.oneCell']) ?_
            refine hK.out _ _ (trivial) (fun hS => ?_)
            clear hK K
            (try simp only [Act.put, List.getElem_toArray, List.getElem_cons_succ, List.getElem_cons_zero])
            refine wpAnyH_done (by kernel_rfl) ?_ _
            exact ⟨rfl, rfl, _, HSW.out, below_setCs hg1 _ _ _ (below_setCs hg1 _ _ _ HBD.out)⟩
        rintro w6 ⟨ms', hm', hB'⟩
        have HM := Lib.hid hm'
        have HBn := Lib.hid hB'
        clear hm' hB'
        go_wp2_with fail
        go_roundw
        case rel => exact ⟨k + 1, by go_num, by omega, ⟨ms', HM.out⟩, HBn.out⟩
        case measure => simp [intOf]; omega
    · obtain rfl : on = k := by omega
      have HMS := Lib.hid (ord_mixed HE.out hm.alike)
      obtain ⟨w6, hw6⟩ : ∃ w6, w6 = wr := ⟨_, rfl⟩
      rw [← hw6] at hm hB ⊢
      clear hw6
      have hsz6 : w3.heap.size ≤ w6.heap.size := hB.size
      have HM := Lib.hid hm
      have HB6 := Lib.hid hB
      clear hm hB
      go_wp2_with fail
      go_loopw [18, 95] (fun v i wr => ∃ k : Nat, i = .int .i64 k ∧ k ≤ fn ∧ OwnSL encFt 5 wr w6.heap.size 48 v (lessTo d ms k) ∧ Below w6.heap.size w6 wr) (fun _ i _ => fn - (intOf i).toNat)
      case atStart => exact ⟨0, rfl, by omega, OwnSL.nil _ _ _ _ _, Below.refl _ _⟩
      case round =>
        obtain ⟨k, rfl, hk, hO2, hB⟩ := hrel
        by_cases hlt : k < fn
        · obtain ⟨g, rfl, -, -⟩ := HM.out.spot (by omega)
          have hml := (HM.out.below hB).sl
          obtain ⟨x, hx⟩ := hml.get hlt
          obtain ⟨e0, e1, e2, e3, e4⟩ := hml.ft5 hx
          obtain ⟨ga, gn, gc, hgx⟩ := HM.out.gr hG x (List.mem_of_getElem? hx)
          rw [hgx] at e4
          rw [Nat.zero_add] at e0 e1 e2 e3 e4
          have HEX : Hid (encFt x = [.int .i64 x.pz, .int .i64 x.kd, .int .i64 x.un, .int .i64 x.dy, .slice ga gn gc]) := Lib.hid (by unfold encFt; rw [hgx])
          have HST := Lib.hid (lessTo_step (d := d) hx)
          have hlen := lessTo_len (d := d) ms k
          have mM := hml.mx
          have cM := hml.cap
          unfold maxLen at mM
          have s0 : (0 : Int) ≤ (k : Int) := by omega
          have s1 : (k : Int) < (fn : Int) := by omega
          have hzr := hB.size
          obtain ⟨N, hN⟩ : ∃ N, (lessTo d ms k).length = N := ⟨_, rfl⟩
          have hal := al0 wr #[.int .i64 x.pz, .int .i64 x.kd, .int .i64 x.un, .int .i64 x.dy, .slice ga gn gc] 48
          obtain ⟨q0, q1, q2, q3, q4⟩ := (Box.new wr #[.int .i64 x.pz, .int .i64 x.kd, .int .i64 x.un, .int .i64 x.dy, .slice ga gn gc] 48).g5
          obtain ⟨va2, vc2, rfl, _, _⟩ := own_slice hO2
          have HOx := Lib.hid (hO2.below hal)
          have HBx := Lib.hid (hB.on hal)
          rw [hN] at HOx hlen ⊢
          have HN := Lib.hid hN
          clear hO2 hB hx hgx hal hml hN
          by_cases c1 : x.kd = 3
          · have n3 : (x.kd != 3) = false := by simpa using c1
            have HS : Hid (lessTo d ms (k + 1) = lessTo d ms k) := Lib.hid (by rw [HST.out]; unfold lessB; simp [c1])
            clear c1
            go_wp2_with fail
            go_roundw
            case rel => exact ⟨k + 1, by go_num, by omega, by rw [HS.out]; exact HOx.out, HBx.out⟩
            case measure => simp [intOf]; omega
          have n3 : (x.kd != 3) = true := by simpa using c1
          by_cases c2 : x.dy ≤ d
          rotate_left
          · have n4 : decide (x.dy ≤ d) = false := by simpa using c2
            have HS : Hid (lessTo d ms (k + 1) = lessTo d ms k) := Lib.hid (by rw [HST.out]; unfold lessB; simp [n4])
            clear c1 c2
            go_wp2_with fail
            go_roundw
            case rel => exact ⟨k + 1, by go_num, by omega, by rw [HS.out]; exact HOx.out, HBx.out⟩
            case measure => simp [intOf]; omega
          have n4 : decide (x.dy ≤ d) = true := by simpa using c2
          have HS : Hid (lessTo d ms (k + 1) = lessTo d ms k ++ [x]) := Lib.hid (by rw [HST.out]; unfold lessB; simp [n4, c1])
          clear c1 c2
          have hown := HOx.out
          unfold OwnSL at hown
          rw [HN.out] at hown
          have HLU := Lib.hid (World.ownsRow.lt hown)
          obtain ⟨i27, hi27, hz270, hz271, hz272⟩ := info_parts info_ft
          have HNW := Lib.hid (new5b wr (.cells #[.int .i64 x.pz, .int .i64 x.kd, .int .i64 x.un, .int .i64 x.dy, .slice ga gn gc] 48) (.int .i64 x.pz) (.int .i64 x.kd) (.int .i64 x.un) (.int .i64 x.dy) (.slice ga gn gc) 48)
          go_wp2_with (at_builtin; refine wpList_append_any rfl _ _ 27 rfl w6.heap.size 48 i27 _ 5 56 Tryz.underlying27 hi27 hz270 hz271 hz272 rfl (by decide) (.slice va2 N vc2) N _ (hown.alloc _) rfl (some ⟨wr.heap.size + 1, 0, none⟩) 1 1 [.int .i64 x.pz, .int .i64 x.kd, .int .i64 x.un, .int .i64 x.dy, .slice ga gn gc] rfl (fun h => by cases h) rfl (fun a ha => by injection ha with ha; rw [← ha]; exact HNW.out) (by simp [Value.oneCell']) (by unfold maxLen; omega) (by omega) (by simp; omega) ?_; intro v' w8 hown' hgrow hfr)
          go_roundw
          case rel =>
            refine ⟨k + 1, by go_num, by omega, ?_, (HBx.out.alloc (by simp; omega) _).grown hgrow (by simp; omega) (fun q e => (HLU.out q e).1)⟩
            rw [HS.out]
            have h9 : w8.ownsRow w6.heap.size 48 5 v' ((lessTo d ms k).length + 1) ((lessTo d ms k).flatMap encFt ++ encFt x) := by
              rw [HN.out, HEX.out]
              exact hown'
            exact OwnSL.snoc h9
          case measure => simp [intOf]; omega
        · obtain rfl : fn = k := by omega
          have HLF : Hid (lessTo d ms fn = ms.filter (lessB d)) := Lib.hid (lessTo_all ms (by rw [HM.out.alike.len, HM.out.len]; exact Nat.le_refl _))
          rw [HLF.out] at hO2
          have HLQ := Lib.hid (ord_less HE.out HM.out.alike)
          have HLG : Hid (GrOk (ms.filter (lessB d))) := Lib.hid ((HM.out.gr hG).of fun f hf => (List.mem_filter.1 hf).1)
          obtain ⟨la, lc, rfl, hsl⟩ := hO2.sl encFt_len
          have HLO := Lib.hid (fun q e => (hO2.lt q e).1)
          obtain ⟨ls, hls⟩ : ∃ ls, ms.filter (lessB d) = ls := ⟨_, rfl⟩
          rw [hls] at hsl HLQ HLG HLO ⊢
          obtain ⟨ln, hln⟩ : ∃ ln, ls.length = ln := ⟨_, rfl⟩
          rw [hln] at hsl HLO ⊢
          have HL7 := Lib.hid hsl
          have hB7 : Below w3.heap.size w3 wr := HB6.out.trans (hB.mono hsz6)
          have HBW := Lib.hid (HBB.out.on hB7)
          have HX7 := Lib.hid (HX1.out.below hB7)
          have HR7 := Lib.hid (HS3.out.below hB7)
          have HM7 := Lib.hid (HM.out.below hB)
          have HB7 := Lib.hid hB7
          clear hsl hls hln hO2 hB hB7 HLF
          have v0 : (0 : Int) ≤ (fn : Int) := by omega
          by_cases hf0 : fn = 0
          · have z1 : decide ((0 : Int) < (fn : Int)) = false := by simp [hf0]
            have z2 : decide (0 < fn) = false := by simp [hf0]
            replace HM7 := Lib.hid HM7.out.sl
            clear hf0
            obtain ⟨d0, d1, d2, d3, d4, d5⟩ := HX7.out.g6
            have hRR := Lib.hid (results_any ptC S al nl cl l va fn vc ms d wr (ht.below HBW.out) (hS.below HBW.out) (h0.below HBW.out) HM7.out (HM.out.gr hG))
            rw [HMS.out.1, HMS.out.2.1, ruR_0 HE.out] at hRR
            go_wp2_with fail
            refine hRR.out.mono ?_
            rintro e w8 ⟨v8, rfl, hO8, hB8⟩
            obtain ⟨a8, c8, rfl, hs8⟩ := hO8.sl encRs_len
            rw [resL_len, HL.out] at hs8 ⊢
            have HR8 := Lib.hid hs8
            replace HBW := Lib.hid (HBW.out.on hB8)
            replace HX7 := Lib.hid (HX7.out.below hB8)
            replace HR7 := Lib.hid (HR7.out.below hB8)
            replace HM7 := Lib.hid (HM7.out.below hB8)
            replace HL7 := Lib.hid (HL7.out.below hB8)
            clear hRR hO8 hs8 hB8 d0 d1 d2 d3 d4 d5
            obtain ⟨d0, d1, d2, d3, d4, d5⟩ := HX7.out.g6
            have hRR := Lib.hid (results_any ptC S al nl cl l la ln lc ls d w8 (ht.below HBW.out) (hS.below HBW.out) (h0.below HBW.out) HL7.out HLG.out)
            rw [HLQ.out.1, HLQ.out.2.1, ruR_0 HE.out] at hRR
            go_wp2_with fail
            refine hRR.out.mono ?_
            rintro e w9 ⟨v9, rfl, hO9, hB9⟩
            obtain ⟨a9, c9, rfl, hs9⟩ := hO9.sl encRs_len
            rw [resL_len, HL.out] at hs9 ⊢
            have HR9 := Lib.hid hs9
            replace HBW := Lib.hid (HBW.out.on hB9)
            replace HX7 := Lib.hid (HX7.out.below hB9)
            replace HR7 := Lib.hid (HR7.out.below hB9)
            replace HR8 := Lib.hid (HR8.out.below hB9)
            replace HM7 := Lib.hid (HM7.out.below hB9)
            replace HL7 := Lib.hid (HL7.out.below hB9)
            clear hRR hO9 hs9 hB9 d0 d1 d2 d3 d4 d5
            obtain ⟨E9, hE9⟩ : ∃ E9, agE S.sh l fs d = E9 := ⟨_, rfl⟩
            have HE9 := Lib.hid hE9
            clear hE9
            obtain ⟨d0, d1, d2, d3, d4, d5⟩ := HX7.out.g6
            have hRR := Lib.hid (again_any S al nl cl l fa fn fc fs d w9 (ht.below HBW.out) (hS.below HBW.out) (h0.below HBW.out) (hF.below HBW.out) hG H4.out)
            rw [HE9.out] at hRR
            go_wp2_with fail
            refine hRR.out.mono ?_
            rintro e w10 ⟨P, hP, rfl, hPI, -, hB10⟩
            have hal := al0 w10 #[.slice P.ba P.bn P.bc, .slice P.wa P.wn P.wc, .slice P.ua P.un P.uc] 35
            have HXP := Lib.hid (Box.new w10 #[.slice P.ba P.bn P.bc, .slice P.wa P.wn P.wc, .slice P.ua P.un P.uc] 35)
            have HPI := Lib.hid (hPI.below hal)
            have HP := Lib.hid hP
            replace HBW := Lib.hid ((HBW.out.on hB10).on hal)
            replace HX7 := Lib.hid ((HX7.out.below hB10).below hal)
            replace HR7 := Lib.hid ((HR7.out.below hB10).below hal)
            replace HR8 := Lib.hid ((HR8.out.below hB10).below hal)
            replace HR9 := Lib.hid ((HR9.out.below hB10).below hal)
            replace HM7 := Lib.hid ((HM7.out.below hB10).below hal)
            replace HL7 := Lib.hid ((HL7.out.below hB10).below hal)
            clear hRR hB10 hPI hP hal d0 d1 d2 d3 d4 d5
            obtain ⟨d0, d1, d2, d3, d4, d5⟩ := HX7.out.g6
            have hRR := Lib.hid (again_any S al nl cl l va fn vc ms d _ (ht.below HBW.out) (hS.below HBW.out) (h0.below HBW.out) HM7.out (HM.out.gr hG) H4.out)
            rw [HMS.out.2.2.1, HMS.out.2.2.2, HE9.out] at hRR
            go_wp2_with fail
            refine hRR.out.mono ?_
            rintro e w11 ⟨Q, hQ, rfl, hQI, -, hB11⟩
            have hal := al0 w11 #[.slice Q.ba Q.bn Q.bc, .slice Q.wa Q.wn Q.wc, .slice Q.ua Q.un Q.uc] 35
            have HXQ := Lib.hid (Box.new w11 #[.slice Q.ba Q.bn Q.bc, .slice Q.wa Q.wn Q.wc, .slice Q.ua Q.un Q.uc] 35)
            have HQI := Lib.hid (hQI.below hal)
            have HQQ := Lib.hid hQ
            replace HBW := Lib.hid ((HBW.out.on hB11).on hal)
            replace HX7 := Lib.hid ((HX7.out.below hB11).below hal)
            replace HR7 := Lib.hid ((HR7.out.below hB11).below hal)
            replace HR8 := Lib.hid ((HR8.out.below hB11).below hal)
            replace HR9 := Lib.hid ((HR9.out.below hB11).below hal)
            replace HL7 := Lib.hid ((HL7.out.below hB11).below hal)
            replace HXP := Lib.hid ((HXP.out.below hB11).below hal)
            replace HPI := Lib.hid ((HPI.out.below hB11).below hal)
            clear hRR hB11 hQI hQ hal d0 d1 d2 d3 d4 d5 HM7
            obtain ⟨d0, d1, d2, d3, d4, d5⟩ := HX7.out.g6
            have hRR := Lib.hid (again_any S al nl cl l la ln lc ls d _ (ht.below HBW.out) (hS.below HBW.out) (h0.below HBW.out) HL7.out HLG.out H4.out)
            rw [HLQ.out.2.2.1, HLQ.out.2.2.2, HE9.out] at hRR
            go_wp2_with fail
            refine hRR.out.mono ?_
            rintro e w12 ⟨R, hR, rfl, hRI, -, hB12⟩
            have hal := al0 w12 #[.slice R.ba R.bn R.bc, .slice R.wa R.wn R.wc, .slice R.ua R.un R.uc] 35
            have HXR := Lib.hid (Box.new w12 #[.slice R.ba R.bn R.bc, .slice R.wa R.wn R.wc, .slice R.ua R.un R.uc] 35)
            have HRI := Lib.hid (hRI.below hal)
            have HRR := Lib.hid hR
            replace HBW := Lib.hid ((HBW.out.on hB12).on hal)
            replace HR7 := Lib.hid ((HR7.out.below hB12).below hal)
            replace HR8 := Lib.hid ((HR8.out.below hB12).below hal)
            replace HR9 := Lib.hid ((HR9.out.below hB12).below hal)
            replace HXP := Lib.hid ((HXP.out.below hB12).below hal)
            replace HPI := Lib.hid ((HPI.out.below hB12).below hal)
            replace HXQ := Lib.hid ((HXQ.out.below hB12).below hal)
            replace HQI := Lib.hid ((HQI.out.below hB12).below hal)
            clear hRR hB12 hRI hR hal d0 d1 d2 d3 d4 d5 HL7 HX7
            have g9 : (E9 == E9) = true := by simp
            go_wp2_with fail
            refine (sameRs_any _ _ _ _ _ _ _ _ _ HR7.out HR8.out).mono ?_
            rintro e w' ⟨rfl, q1, rfl⟩
            rw [show decide (resL fs d l = resL fs d l) = true from decide_eq_true rfl]
            go_wp2_with fail
            refine (sameRs_any _ _ _ _ _ _ _ _ _ (HR7.out.drewN _) (HR9.out.drewN _)).mono ?_
            rintro e w' ⟨rfl, q2, rfl⟩
            rw [show decide (resL fs d l = resL fs d l) = true from decide_eq_true rfl]
            obtain ⟨wz, hwz⟩ : ∃ wz, ((w12.alloc (.cells #[.slice R.ba R.bn R.bc, .slice R.wa R.wn R.wc, .slice R.ua R.un R.uc] 35)).drewN q1).drewN q2 = wz := ⟨_, rfl⟩
            have hbz : Below (w12.alloc (.cells #[.slice R.ba R.bn R.bc, .slice R.wa R.wn R.wc, .slice R.ua R.un R.uc] 35)).heap.size (w12.alloc (.cells #[.slice R.ba R.bn R.bc, .slice R.wa R.wn R.wc, .slice R.ua R.un R.uc] 35)) wz := by rw [← hwz]; exact below_drewN (below_drewN (Below.refl _ _) _) _
            rw [hwz]
            replace HBW := Lib.hid (HBW.out.on hbz)
            replace HXP := Lib.hid (HXP.out.below hbz)
            replace HPI := Lib.hid (HPI.out.below hbz)
            replace HXQ := Lib.hid (HXQ.out.below hbz)
            replace HQI := Lib.hid (HQI.out.below hbz)
            replace HXR := Lib.hid (HXR.out.below hbz)
            replace HRI := Lib.hid (HRI.out.below hbz)
            clear hwz hbz HR7 HR8 HR9
            obtain ⟨x0, x1, x2⟩ := HXP.out.g3
            obtain ⟨y0, y1, y2⟩ := HXQ.out.g3
            have HS1 := Lib.hid (same53_any P Q wz HPI.out HQI.out)
            rw [show rkSame P.r Q.r = true by rw [HP.out, HQQ.out]; exact rkSame_self _] at HS1
            go_wp2_with fail
            refine HS1.out.mono ?_
            rintro e wy ⟨rfl, hBy⟩
            clear HS1 x0 x1 x2 y0 y1 y2
            obtain ⟨x0, x1, x2⟩ := (HXP.out.below hBy).g3
            obtain ⟨z0, z1, z2⟩ := (HXR.out.below hBy).g3
            have HS2 := Lib.hid (same53_any P R wy (HPI.out.below hBy) (HRI.out.below hBy))
            rw [show rkSame P.r R.r = true by rw [HP.out, HRR.out]; exact rkSame_self _] at HS2
            have HBy := Lib.hid (HBW.out.on hBy)
            clear hBy
            go_wp2_with fail
            refine HS2.out.mono ?_
            rintro e wx ⟨rfl, hBx⟩
            go_wp2_with fail
            go_ret
            exact ⟨rfl, HBy.out.on hBx⟩
          have hp0 : 0 < fn := by omega
          have z1 : decide ((0 : Int) < (fn : Int)) = true := by simpa using hp0
          have z2 : decide (0 < fn) = true := by simpa using hp0
          by_cases hf16 : fn < 16
          rotate_left
          · have z3 : decide ((fn : Int) < 16) = false := by simp; omega
            have z4 : decide (fn < 16) = false := by simpa using hf16
            replace HM7 := Lib.hid HM7.out.sl
            clear hf0 hf16 hp0
            obtain ⟨d0, d1, d2, d3, d4, d5⟩ := HX7.out.g6
            have hRR := Lib.hid (results_any ptC S al nl cl l va fn vc ms d wr (ht.below HBW.out) (hS.below HBW.out) (h0.below HBW.out) HM7.out (HM.out.gr hG))
            rw [HMS.out.1, HMS.out.2.1, ruR_0 HE.out] at hRR
            go_wp2_with fail
            refine hRR.out.mono ?_
            rintro e w8 ⟨v8, rfl, hO8, hB8⟩
            obtain ⟨a8, c8, rfl, hs8⟩ := hO8.sl encRs_len
            rw [resL_len, HL.out] at hs8 ⊢
            have HR8 := Lib.hid hs8
            replace HBW := Lib.hid (HBW.out.on hB8)
            replace HX7 := Lib.hid (HX7.out.below hB8)
            replace HR7 := Lib.hid (HR7.out.below hB8)
            replace HM7 := Lib.hid (HM7.out.below hB8)
            replace HL7 := Lib.hid (HL7.out.below hB8)
            clear hRR hO8 hs8 hB8 d0 d1 d2 d3 d4 d5
            obtain ⟨d0, d1, d2, d3, d4, d5⟩ := HX7.out.g6
            have hRR := Lib.hid (results_any ptC S al nl cl l la ln lc ls d w8 (ht.below HBW.out) (hS.below HBW.out) (h0.below HBW.out) HL7.out HLG.out)
            rw [HLQ.out.1, HLQ.out.2.1, ruR_0 HE.out] at hRR
            go_wp2_with fail
            refine hRR.out.mono ?_
            rintro e w9 ⟨v9, rfl, hO9, hB9⟩
            obtain ⟨a9, c9, rfl, hs9⟩ := hO9.sl encRs_len
            rw [resL_len, HL.out] at hs9 ⊢
            have HR9 := Lib.hid hs9
            replace HBW := Lib.hid (HBW.out.on hB9)
            replace HX7 := Lib.hid (HX7.out.below hB9)
            replace HR7 := Lib.hid (HR7.out.below hB9)
            replace HR8 := Lib.hid (HR8.out.below hB9)
            replace HM7 := Lib.hid (HM7.out.below hB9)
            replace HL7 := Lib.hid (HL7.out.below hB9)
            clear hRR hO9 hs9 hB9 d0 d1 d2 d3 d4 d5
            obtain ⟨E9, hE9⟩ : ∃ E9, agE S.sh l fs d = E9 := ⟨_, rfl⟩
            have HE9 := Lib.hid hE9
            clear hE9
            obtain ⟨d0, d1, d2, d3, d4, d5⟩ := HX7.out.g6
            have hRR := Lib.hid (again_any S al nl cl l fa fn fc fs d w9 (ht.below HBW.out) (hS.below HBW.out) (h0.below HBW.out) (hF.below HBW.out) hG H4.out)
            rw [HE9.out] at hRR
            go_wp2_with fail
            refine hRR.out.mono ?_
            rintro e w10 ⟨P, hP, rfl, hPI, -, hB10⟩
            have hal := al0 w10 #[.slice P.ba P.bn P.bc, .slice P.wa P.wn P.wc, .slice P.ua P.un P.uc] 35
            have HXP := Lib.hid (Box.new w10 #[.slice P.ba P.bn P.bc, .slice P.wa P.wn P.wc, .slice P.ua P.un P.uc] 35)
            have HPI := Lib.hid (hPI.below hal)
            have HP := Lib.hid hP
            replace HBW := Lib.hid ((HBW.out.on hB10).on hal)
            replace HX7 := Lib.hid ((HX7.out.below hB10).below hal)
            replace HR7 := Lib.hid ((HR7.out.below hB10).below hal)
            replace HR8 := Lib.hid ((HR8.out.below hB10).below hal)
            replace HR9 := Lib.hid ((HR9.out.below hB10).below hal)
            replace HM7 := Lib.hid ((HM7.out.below hB10).below hal)
            replace HL7 := Lib.hid ((HL7.out.below hB10).below hal)
            clear hRR hB10 hPI hP hal d0 d1 d2 d3 d4 d5
            obtain ⟨d0, d1, d2, d3, d4, d5⟩ := HX7.out.g6
            have hRR := Lib.hid (again_any S al nl cl l va fn vc ms d _ (ht.below HBW.out) (hS.below HBW.out) (h0.below HBW.out) HM7.out (HM.out.gr hG) H4.out)
            rw [HMS.out.2.2.1, HMS.out.2.2.2, HE9.out] at hRR
            go_wp2_with fail
            refine hRR.out.mono ?_
            rintro e w11 ⟨Q, hQ, rfl, hQI, -, hB11⟩
            have hal := al0 w11 #[.slice Q.ba Q.bn Q.bc, .slice Q.wa Q.wn Q.wc, .slice Q.ua Q.un Q.uc] 35
            have HXQ := Lib.hid (Box.new w11 #[.slice Q.ba Q.bn Q.bc, .slice Q.wa Q.wn Q.wc, .slice Q.ua Q.un Q.uc] 35)
            have HQI := Lib.hid (hQI.below hal)
            have HQQ := Lib.hid hQ
            replace HBW := Lib.hid ((HBW.out.on hB11).on hal)
            replace HX7 := Lib.hid ((HX7.out.below hB11).below hal)
            replace HR7 := Lib.hid ((HR7.out.below hB11).below hal)
            replace HR8 := Lib.hid ((HR8.out.below hB11).below hal)
            replace HR9 := Lib.hid ((HR9.out.below hB11).below hal)
            replace HL7 := Lib.hid ((HL7.out.below hB11).below hal)
            replace HXP := Lib.hid ((HXP.out.below hB11).below hal)
            replace HPI := Lib.hid ((HPI.out.below hB11).below hal)
            clear hRR hB11 hQI hQ hal d0 d1 d2 d3 d4 d5 HM7
            obtain ⟨d0, d1, d2, d3, d4, d5⟩ := HX7.out.g6
            have hRR := Lib.hid (again_any S al nl cl l la ln lc ls d _ (ht.below HBW.out) (hS.below HBW.out) (h0.below HBW.out) HL7.out HLG.out H4.out)
            rw [HLQ.out.2.2.1, HLQ.out.2.2.2, HE9.out] at hRR
            go_wp2_with fail
            refine hRR.out.mono ?_
            rintro e w12 ⟨R, hR, rfl, hRI, -, hB12⟩
            have hal := al0 w12 #[.slice R.ba R.bn R.bc, .slice R.wa R.wn R.wc, .slice R.ua R.un R.uc] 35
            have HXR := Lib.hid (Box.new w12 #[.slice R.ba R.bn R.bc, .slice R.wa R.wn R.wc, .slice R.ua R.un R.uc] 35)
            have HRI := Lib.hid (hRI.below hal)
            have HRR := Lib.hid hR
            replace HBW := Lib.hid ((HBW.out.on hB12).on hal)
            replace HR7 := Lib.hid ((HR7.out.below hB12).below hal)
            replace HR8 := Lib.hid ((HR8.out.below hB12).below hal)
            replace HR9 := Lib.hid ((HR9.out.below hB12).below hal)
            replace HXP := Lib.hid ((HXP.out.below hB12).below hal)
            replace HPI := Lib.hid ((HPI.out.below hB12).below hal)
            replace HXQ := Lib.hid ((HXQ.out.below hB12).below hal)
            replace HQI := Lib.hid ((HQI.out.below hB12).below hal)
            clear hRR hB12 hRI hR hal d0 d1 d2 d3 d4 d5 HL7 HX7
            have g9 : (E9 == E9) = true := by simp
            go_wp2_with fail
            refine (sameRs_any _ _ _ _ _ _ _ _ _ HR7.out HR8.out).mono ?_
            rintro e w' ⟨rfl, q1, rfl⟩
            rw [show decide (resL fs d l = resL fs d l) = true from decide_eq_true rfl]
            go_wp2_with fail
            refine (sameRs_any _ _ _ _ _ _ _ _ _ (HR7.out.drewN _) (HR9.out.drewN _)).mono ?_
            rintro e w' ⟨rfl, q2, rfl⟩
            rw [show decide (resL fs d l = resL fs d l) = true from decide_eq_true rfl]
            obtain ⟨wz, hwz⟩ : ∃ wz, ((w12.alloc (.cells #[.slice R.ba R.bn R.bc, .slice R.wa R.wn R.wc, .slice R.ua R.un R.uc] 35)).drewN q1).drewN q2 = wz := ⟨_, rfl⟩
            have hbz : Below (w12.alloc (.cells #[.slice R.ba R.bn R.bc, .slice R.wa R.wn R.wc, .slice R.ua R.un R.uc] 35)).heap.size (w12.alloc (.cells #[.slice R.ba R.bn R.bc, .slice R.wa R.wn R.wc, .slice R.ua R.un R.uc] 35)) wz := by rw [← hwz]; exact below_drewN (below_drewN (Below.refl _ _) _) _
            rw [hwz]
            replace HBW := Lib.hid (HBW.out.on hbz)
            replace HXP := Lib.hid (HXP.out.below hbz)
            replace HPI := Lib.hid (HPI.out.below hbz)
            replace HXQ := Lib.hid (HXQ.out.below hbz)
            replace HQI := Lib.hid (HQI.out.below hbz)
            replace HXR := Lib.hid (HXR.out.below hbz)
            replace HRI := Lib.hid (HRI.out.below hbz)
            clear hwz hbz HR7 HR8 HR9
            obtain ⟨x0, x1, x2⟩ := HXP.out.g3
            obtain ⟨y0, y1, y2⟩ := HXQ.out.g3
            have HS1 := Lib.hid (same53_any P Q wz HPI.out HQI.out)
            rw [show rkSame P.r Q.r = true by rw [HP.out, HQQ.out]; exact rkSame_self _] at HS1
            go_wp2_with fail
            refine HS1.out.mono ?_
            rintro e wy ⟨rfl, hBy⟩
            clear HS1 x0 x1 x2 y0 y1 y2
            obtain ⟨x0, x1, x2⟩ := (HXP.out.below hBy).g3
            obtain ⟨z0, z1, z2⟩ := (HXR.out.below hBy).g3
            have HS2 := Lib.hid (same53_any P R wy (HPI.out.below hBy) (HRI.out.below hBy))
            rw [show rkSame P.r R.r = true by rw [HP.out, HRR.out]; exact rkSame_self _] at HS2
            have HBy := Lib.hid (HBW.out.on hBy)
            clear hBy
            go_wp2_with fail
            refine HS2.out.mono ?_
            rintro e wx ⟨rfl, hBx⟩
            go_wp2_with fail
            go_ret
            exact ⟨rfl, HBy.out.on hBx⟩
          have z3 : decide ((fn : Int) < 16) = true := by simp; omega
          have z4 : decide (fn < 16) = true := by simpa using hf16
          obtain ⟨g, rfl, -, hg6⟩ := HM.out.spot hp0
          obtain ⟨x, hx⟩ := HM7.out.sl.get hp0
          obtain ⟨e0, e1, e2, e3, e4⟩ := HM7.out.sl.ft5 hx
          obtain ⟨ga, gn, gc, hgx⟩ := HM.out.gr hG x (List.mem_of_getElem? hx)
          rw [hgx] at e4
          simp only [Nat.zero_mul, Nat.zero_add] at e0 e1 e2 e3 e4
          have HEX : Hid (encFt x = [.int .i64 x.pz, .int .i64 x.kd, .int .i64 x.un, .int .i64 x.dy, .slice ga gn gc]) := Lib.hid (by unfold encFt; rw [hgx])
          have HMS2 := Lib.hid (ord_twice HE.out HM.out.alike hx (by rw [HM.out.alike.len, HM.out.len]; exact hf16))
          have HMG2 : Hid (GrOk (ms ++ [x])) := Lib.hid fun f hf => by
            rcases List.mem_append.1 hf with hf | hf
            · exact HM.out.gr hG f hf
            · exact HM.out.gr hG f (by rw [List.mem_singleton.1 hf]; exact List.mem_of_getElem? hx)
          have hown := HM7.out.row
          have HLU := Lib.hid (World.ownsRow.lt hown)
          have mM := HM7.out.sl.mx
          have cM := HM7.out.sl.cap
          unfold maxLen at mM
          have hszr : w3.heap.size ≤ wr.heap.size := HB7.out.size
          have HKE := Lib.hid (fun (w8 : World) (v' : Value) (h1 : w8.ownsRow w3.heap.size 48 5 v' (fn + 1) (ms.flatMap encFt ++ [.int .i64 x.pz, .int .i64 x.kd, .int .i64 x.un, .int .i64 x.dy, .slice ga gn gc])) => twice_facts (x := x) h1 (by rw [HM.out.alike.len, HM.out.len]) HEX.out)
          obtain ⟨i27, hi27, hz270, hz271, hz272⟩ := info_parts info_ft
          have v1 : (0 : Int) < (fn : Int) := by omega
          clear hgx hx hf0 hf16
          have HNW := Lib.hid (new5 wr (.int .i64 x.pz) (.int .i64 x.kd) (.int .i64 x.un) (.int .i64 x.dy) (.slice ga gn gc) 48)
          go_wp2_with (at_builtin; refine wpList_append_any rfl _ _ 27 rfl w3.heap.size 48 i27 _ 5 56 Tryz.underlying27 hi27 hz270 hz271 hz272 rfl (by decide) (.slice (some ⟨g, 0, none⟩) fn vc) fn _ (hown.alloc _) rfl (some ⟨wr.heap.size, 0, none⟩) 1 1 [.int .i64 x.pz, .int .i64 x.kd, .int .i64 x.un, .int .i64 x.dy, .slice ga gn gc] rfl (fun h => by cases h) rfl (fun a ha => by injection ha with ha; rw [← ha]; exact HNW.out) (by simp [Value.oneCell']) (by unfold maxLen; omega) (by omega) (by simp; omega) ?_; intro v' w7 hown' hgrow hfr; obtain ⟨va7, vc7, rfl, hs7⟩ := HKE.out w7 v' hown'; have hB7 : Below w3.heap.size w3 w7 := ((HB7.out.alloc hszr _).grown hgrow (by simp; omega) (fun q e => (HLU.out q e).1)); have HL8 := Lib.hid ((HL7.out.below (al0 _ _ _)).grown hgrow (fun _ e => by have := HLO.out g e; omega)); have hX7' := HX1.out.below hB7; obtain ⟨d0, d1, d2, d3, d4, d5⟩ := hX7'.g6; clear hX7' hown' hgrow hfr)
          replace HBW := Lib.hid (HBB.out.on hB7)
          replace HX7 := Lib.hid (HX1.out.below hB7)
          replace HR7 := Lib.hid (HS3.out.below hB7)
          replace HM7 := Lib.hid hs7
          replace HL7 := HL8
          clear hs7 hB7 HL8 HLU HKE
          have hRR := Lib.hid (results_any ptC S al nl cl l va7 (fn + 1) vc7 (ms ++ [x]) d w7 (ht.below HBW.out) (hS.below HBW.out) (h0.below HBW.out) HM7.out HMG2.out)
          rw [HMS2.out.1, HMS2.out.2.1, ruR_0 HE.out] at hRR
          refine hRR.out.mono ?_
          rintro e w8 ⟨v8, rfl, hO8, hB8⟩
          obtain ⟨a8, c8, rfl, hs8⟩ := hO8.sl encRs_len
          rw [resL_len, HL.out] at hs8 ⊢
          have HR8 := Lib.hid hs8
          replace HBW := Lib.hid (HBW.out.on hB8)
          replace HX7 := Lib.hid (HX7.out.below hB8)
          replace HR7 := Lib.hid (HR7.out.below hB8)
          replace HM7 := Lib.hid (HM7.out.below hB8)
          replace HL7 := Lib.hid (HL7.out.below hB8)
          clear hRR hO8 hs8 hB8 d0 d1 d2 d3 d4 d5
          obtain ⟨d0, d1, d2, d3, d4, d5⟩ := HX7.out.g6
          have hRR := Lib.hid (results_any ptC S al nl cl l la ln lc ls d w8 (ht.below HBW.out) (hS.below HBW.out) (h0.below HBW.out) HL7.out HLG.out)
          rw [HLQ.out.1, HLQ.out.2.1, ruR_0 HE.out] at hRR
          go_wp2_with fail
          refine hRR.out.mono ?_
          rintro e w9 ⟨v9, rfl, hO9, hB9⟩
          obtain ⟨a9, c9, rfl, hs9⟩ := hO9.sl encRs_len
          rw [resL_len, HL.out] at hs9 ⊢
          have HR9 := Lib.hid hs9
          replace HBW := Lib.hid (HBW.out.on hB9)
          replace HX7 := Lib.hid (HX7.out.below hB9)
          replace HR7 := Lib.hid (HR7.out.below hB9)
          replace HR8 := Lib.hid (HR8.out.below hB9)
          replace HM7 := Lib.hid (HM7.out.below hB9)
          replace HL7 := Lib.hid (HL7.out.below hB9)
          clear hRR hO9 hs9 hB9 d0 d1 d2 d3 d4 d5
          obtain ⟨E9, hE9⟩ : ∃ E9, agE S.sh l fs d = E9 := ⟨_, rfl⟩
          have HE9 := Lib.hid hE9
          clear hE9
          obtain ⟨d0, d1, d2, d3, d4, d5⟩ := HX7.out.g6
          have hRR := Lib.hid (again_any S al nl cl l fa fn fc fs d w9 (ht.below HBW.out) (hS.below HBW.out) (h0.below HBW.out) (hF.below HBW.out) hG H4.out)
          rw [HE9.out] at hRR
          go_wp2_with fail
          refine hRR.out.mono ?_
          rintro e w10 ⟨P, hP, rfl, hPI, -, hB10⟩
          have hal := al0 w10 #[.slice P.ba P.bn P.bc, .slice P.wa P.wn P.wc, .slice P.ua P.un P.uc] 35
          have HXP := Lib.hid (Box.new w10 #[.slice P.ba P.bn P.bc, .slice P.wa P.wn P.wc, .slice P.ua P.un P.uc] 35)
          have HPI := Lib.hid (hPI.below hal)
          have HP := Lib.hid hP
          replace HBW := Lib.hid ((HBW.out.on hB10).on hal)
          replace HX7 := Lib.hid ((HX7.out.below hB10).below hal)
          replace HR7 := Lib.hid ((HR7.out.below hB10).below hal)
          replace HR8 := Lib.hid ((HR8.out.below hB10).below hal)
          replace HR9 := Lib.hid ((HR9.out.below hB10).below hal)
          replace HM7 := Lib.hid ((HM7.out.below hB10).below hal)
          replace HL7 := Lib.hid ((HL7.out.below hB10).below hal)
          clear hRR hB10 hPI hP hal d0 d1 d2 d3 d4 d5
          obtain ⟨d0, d1, d2, d3, d4, d5⟩ := HX7.out.g6
          have hRR := Lib.hid (again_any S al nl cl l va7 (fn + 1) vc7 (ms ++ [x]) d _ (ht.below HBW.out) (hS.below HBW.out) (h0.below HBW.out) HM7.out HMG2.out H4.out)
          rw [HMS2.out.2.2.1, HMS2.out.2.2.2, HE9.out] at hRR
          go_wp2_with fail
          refine hRR.out.mono ?_
          rintro e w11 ⟨Q, hQ, rfl, hQI, -, hB11⟩
          have hal := al0 w11 #[.slice Q.ba Q.bn Q.bc, .slice Q.wa Q.wn Q.wc, .slice Q.ua Q.un Q.uc] 35
          have HXQ := Lib.hid (Box.new w11 #[.slice Q.ba Q.bn Q.bc, .slice Q.wa Q.wn Q.wc, .slice Q.ua Q.un Q.uc] 35)
          have HQI := Lib.hid (hQI.below hal)
          have HQQ := Lib.hid hQ
          replace HBW := Lib.hid ((HBW.out.on hB11).on hal)
          replace HX7 := Lib.hid ((HX7.out.below hB11).below hal)
          replace HR7 := Lib.hid ((HR7.out.below hB11).below hal)
          replace HR8 := Lib.hid ((HR8.out.below hB11).below hal)
          replace HR9 := Lib.hid ((HR9.out.below hB11).below hal)
          replace HL7 := Lib.hid ((HL7.out.below hB11).below hal)
          replace HXP := Lib.hid ((HXP.out.below hB11).below hal)
          replace HPI := Lib.hid ((HPI.out.below hB11).below hal)
          clear hRR hB11 hQI hQ hal d0 d1 d2 d3 d4 d5 HM7
          obtain ⟨d0, d1, d2, d3, d4, d5⟩ := HX7.out.g6
          have hRR := Lib.hid (again_any S al nl cl l la ln lc ls d _ (ht.below HBW.out) (hS.below HBW.out) (h0.below HBW.out) HL7.out HLG.out H4.out)
          rw [HLQ.out.2.2.1, HLQ.out.2.2.2, HE9.out] at hRR
          go_wp2_with fail
          refine hRR.out.mono ?_
          rintro e w12 ⟨R, hR, rfl, hRI, -, hB12⟩
          have hal := al0 w12 #[.slice R.ba R.bn R.bc, .slice R.wa R.wn R.wc, .slice R.ua R.un R.uc] 35
          have HXR := Lib.hid (Box.new w12 #[.slice R.ba R.bn R.bc, .slice R.wa R.wn R.wc, .slice R.ua R.un R.uc] 35)
          have HRI := Lib.hid (hRI.below hal)
          have HRR := Lib.hid hR
          replace HBW := Lib.hid ((HBW.out.on hB12).on hal)
          replace HR7 := Lib.hid ((HR7.out.below hB12).below hal)
          replace HR8 := Lib.hid ((HR8.out.below hB12).below hal)
          replace HR9 := Lib.hid ((HR9.out.below hB12).below hal)
          replace HXP := Lib.hid ((HXP.out.below hB12).below hal)
          replace HPI := Lib.hid ((HPI.out.below hB12).below hal)
          replace HXQ := Lib.hid ((HXQ.out.below hB12).below hal)
          replace HQI := Lib.hid ((HQI.out.below hB12).below hal)
          clear hRR hB12 hRI hR hal d0 d1 d2 d3 d4 d5 HL7 HX7
          have g9 : (E9 == E9) = true := by simp
          go_wp2_with fail
          refine (sameRs_any _ _ _ _ _ _ _ _ _ HR7.out HR8.out).mono ?_
          rintro e w' ⟨rfl, q1, rfl⟩
          rw [show decide (resL fs d l = resL fs d l) = true from decide_eq_true rfl]
          go_wp2_with fail
          refine (sameRs_any _ _ _ _ _ _ _ _ _ (HR7.out.drewN _) (HR9.out.drewN _)).mono ?_
          rintro e w' ⟨rfl, q2, rfl⟩
          rw [show decide (resL fs d l = resL fs d l) = true from decide_eq_true rfl]
          obtain ⟨wz, hwz⟩ : ∃ wz, ((w12.alloc (.cells #[.slice R.ba R.bn R.bc, .slice R.wa R.wn R.wc, .slice R.ua R.un R.uc] 35)).drewN q1).drewN q2 = wz := ⟨_, rfl⟩
          have hbz : Below (w12.alloc (.cells #[.slice R.ba R.bn R.bc, .slice R.wa R.wn R.wc, .slice R.ua R.un R.uc] 35)).heap.size (w12.alloc (.cells #[.slice R.ba R.bn R.bc, .slice R.wa R.wn R.wc, .slice R.ua R.un R.uc] 35)) wz := by rw [← hwz]; exact below_drewN (below_drewN (Below.refl _ _) _) _
          rw [hwz]
          replace HBW := Lib.hid (HBW.out.on hbz)
          replace HXP := Lib.hid (HXP.out.below hbz)
          replace HPI := Lib.hid (HPI.out.below hbz)
          replace HXQ := Lib.hid (HXQ.out.below hbz)
          replace HQI := Lib.hid (HQI.out.below hbz)
          replace HXR := Lib.hid (HXR.out.below hbz)
          replace HRI := Lib.hid (HRI.out.below hbz)
          clear hwz hbz HR7 HR8 HR9
          obtain ⟨x0, x1, x2⟩ := HXP.out.g3
          obtain ⟨y0, y1, y2⟩ := HXQ.out.g3
          have HS1 := Lib.hid (same53_any P Q wz HPI.out HQI.out)
          rw [show rkSame P.r Q.r = true by rw [HP.out, HQQ.out]; exact rkSame_self _] at HS1
          go_wp2_with fail
          refine HS1.out.mono ?_
          rintro e wy ⟨rfl, hBy⟩
          clear HS1 x0 x1 x2 y0 y1 y2
          obtain ⟨x0, x1, x2⟩ := (HXP.out.below hBy).g3
          obtain ⟨z0, z1, z2⟩ := (HXR.out.below hBy).g3
          have HS2 := Lib.hid (same53_any P R wy (HPI.out.below hBy) (HRI.out.below hBy))
          rw [show rkSame P.r R.r = true by rw [HP.out, HRR.out]; exact rkSame_self _] at HS2
          have HBy := Lib.hid (HBW.out.on hBy)
          clear hBy
          go_wp2_with fail
          refine HS2.out.mono ?_
          rintro e wx ⟨rfl, hBx⟩
          go_wp2_with fail
          go_ret
          exact ⟨rfl, HBy.out.on hBx⟩
end Go.Proofs.YtehoidohallfcaaGreatDoor

