/- Contract of ranking.Check. -/
import Derived.Test.YtehoidohallfcaaGreatDoorBtw
import Derived.Lib.LaidTab
import Derived.Lib.ItoaNum
import Derived.WalkKit
import Derived.WalkSpells
import Derived.WalkLawsBesides
import Derived.Deep.LoopGhost
import Derived.Deep.QuietTactic
import Derived.BigQuiet
import Derived.StillTailTactics
import Derived.Lib.Hide
import Derived.Outline
import Derived.Lib.QuietBelow
namespace Go.Proofs.YtehoidohallfcaaGreatDoor
open Go.RowKit

/-- The library's table of powers of ten lies there. -/
def Tab (w : World) : Prop := Lib.TabIs Tryz.prog w "internal/strconv.uint64pow10" .u64 Lib.pow10Tab
/-- The contract of points.Check. -/
def PtC : Prop := ∀ (a : Option Addr) (n c : Nat) (l : List Wd) (w : World), SL encW 2 w a n c l → Tab w → Calls Tryz.prog 47 #[.slice a n c] w fun e w' => RetB w (.int .i64 (ptE l)) e w'
theorem al0 (W : World) (cs : Array Value) (t : TypeId) : Below W.heap.size W (W.alloc (.cells cs t)) := (Below.refl _ _).alloc (Nat.le_refl _) _
theorem Box.g6 {w : World} {B : Nat} {v0 v1 v2 v3 v4 v5 : Value} {t : TypeId} (h : Box w B #[v0, v1, v2, v3, v4, v5] t) : w.cell? ⟨B, 0, none⟩ = some v0 ∧ w.cell? ⟨B, 1, none⟩ = some v1 ∧ w.cell? ⟨B, 2, none⟩ = some v2 ∧ w.cell? ⟨B, 3, none⟩ = some v3 ∧ w.cell? ⟨B, 4, none⟩ = some v4 ∧ w.cell? ⟨B, 5, none⟩ = some v5 :=
  ⟨by simpa using h.cell 0, by simpa using h.cell 1, by simpa using h.cell 2, by simpa using h.cell 3, by simpa using h.cell 4, by simpa using h.cell 5⟩
theorem own_of_box {w : World} {B base n : Nat} {cs : Array Value} {t : TypeId} {l : List Int} (h : Box w B cs t) (hl : l.length = n) (hc : cs.toList = l.map (Value.int .i64)) (hb : base ≤ B) (hn : n ≤ 1000000) : OwnInts w base t (.slice (some ⟨B, 0, none⟩) n n) l := by
  unfold OwnInts
  refine ⟨by simp, .inr ⟨B, n, cs, by rw [hl], hb, h, by omega, by unfold maxLen; omega, ?_, ?_⟩⟩
  · have := congrArg List.length hc
    simpa [hl] using this
  · rw [hc, hl, Nat.mul_one, ← hl]; exact List.take_of_length_le (by simp)
theorem ints_new (w : World) (cs : Array Value) (l : List Int) (n : Nat) (t : TypeId) (h : cs.toList = l.map (Value.int .i64)) (hl : l.length = n) (hn : n ≤ 1000000) : Ints (w.alloc (.cells cs t)) (some ⟨w.heap.size, 0, none⟩) n n l := by
  have ho : OwnInts (w.alloc (.cells cs t)) w.heap.size t (.slice (some ⟨w.heap.size, 0, none⟩) n n) l := own_of_box (Box.new w cs t) hl h (Nat.le_refl _) hn
  obtain ⟨a, c, e, hI⟩ := ho.ints
  injection e with e1 e2 e3
  subst e1 e3
  rw [hl] at hI
  exact hI
theorem one_int (w : World) (x : Int) (t : TypeId) : Ints (w.alloc (.cells #[.int .i64 x] t)) (some ⟨w.heap.size, 0, none⟩) 1 1 [x] := ints_new w _ [x] 1 t rfl rfl (by omega)
theorem two_int (w : World) (x y : Int) (t : TypeId) : Ints (w.alloc (.cells #[.int .i64 x, .int .i64 y] t)) (some ⟨w.heap.size, 0, none⟩) 2 2 [x, y] := ints_new w _ [x, y] 2 t rfl rfl (by omega)
theorem one_int2 (w : World) (o : Obj) (x : Int) (t : TypeId) : Ints ((w.alloc o).alloc (.cells #[.int .i64 x] t)) (some ⟨w.heap.size + 1, 0, none⟩) 1 1 [x] := by
  have := one_int (w.alloc o) x t
  rw [World.size_alloc] at this
  exact this
theorem betw_one (lo hi x : Int) : betw lo hi [x] = (decide (lo ≤ x) && decide (x ≤ hi)) := by unfold betw; simp
theorem okSh_eq (S : Sh) : okSh S = (betw 1 8 [S.cs] && (betw 1 8 [S.ps] && (decide ((S.lv.length : Int) = S.ps) && (decide ((S.cl.length : Int) = S.ps) && (decide (S.pr.length ≤ 8) && (betw 0 9 S.lv && (betw 0 512 S.cl && betw 0 1048576 S.pr))))))) := by
  unfold okSh; rw [betw_one, betw_one]; simp only [Bool.and_assoc]
theorem okRs_eq (s : Sh) (x : Rs) : okRs s x = (betw 0 (s.cs - 1) [x.cm] && (betw 0 (s.ps - 1) [x.pz] && (betw 0 32 [x.tr] && (decide (x.lo ≤ x.hi) && betw 0 1048576 [x.lo, x.hi])))) := by
  unfold okRs betw
  rw [Bool.eq_iff_iff]
  simp only [Bool.and_eq_true, decide_eq_true_eq, List.all_cons, List.all_nil, Bool.and_true]
  omega
/-- The kinds of an answer. -/
theorem rkE_bad {s : Sh} {l : List Rs} (h0 : l.length ≤ 32) (h1 : ptE s.pg = 0) (h2 : (okSh s && l.all (okRs s)) = false) : rkE s l = 530 := by
  unfold rkE; rw [if_neg (by omega), if_neg (by simp [h1]), if_neg (by simp [h2])]
theorem rkE_ok {s : Sh} {l : List Rs} (h0 : l.length ≤ 32) (h1 : ptE s.pg = 0) (h2 : (okSh s && l.all (okRs s)) = true) : rkE s l = 0 := by
  unfold rkE; rw [if_neg (by omega), if_neg (by simp [h1]), if_pos h2]
theorem all_no {α : Type} {P : α → Bool} {l : List α} {k : Nat} {x : α} (hx : l[k]? = some x) (h : P x = false) : l.all P = false := by
  rw [List.all_eq_false]; exact ⟨x, List.mem_of_getElem? hx, by simp [h]⟩
theorem all_to {α : Type} {P : α → Bool} {l : List α} {k : Nat} {x : α} (h : (l.take k).all P = true) (hx : l[k]? = some x) (hp : P x = true) : (l.take (k + 1)).all P = true := by
  rw [takeF hx, List.all_append, h]; simp [hp]

theorem Tab.below {w w' : World} (h : Tab w) (hb : Below w.heap.size w w') : Tab w' := by
  unfold Tab Lib.TabIs World.var? at h ⊢
  cases e : Tryz.prog.globalNamed "internal/strconv.uint64pow10" with
  | none => rw [e] at h; cases h
  | some g =>
    rw [e] at h
    simp only [Option.bind_some] at h ⊢
    cases e2 : w.heap[g]? with
    | none => rw [e2] at h; cases h
    | some o => rw [hb.block g (Array.getElem?_eq_some_iff.1 e2).1]; exact h
set_option maxRecDepth 10000 in
set_option maxHeartbeats 4000000 in
theorem rkCheck_any (hpt : PtC) (S : Sp) (al : Option Addr) (nl cl : Nat) (l : List Rs) (W : World) (ht : Tab W) (hS : S.In W) (h0 : SL encRs 6 W al nl cl l) :
    Calls Tryz.prog 27 #[.agg #[.int .i64 S.sh.cs, .int .i64 S.sh.ps, .slice S.la S.ln S.lc, .slice S.ca S.cn S.cc, .slice S.pa S.pn S.pc, .slice S.ra S.rn S.rc], .slice al nl cl] W fun e w' => RetB W (.int .i64 (rkE S.sh l)) e w' := by
  have hll := h0.len
  by_cases hn : 32 < nl
  · have HE : Hid (rkE S.sh l = 2) := Lib.hid (by unfold rkE; rw [if_pos (by omega)])
    have n0 : (32 : Int) < (nl : Int) := by omega
    clear hll
    go_enter Tryz.func27, Tryz.ntmps27
    go_wp2_with fail
    go_ret
    exact ⟨ret_int HE.out.symm, al0 _ _ _⟩
  have n0 : ¬ (32 : Int) < (nl : Int) := by omega
  have hl32 : l.length ≤ 32 := by omega
  by_cases hp : ptE S.sh.pg = 0
  rotate_left
  · have HE : Hid (rkE S.sh l = ptE S.sh.pg) := Lib.hid (by unfold rkE; rw [if_neg (by omega), if_pos hp])
    obtain ⟨pe, hpe⟩ : ∃ pe, ptE S.sh.pg = pe := ⟨_, rfl⟩
    rw [hpe] at HE hp
    have HP := Lib.hid hpe
    have n1 : (pe != 0) = true := by simpa using hp
    clear hpe hp hll
    go_enter Tryz.func27, Tryz.ntmps27
    go_wp2_with fail
    refine (hpt _ _ _ _ _ (hS.pg.below (al0 _ _ _)) (ht.below (al0 _ _ _))).mono ?_
    rintro e w1 ⟨rfl, hA⟩
    rw [HP.out]
    have hB : Below W.heap.size W w1 := (al0 _ _ _).on hA
    have hx := (Box.new W #[.int .i64 S.sh.cs, .int .i64 S.sh.ps, .slice S.la S.ln S.lc, .slice S.ca S.cn S.cc, .slice S.pa S.pn S.pc, .slice S.ra S.rn S.rc] 25).below hA
    clear hA
    obtain ⟨d0, d1, d2, d3, d4, d5⟩ := hx.g6
    go_wp2_with fail
    go_ret
    exact ⟨ret_int HE.out.symm, hB⟩
  have HP := Lib.hid hp
  have hbad := fun h => rkE_bad hl32 hp h
  have HBAD : Hid ((okSh S.sh && l.all (okRs S.sh)) = false → rkE S.sh l = 530) := Lib.hid hbad
  have HOK : Hid ((okSh S.sh && l.all (okRs S.sh)) = true → rkE S.sh l = 0) := Lib.hid fun h => rkE_ok hl32 hp h
  have HL := Lib.hid hll
  have HL1 := Lib.hid hS.lv.len
  have HL2 := Lib.hid hS.cl.len
  have HL3 := Lib.hid hS.pr.len
  have HEQ := Lib.hid (okSh_eq S.sh)
  clear hbad hp hll
  cases c1 : betw 1 8 [S.sh.cs]
  · have K1 := Lib.hid c1
    have HE : Hid (rkE S.sh l = 530) := Lib.hid (HBAD.out (by rw [HEQ.out, K1.out]; rfl))
    clear c1
    go_enter Tryz.func27, Tryz.ntmps27
    go_wp2_with fail
    refine (hpt _ _ _ _ _ (hS.pg.below (al0 _ _ _)) (ht.below (al0 _ _ _))).mono ?_
    rintro e w1 ⟨rfl, hA⟩
    rw [HP.out]
    have hB : Below W.heap.size W w1 := (al0 _ _ _).on hA
    have hx := (Box.new W #[.int .i64 S.sh.cs, .int .i64 S.sh.ps, .slice S.la S.ln S.lc, .slice S.ca S.cn S.cc, .slice S.pa S.pn S.pc, .slice S.ra S.rn S.rc] 25).below hA
    clear hA
    obtain ⟨d0, d1, d2, d3, d4, d5⟩ := hx.g6
    go_wp2_with fail
    refine (between_any _ _ _ 1 1 [S.sh.cs] _ (one_int _ _ _)).mono ?_
    rintro e w2 ⟨rfl, hA⟩
    rw [K1.out]
    replace hA : Below w1.heap.size w1 w2 := ((Below.refl _ _).alloc (Nat.le_refl _) _).on hA
    replace hB := hB.on hA
    replace hx := hx.below hA
    clear hA d0 d1 d2 d3 d4 d5
    obtain ⟨d0, d1, d2, d3, d4, d5⟩ := hx.g6
    (go_wp2_with fail; go_ret; exact ⟨ret_int HE.out.symm, hB⟩)
  have K1 := Lib.hid c1
  clear c1
  cases c2 : betw 1 8 [S.sh.ps]
  · have K2 := Lib.hid c2
    have HE : Hid (rkE S.sh l = 530) := Lib.hid (HBAD.out (by rw [HEQ.out, K1.out, K2.out]; rfl))
    clear c2
    go_enter Tryz.func27, Tryz.ntmps27
    go_wp2_with fail
    refine (hpt _ _ _ _ _ (hS.pg.below (al0 _ _ _)) (ht.below (al0 _ _ _))).mono ?_
    rintro e w1 ⟨rfl, hA⟩
    rw [HP.out]
    have hB : Below W.heap.size W w1 := (al0 _ _ _).on hA
    have hx := (Box.new W #[.int .i64 S.sh.cs, .int .i64 S.sh.ps, .slice S.la S.ln S.lc, .slice S.ca S.cn S.cc, .slice S.pa S.pn S.pc, .slice S.ra S.rn S.rc] 25).below hA
    clear hA
    obtain ⟨d0, d1, d2, d3, d4, d5⟩ := hx.g6
    go_wp2_with fail
    refine (between_any _ _ _ 1 1 [S.sh.cs] _ (one_int _ _ _)).mono ?_
    rintro e w2 ⟨rfl, hA⟩
    rw [K1.out]
    replace hA : Below w1.heap.size w1 w2 := ((Below.refl _ _).alloc (Nat.le_refl _) _).on hA
    replace hB := hB.on hA
    replace hx := hx.below hA
    clear hA d0 d1 d2 d3 d4 d5
    obtain ⟨d0, d1, d2, d3, d4, d5⟩ := hx.g6
    go_wp2_with fail
    refine (between_any _ _ _ 1 1 [S.sh.ps] _ (one_int _ _ _)).mono ?_
    rintro e w3 ⟨rfl, hA⟩
    rw [K2.out]
    replace hA : Below w2.heap.size w2 w3 := ((Below.refl _ _).alloc (Nat.le_refl _) _).on hA
    replace hB := hB.on hA
    replace hx := hx.below hA
    clear hA d0 d1 d2 d3 d4 d5
    obtain ⟨d0, d1, d2, d3, d4, d5⟩ := hx.g6
    (go_wp2_with fail; go_ret; exact ⟨ret_int HE.out.symm, hB⟩)
  have K2 := Lib.hid c2
  clear c2
  by_cases c3 : (S.ln : Int) = S.sh.ps
  rotate_left
  · (have HE : Hid (rkE S.sh l = 530) := Lib.hid (HBAD.out (by rw [HEQ.out, K1.out, K2.out, decide_eq_false (by rw [HL1.out]; exact c3)]; rfl)))
    have n3 : ((S.ln : Int) == S.sh.ps) = false := by simpa using c3
    clear c3
    go_enter Tryz.func27, Tryz.ntmps27
    go_wp2_with fail
    refine (hpt _ _ _ _ _ (hS.pg.below (al0 _ _ _)) (ht.below (al0 _ _ _))).mono ?_
    rintro e w1 ⟨rfl, hA⟩
    rw [HP.out]
    have hB : Below W.heap.size W w1 := (al0 _ _ _).on hA
    have hx := (Box.new W #[.int .i64 S.sh.cs, .int .i64 S.sh.ps, .slice S.la S.ln S.lc, .slice S.ca S.cn S.cc, .slice S.pa S.pn S.pc, .slice S.ra S.rn S.rc] 25).below hA
    clear hA
    obtain ⟨d0, d1, d2, d3, d4, d5⟩ := hx.g6
    go_wp2_with fail
    refine (between_any _ _ _ 1 1 [S.sh.cs] _ (one_int _ _ _)).mono ?_
    rintro e w2 ⟨rfl, hA⟩
    rw [K1.out]
    replace hA : Below w1.heap.size w1 w2 := ((Below.refl _ _).alloc (Nat.le_refl _) _).on hA
    replace hB := hB.on hA
    replace hx := hx.below hA
    clear hA d0 d1 d2 d3 d4 d5
    obtain ⟨d0, d1, d2, d3, d4, d5⟩ := hx.g6
    go_wp2_with fail
    refine (between_any _ _ _ 1 1 [S.sh.ps] _ (one_int _ _ _)).mono ?_
    rintro e w3 ⟨rfl, hA⟩
    rw [K2.out]
    replace hA : Below w2.heap.size w2 w3 := ((Below.refl _ _).alloc (Nat.le_refl _) _).on hA
    replace hB := hB.on hA
    replace hx := hx.below hA
    clear hA d0 d1 d2 d3 d4 d5
    obtain ⟨d0, d1, d2, d3, d4, d5⟩ := hx.g6
    (go_wp2_with fail; go_ret; exact ⟨ret_int HE.out.symm, hB⟩)
  have K3 : Hid (decide ((S.sh.lv.length : Int) = S.sh.ps) = true) := Lib.hid (decide_eq_true (by rw [HL1.out]; exact c3))
  have n3 : ((S.ln : Int) == S.sh.ps) = true := by simpa using c3
  clear c3
  by_cases c4 : (S.cn : Int) = S.sh.ps
  rotate_left
  · (have HE : Hid (rkE S.sh l = 530) := Lib.hid (HBAD.out (by rw [HEQ.out, K1.out, K2.out, K3.out, decide_eq_false (by rw [HL2.out]; exact c4)]; rfl)))
    have n4 : ((S.cn : Int) == S.sh.ps) = false := by simpa using c4
    clear c4
    go_enter Tryz.func27, Tryz.ntmps27
    go_wp2_with fail
    refine (hpt _ _ _ _ _ (hS.pg.below (al0 _ _ _)) (ht.below (al0 _ _ _))).mono ?_
    rintro e w1 ⟨rfl, hA⟩
    rw [HP.out]
    have hB : Below W.heap.size W w1 := (al0 _ _ _).on hA
    have hx := (Box.new W #[.int .i64 S.sh.cs, .int .i64 S.sh.ps, .slice S.la S.ln S.lc, .slice S.ca S.cn S.cc, .slice S.pa S.pn S.pc, .slice S.ra S.rn S.rc] 25).below hA
    clear hA
    obtain ⟨d0, d1, d2, d3, d4, d5⟩ := hx.g6
    go_wp2_with fail
    refine (between_any _ _ _ 1 1 [S.sh.cs] _ (one_int _ _ _)).mono ?_
    rintro e w2 ⟨rfl, hA⟩
    rw [K1.out]
    replace hA : Below w1.heap.size w1 w2 := ((Below.refl _ _).alloc (Nat.le_refl _) _).on hA
    replace hB := hB.on hA
    replace hx := hx.below hA
    clear hA d0 d1 d2 d3 d4 d5
    obtain ⟨d0, d1, d2, d3, d4, d5⟩ := hx.g6
    go_wp2_with fail
    refine (between_any _ _ _ 1 1 [S.sh.ps] _ (one_int _ _ _)).mono ?_
    rintro e w3 ⟨rfl, hA⟩
    rw [K2.out]
    replace hA : Below w2.heap.size w2 w3 := ((Below.refl _ _).alloc (Nat.le_refl _) _).on hA
    replace hB := hB.on hA
    replace hx := hx.below hA
    clear hA d0 d1 d2 d3 d4 d5
    obtain ⟨d0, d1, d2, d3, d4, d5⟩ := hx.g6
    (go_wp2_with fail; go_ret; exact ⟨ret_int HE.out.symm, hB⟩)
  have K4 : Hid (decide ((S.sh.cl.length : Int) = S.sh.ps) = true) := Lib.hid (decide_eq_true (by rw [HL2.out]; exact c4))
  have n4 : ((S.cn : Int) == S.sh.ps) = true := by simpa using c4
  clear c4
  by_cases c5 : S.rn ≤ 8
  rotate_left
  · (have HE : Hid (rkE S.sh l = 530) := Lib.hid (HBAD.out (by rw [HEQ.out, K1.out, K2.out, K3.out, K4.out, decide_eq_false (show ¬ S.sh.pr.length ≤ 8 by rw [HL3.out]; exact c5)]; rfl)))
    have n5 : decide ((S.rn : Int) ≤ 8) = false := by simp; omega
    clear c5
    go_enter Tryz.func27, Tryz.ntmps27
    go_wp2_with fail
    refine (hpt _ _ _ _ _ (hS.pg.below (al0 _ _ _)) (ht.below (al0 _ _ _))).mono ?_
    rintro e w1 ⟨rfl, hA⟩
    rw [HP.out]
    have hB : Below W.heap.size W w1 := (al0 _ _ _).on hA
    have hx := (Box.new W #[.int .i64 S.sh.cs, .int .i64 S.sh.ps, .slice S.la S.ln S.lc, .slice S.ca S.cn S.cc, .slice S.pa S.pn S.pc, .slice S.ra S.rn S.rc] 25).below hA
    clear hA
    obtain ⟨d0, d1, d2, d3, d4, d5⟩ := hx.g6
    go_wp2_with fail
    refine (between_any _ _ _ 1 1 [S.sh.cs] _ (one_int _ _ _)).mono ?_
    rintro e w2 ⟨rfl, hA⟩
    rw [K1.out]
    replace hA : Below w1.heap.size w1 w2 := ((Below.refl _ _).alloc (Nat.le_refl _) _).on hA
    replace hB := hB.on hA
    replace hx := hx.below hA
    clear hA d0 d1 d2 d3 d4 d5
    obtain ⟨d0, d1, d2, d3, d4, d5⟩ := hx.g6
    go_wp2_with fail
    refine (between_any _ _ _ 1 1 [S.sh.ps] _ (one_int _ _ _)).mono ?_
    rintro e w3 ⟨rfl, hA⟩
    rw [K2.out]
    replace hA : Below w2.heap.size w2 w3 := ((Below.refl _ _).alloc (Nat.le_refl _) _).on hA
    replace hB := hB.on hA
    replace hx := hx.below hA
    clear hA d0 d1 d2 d3 d4 d5
    obtain ⟨d0, d1, d2, d3, d4, d5⟩ := hx.g6
    (go_wp2_with fail; go_ret; exact ⟨ret_int HE.out.symm, hB⟩)
  have K5 : Hid (decide (S.sh.pr.length ≤ 8) = true) := Lib.hid (decide_eq_true (by rw [HL3.out]; exact c5))
  have n5 : decide ((S.rn : Int) ≤ 8) = true := by simp; omega
  clear c5
  cases c6 : betw 0 9 S.sh.lv
  · have K6 := Lib.hid c6
    (have HE : Hid (rkE S.sh l = 530) := Lib.hid (HBAD.out (by rw [HEQ.out, K1.out, K2.out, K3.out, K4.out, K5.out, K6.out]; rfl)))
    clear c6
    go_enter Tryz.func27, Tryz.ntmps27
    go_wp2_with fail
    refine (hpt _ _ _ _ _ (hS.pg.below (al0 _ _ _)) (ht.below (al0 _ _ _))).mono ?_
    rintro e w1 ⟨rfl, hA⟩
    rw [HP.out]
    have hB : Below W.heap.size W w1 := (al0 _ _ _).on hA
    have hx := (Box.new W #[.int .i64 S.sh.cs, .int .i64 S.sh.ps, .slice S.la S.ln S.lc, .slice S.ca S.cn S.cc, .slice S.pa S.pn S.pc, .slice S.ra S.rn S.rc] 25).below hA
    clear hA
    obtain ⟨d0, d1, d2, d3, d4, d5⟩ := hx.g6
    go_wp2_with fail
    refine (between_any _ _ _ 1 1 [S.sh.cs] _ (one_int _ _ _)).mono ?_
    rintro e w2 ⟨rfl, hA⟩
    rw [K1.out]
    replace hA : Below w1.heap.size w1 w2 := ((Below.refl _ _).alloc (Nat.le_refl _) _).on hA
    replace hB := hB.on hA
    replace hx := hx.below hA
    clear hA d0 d1 d2 d3 d4 d5
    obtain ⟨d0, d1, d2, d3, d4, d5⟩ := hx.g6
    go_wp2_with fail
    refine (between_any _ _ _ 1 1 [S.sh.ps] _ (one_int _ _ _)).mono ?_
    rintro e w3 ⟨rfl, hA⟩
    rw [K2.out]
    replace hA : Below w2.heap.size w2 w3 := ((Below.refl _ _).alloc (Nat.le_refl _) _).on hA
    replace hB := hB.on hA
    replace hx := hx.below hA
    clear hA d0 d1 d2 d3 d4 d5
    obtain ⟨d0, d1, d2, d3, d4, d5⟩ := hx.g6
    go_wp2_with fail
    refine (between_any _ _ _ _ _ _ _ (hS.lv.below hB)).mono ?_
    rintro e w4 ⟨rfl, hA⟩
    rw [K6.out]
    replace hB := hB.on hA
    replace hx := hx.below hA
    clear hA d0 d1 d2 d3 d4 d5
    obtain ⟨d0, d1, d2, d3, d4, d5⟩ := hx.g6
    (go_wp2_with fail; go_ret; exact ⟨ret_int HE.out.symm, hB⟩)
  have K6 := Lib.hid c6
  clear c6
  cases c7 : betw 0 512 S.sh.cl
  · have K7 := Lib.hid c7
    (have HE : Hid (rkE S.sh l = 530) := Lib.hid (HBAD.out (by rw [HEQ.out, K1.out, K2.out, K3.out, K4.out, K5.out, K6.out, K7.out]; rfl)))
    clear c7
    go_enter Tryz.func27, Tryz.ntmps27
    go_wp2_with fail
    refine (hpt _ _ _ _ _ (hS.pg.below (al0 _ _ _)) (ht.below (al0 _ _ _))).mono ?_
    rintro e w1 ⟨rfl, hA⟩
    rw [HP.out]
    have hB : Below W.heap.size W w1 := (al0 _ _ _).on hA
    have hx := (Box.new W #[.int .i64 S.sh.cs, .int .i64 S.sh.ps, .slice S.la S.ln S.lc, .slice S.ca S.cn S.cc, .slice S.pa S.pn S.pc, .slice S.ra S.rn S.rc] 25).below hA
    clear hA
    obtain ⟨d0, d1, d2, d3, d4, d5⟩ := hx.g6
    go_wp2_with fail
    refine (between_any _ _ _ 1 1 [S.sh.cs] _ (one_int _ _ _)).mono ?_
    rintro e w2 ⟨rfl, hA⟩
    rw [K1.out]
    replace hA : Below w1.heap.size w1 w2 := ((Below.refl _ _).alloc (Nat.le_refl _) _).on hA
    replace hB := hB.on hA
    replace hx := hx.below hA
    clear hA d0 d1 d2 d3 d4 d5
    obtain ⟨d0, d1, d2, d3, d4, d5⟩ := hx.g6
    go_wp2_with fail
    refine (between_any _ _ _ 1 1 [S.sh.ps] _ (one_int _ _ _)).mono ?_
    rintro e w3 ⟨rfl, hA⟩
    rw [K2.out]
    replace hA : Below w2.heap.size w2 w3 := ((Below.refl _ _).alloc (Nat.le_refl _) _).on hA
    replace hB := hB.on hA
    replace hx := hx.below hA
    clear hA d0 d1 d2 d3 d4 d5
    obtain ⟨d0, d1, d2, d3, d4, d5⟩ := hx.g6
    go_wp2_with fail
    refine (between_any _ _ _ _ _ _ _ (hS.lv.below hB)).mono ?_
    rintro e w4 ⟨rfl, hA⟩
    rw [K6.out]
    replace hB := hB.on hA
    replace hx := hx.below hA
    clear hA d0 d1 d2 d3 d4 d5
    obtain ⟨d0, d1, d2, d3, d4, d5⟩ := hx.g6
    go_wp2_with fail
    refine (between_any _ _ _ _ _ _ _ (hS.cl.below hB)).mono ?_
    rintro e w5 ⟨rfl, hA⟩
    rw [K7.out]
    replace hB := hB.on hA
    replace hx := hx.below hA
    clear hA d0 d1 d2 d3 d4 d5
    obtain ⟨d0, d1, d2, d3, d4, d5⟩ := hx.g6
    (go_wp2_with fail; go_ret; exact ⟨ret_int HE.out.symm, hB⟩)
  have K7 := Lib.hid c7
  clear c7
  cases c8 : betw 0 1048576 S.sh.pr
  · have K8 := Lib.hid c8
    (have HE : Hid (rkE S.sh l = 530) := Lib.hid (HBAD.out (by rw [HEQ.out, K1.out, K2.out, K3.out, K4.out, K5.out, K6.out, K7.out, K8.out]; rfl)))
    clear c8
    go_enter Tryz.func27, Tryz.ntmps27
    go_wp2_with fail
    refine (hpt _ _ _ _ _ (hS.pg.below (al0 _ _ _)) (ht.below (al0 _ _ _))).mono ?_
    rintro e w1 ⟨rfl, hA⟩
    rw [HP.out]
    have hB : Below W.heap.size W w1 := (al0 _ _ _).on hA
    have hx := (Box.new W #[.int .i64 S.sh.cs, .int .i64 S.sh.ps, .slice S.la S.ln S.lc, .slice S.ca S.cn S.cc, .slice S.pa S.pn S.pc, .slice S.ra S.rn S.rc] 25).below hA
    clear hA
    obtain ⟨d0, d1, d2, d3, d4, d5⟩ := hx.g6
    go_wp2_with fail
    refine (between_any _ _ _ 1 1 [S.sh.cs] _ (one_int _ _ _)).mono ?_
    rintro e w2 ⟨rfl, hA⟩
    rw [K1.out]
    replace hA : Below w1.heap.size w1 w2 := ((Below.refl _ _).alloc (Nat.le_refl _) _).on hA
    replace hB := hB.on hA
    replace hx := hx.below hA
    clear hA d0 d1 d2 d3 d4 d5
    obtain ⟨d0, d1, d2, d3, d4, d5⟩ := hx.g6
    go_wp2_with fail
    refine (between_any _ _ _ 1 1 [S.sh.ps] _ (one_int _ _ _)).mono ?_
    rintro e w3 ⟨rfl, hA⟩
    rw [K2.out]
    replace hA : Below w2.heap.size w2 w3 := ((Below.refl _ _).alloc (Nat.le_refl _) _).on hA
    replace hB := hB.on hA
    replace hx := hx.below hA
    clear hA d0 d1 d2 d3 d4 d5
    obtain ⟨d0, d1, d2, d3, d4, d5⟩ := hx.g6
    go_wp2_with fail
    refine (between_any _ _ _ _ _ _ _ (hS.lv.below hB)).mono ?_
    rintro e w4 ⟨rfl, hA⟩
    rw [K6.out]
    replace hB := hB.on hA
    replace hx := hx.below hA
    clear hA d0 d1 d2 d3 d4 d5
    obtain ⟨d0, d1, d2, d3, d4, d5⟩ := hx.g6
    go_wp2_with fail
    refine (between_any _ _ _ _ _ _ _ (hS.cl.below hB)).mono ?_
    rintro e w5 ⟨rfl, hA⟩
    rw [K7.out]
    replace hB := hB.on hA
    replace hx := hx.below hA
    clear hA d0 d1 d2 d3 d4 d5
    obtain ⟨d0, d1, d2, d3, d4, d5⟩ := hx.g6
    go_wp2_with fail
    refine (between_any _ _ _ _ _ _ _ (hS.pr.below hB)).mono ?_
    rintro e w6 ⟨rfl, hA⟩
    rw [K8.out]
    replace hB := hB.on hA
    replace hx := hx.below hA
    clear hA d0 d1 d2 d3 d4 d5
    obtain ⟨d0, d1, d2, d3, d4, d5⟩ := hx.g6
    (go_wp2_with fail; go_ret; exact ⟨ret_int HE.out.symm, hB⟩)
  have K8 := Lib.hid c8
  clear c8
  have HSH : Hid (okSh S.sh = true) := Lib.hid (by rw [HEQ.out, K1.out, K2.out, K3.out, K4.out, K5.out, K6.out, K7.out, K8.out]; rfl)
  have hcs : 1 ≤ S.sh.cs ∧ S.sh.cs ≤ 8 := by have := K1.out; rw [betw_one] at this; simpa using this
  have hps : 1 ≤ S.sh.ps ∧ S.sh.ps ≤ 8 := by have := K2.out; rw [betw_one] at this; simpa using this
  obtain ⟨g1, g2⟩ := hcs
  obtain ⟨g3, g4⟩ := hps
  go_enter Tryz.func27, Tryz.ntmps27
  go_wp2_with fail
  refine (hpt _ _ _ _ _ (hS.pg.below (al0 _ _ _)) (ht.below (al0 _ _ _))).mono ?_
  rintro e w1 ⟨rfl, hA⟩
  rw [HP.out]
  have hB : Below W.heap.size W w1 := (al0 _ _ _).on hA
  have hx := (Box.new W #[.int .i64 S.sh.cs, .int .i64 S.sh.ps, .slice S.la S.ln S.lc, .slice S.ca S.cn S.cc, .slice S.pa S.pn S.pc, .slice S.ra S.rn S.rc] 25).below hA
  clear hA
  obtain ⟨d0, d1, d2, d3, d4, d5⟩ := hx.g6
  go_wp2_with fail
  refine (between_any _ _ _ 1 1 [S.sh.cs] _ (one_int _ _ _)).mono ?_
  rintro e w2 ⟨rfl, hA⟩
  rw [K1.out]
  replace hA : Below w1.heap.size w1 w2 := ((Below.refl _ _).alloc (Nat.le_refl _) _).on hA
  replace hB := hB.on hA
  replace hx := hx.below hA
  clear hA d0 d1 d2 d3 d4 d5
  obtain ⟨d0, d1, d2, d3, d4, d5⟩ := hx.g6
  go_wp2_with fail
  refine (between_any _ _ _ 1 1 [S.sh.ps] _ (one_int _ _ _)).mono ?_
  rintro e w3 ⟨rfl, hA⟩
  rw [K2.out]
  replace hA : Below w2.heap.size w2 w3 := ((Below.refl _ _).alloc (Nat.le_refl _) _).on hA
  replace hB := hB.on hA
  replace hx := hx.below hA
  clear hA d0 d1 d2 d3 d4 d5
  obtain ⟨d0, d1, d2, d3, d4, d5⟩ := hx.g6
  go_wp2_with fail
  refine (between_any _ _ _ _ _ _ _ (hS.lv.below hB)).mono ?_
  rintro e w4 ⟨rfl, hA⟩
  rw [K6.out]
  replace hB := hB.on hA
  replace hx := hx.below hA
  clear hA d0 d1 d2 d3 d4 d5
  obtain ⟨d0, d1, d2, d3, d4, d5⟩ := hx.g6
  go_wp2_with fail
  refine (between_any _ _ _ _ _ _ _ (hS.cl.below hB)).mono ?_
  rintro e w5 ⟨rfl, hA⟩
  rw [K7.out]
  replace hB := hB.on hA
  replace hx := hx.below hA
  clear hA d0 d1 d2 d3 d4 d5
  obtain ⟨d0, d1, d2, d3, d4, d5⟩ := hx.g6
  go_wp2_with fail
  refine (between_any _ _ _ _ _ _ _ (hS.pr.below hB)).mono ?_
  rintro e w6 ⟨rfl, hA⟩
  rw [K8.out]
  replace hB := hB.on hA
  replace hx := hx.below hA
  clear hA d0 d1 d2 d3 d4 d5
  obtain ⟨d0, d1, d2, d3, d4, d5⟩ := hx.g6
  go_wp2_with fail
  obtain ⟨wo, hwo⟩ : ∃ wo, wo = w6 := ⟨_, rfl⟩
  rw [← hwo] at hB hx ⊢
  clear hwo d0 d1 d2 d3 d4 d5
  have hbl : W.heap.size < wo.heap.size := hx.lt
  go_loopw [72] (fun i wr => ∃ k : Nat, i = .int .i64 k ∧ k ≤ nl ∧ Hid ((l.take k).all (okRs S.sh) = true) ∧ Below wo.heap.size wo wr) (fun i _ => nl - (intOf i).toNat)
  case atStart => exact ⟨0, rfl, by omega, Lib.hid rfl, Below.refl _ _⟩
  case round =>
    obtain ⟨k, rfl, hk, HA, hBw⟩ := hrel
    by_cases hlt : k < nl
    · obtain ⟨b0, o0, rfl, hb0⟩ := h0.at' (by omega)
      obtain ⟨x, hX⟩ := h0.get hlt
      obtain ⟨e0, e1, e2, e3, e4, e5⟩ := (h0.below (hB.on hBw)).rs6 hX
      have HXX := Lib.hid hX
      have s0 : (0 : Int) ≤ (k : Int) := by omega
      have s1 : (k : Int) < (nl : Int) := by omega
      have hx0 := hx
      have hnw := hBw.size
      have hr : Box (wr.alloc (.cells #[.int .i64 x.cm, .int .i64 x.pz, .int .i64 x.tr, .int .i64 x.lo, .int .i64 x.hi, .bool x.rt] 53)) wr.heap.size #[.int .i64 x.cm, .int .i64 x.pz, .int .i64 x.tr, .int .i64 x.lo, .int .i64 x.hi, .bool x.rt] 53 := Box.new _ _ _
      have hB0 : Below wr.heap.size wr (wr.alloc (.cells #[.int .i64 x.cm, .int .i64 x.pz, .int .i64 x.tr, .int .i64 x.lo, .int .i64 x.hi, .bool x.rt] 53)) := al0 _ _ _
      obtain ⟨d0, d1, d2, d3, d4, d5⟩ := (hx0.below hBw).g6
      obtain ⟨r0, r1, r2, r3, r4, r5⟩ := hr.g6
      have hbw : W.heap.size < wr.heap.size := by omega
      have hx := (hx0.below hBw).below hB0
      have hBx := hBw.on hB0
      have HRS := Lib.hid (okRs_eq S.sh x)
      clear hX hB0
      cases q1 : betw 0 (S.sh.cs - 1) [x.cm]
      · have Q1 := Lib.hid q1
        (have HE : Hid (rkE S.sh l = 530) := Lib.hid (HBAD.out (by rw [HSH.out, Bool.true_and]; exact all_no HXX.out (by rw [HRS.out, Q1.out]; rfl))))
        clear q1
        go_wp2_with fail
        refine (between_any _ _ _ 1 1 [x.cm] _ (one_int2 _ _ _ _)).mono ?_
        rintro e v1 ⟨rfl, hA⟩
        rw [Q1.out]
        replace hA : Below (wr.alloc (.cells #[.int .i64 x.cm, .int .i64 x.pz, .int .i64 x.tr, .int .i64 x.lo, .int .i64 x.hi, .bool x.rt] 53)).heap.size (wr.alloc (.cells #[.int .i64 x.cm, .int .i64 x.pz, .int .i64 x.tr, .int .i64 x.lo, .int .i64 x.hi, .bool x.rt] 53)) v1 := ((Below.refl _ _).alloc (Nat.le_refl _) _).on hA
        replace hBx := hBx.on hA
        replace hx := hx.below hA
        replace hr := hr.below hA
        clear hA d0 d1 d2 d3 d4 d5 r0 r1 r2 r3 r4 r5
        obtain ⟨d0, d1, d2, d3, d4, d5⟩ := hx.g6
        obtain ⟨r0, r1, r2, r3, r4, r5⟩ := hr.g6
        (go_wp2_with fail; go_ret; exact ⟨ret_int HE.out.symm, hB.on hBx⟩)
      have Q1 := Lib.hid q1
      clear q1
      cases q2 : betw 0 (S.sh.ps - 1) [x.pz]
      · have Q2 := Lib.hid q2
        (have HE : Hid (rkE S.sh l = 530) := Lib.hid (HBAD.out (by rw [HSH.out, Bool.true_and]; exact all_no HXX.out (by rw [HRS.out, Q1.out, Q2.out]; rfl))))
        clear q2
        go_wp2_with fail
        refine (between_any _ _ _ 1 1 [x.cm] _ (one_int2 _ _ _ _)).mono ?_
        rintro e v1 ⟨rfl, hA⟩
        rw [Q1.out]
        replace hA : Below (wr.alloc (.cells #[.int .i64 x.cm, .int .i64 x.pz, .int .i64 x.tr, .int .i64 x.lo, .int .i64 x.hi, .bool x.rt] 53)).heap.size (wr.alloc (.cells #[.int .i64 x.cm, .int .i64 x.pz, .int .i64 x.tr, .int .i64 x.lo, .int .i64 x.hi, .bool x.rt] 53)) v1 := ((Below.refl _ _).alloc (Nat.le_refl _) _).on hA
        replace hBx := hBx.on hA
        replace hx := hx.below hA
        replace hr := hr.below hA
        clear hA d0 d1 d2 d3 d4 d5 r0 r1 r2 r3 r4 r5
        obtain ⟨d0, d1, d2, d3, d4, d5⟩ := hx.g6
        obtain ⟨r0, r1, r2, r3, r4, r5⟩ := hr.g6
        go_wp2_with fail
        refine (between_any _ _ _ 1 1 [x.pz] _ (one_int _ _ _)).mono ?_
        rintro e v2 ⟨rfl, hA⟩
        rw [Q2.out]
        replace hA : Below v1.heap.size v1 v2 := ((Below.refl _ _).alloc (Nat.le_refl _) _).on hA
        replace hBx := hBx.on hA
        replace hx := hx.below hA
        replace hr := hr.below hA
        clear hA d0 d1 d2 d3 d4 d5 r0 r1 r2 r3 r4 r5
        obtain ⟨d0, d1, d2, d3, d4, d5⟩ := hx.g6
        obtain ⟨r0, r1, r2, r3, r4, r5⟩ := hr.g6
        (go_wp2_with fail; go_ret; exact ⟨ret_int HE.out.symm, hB.on hBx⟩)
      have Q2 := Lib.hid q2
      clear q2
      cases q3 : betw 0 32 [x.tr]
      · have Q3 := Lib.hid q3
        (have HE : Hid (rkE S.sh l = 530) := Lib.hid (HBAD.out (by rw [HSH.out, Bool.true_and]; exact all_no HXX.out (by rw [HRS.out, Q1.out, Q2.out, Q3.out]; rfl))))
        clear q3
        go_wp2_with fail
        refine (between_any _ _ _ 1 1 [x.cm] _ (one_int2 _ _ _ _)).mono ?_
        rintro e v1 ⟨rfl, hA⟩
        rw [Q1.out]
        replace hA : Below (wr.alloc (.cells #[.int .i64 x.cm, .int .i64 x.pz, .int .i64 x.tr, .int .i64 x.lo, .int .i64 x.hi, .bool x.rt] 53)).heap.size (wr.alloc (.cells #[.int .i64 x.cm, .int .i64 x.pz, .int .i64 x.tr, .int .i64 x.lo, .int .i64 x.hi, .bool x.rt] 53)) v1 := ((Below.refl _ _).alloc (Nat.le_refl _) _).on hA
        replace hBx := hBx.on hA
        replace hx := hx.below hA
        replace hr := hr.below hA
        clear hA d0 d1 d2 d3 d4 d5 r0 r1 r2 r3 r4 r5
        obtain ⟨d0, d1, d2, d3, d4, d5⟩ := hx.g6
        obtain ⟨r0, r1, r2, r3, r4, r5⟩ := hr.g6
        go_wp2_with fail
        refine (between_any _ _ _ 1 1 [x.pz] _ (one_int _ _ _)).mono ?_
        rintro e v2 ⟨rfl, hA⟩
        rw [Q2.out]
        replace hA : Below v1.heap.size v1 v2 := ((Below.refl _ _).alloc (Nat.le_refl _) _).on hA
        replace hBx := hBx.on hA
        replace hx := hx.below hA
        replace hr := hr.below hA
        clear hA d0 d1 d2 d3 d4 d5 r0 r1 r2 r3 r4 r5
        obtain ⟨d0, d1, d2, d3, d4, d5⟩ := hx.g6
        obtain ⟨r0, r1, r2, r3, r4, r5⟩ := hr.g6
        go_wp2_with fail
        refine (between_any _ _ _ 1 1 [x.tr] _ (one_int _ _ _)).mono ?_
        rintro e v3 ⟨rfl, hA⟩
        rw [Q3.out]
        replace hA : Below v2.heap.size v2 v3 := ((Below.refl _ _).alloc (Nat.le_refl _) _).on hA
        replace hBx := hBx.on hA
        replace hx := hx.below hA
        replace hr := hr.below hA
        clear hA d0 d1 d2 d3 d4 d5 r0 r1 r2 r3 r4 r5
        obtain ⟨d0, d1, d2, d3, d4, d5⟩ := hx.g6
        obtain ⟨r0, r1, r2, r3, r4, r5⟩ := hr.g6
        (go_wp2_with fail; go_ret; exact ⟨ret_int HE.out.symm, hB.on hBx⟩)
      have Q3 := Lib.hid q3
      clear q3
      by_cases q4 : x.lo ≤ x.hi
      rotate_left
      · (have HE : Hid (rkE S.sh l = 530) := Lib.hid (HBAD.out (by rw [HSH.out, Bool.true_and]; exact all_no HXX.out (by rw [HRS.out, Q1.out, Q2.out, Q3.out, decide_eq_false q4]; rfl))))
        have m4 : decide (x.hi < x.lo) = true := by simp; omega
        clear q4
        go_wp2_with fail
        refine (between_any _ _ _ 1 1 [x.cm] _ (one_int2 _ _ _ _)).mono ?_
        rintro e v1 ⟨rfl, hA⟩
        rw [Q1.out]
        replace hA : Below (wr.alloc (.cells #[.int .i64 x.cm, .int .i64 x.pz, .int .i64 x.tr, .int .i64 x.lo, .int .i64 x.hi, .bool x.rt] 53)).heap.size (wr.alloc (.cells #[.int .i64 x.cm, .int .i64 x.pz, .int .i64 x.tr, .int .i64 x.lo, .int .i64 x.hi, .bool x.rt] 53)) v1 := ((Below.refl _ _).alloc (Nat.le_refl _) _).on hA
        replace hBx := hBx.on hA
        replace hx := hx.below hA
        replace hr := hr.below hA
        clear hA d0 d1 d2 d3 d4 d5 r0 r1 r2 r3 r4 r5
        obtain ⟨d0, d1, d2, d3, d4, d5⟩ := hx.g6
        obtain ⟨r0, r1, r2, r3, r4, r5⟩ := hr.g6
        go_wp2_with fail
        refine (between_any _ _ _ 1 1 [x.pz] _ (one_int _ _ _)).mono ?_
        rintro e v2 ⟨rfl, hA⟩
        rw [Q2.out]
        replace hA : Below v1.heap.size v1 v2 := ((Below.refl _ _).alloc (Nat.le_refl _) _).on hA
        replace hBx := hBx.on hA
        replace hx := hx.below hA
        replace hr := hr.below hA
        clear hA d0 d1 d2 d3 d4 d5 r0 r1 r2 r3 r4 r5
        obtain ⟨d0, d1, d2, d3, d4, d5⟩ := hx.g6
        obtain ⟨r0, r1, r2, r3, r4, r5⟩ := hr.g6
        go_wp2_with fail
        refine (between_any _ _ _ 1 1 [x.tr] _ (one_int _ _ _)).mono ?_
        rintro e v3 ⟨rfl, hA⟩
        rw [Q3.out]
        replace hA : Below v2.heap.size v2 v3 := ((Below.refl _ _).alloc (Nat.le_refl _) _).on hA
        replace hBx := hBx.on hA
        replace hx := hx.below hA
        replace hr := hr.below hA
        clear hA d0 d1 d2 d3 d4 d5 r0 r1 r2 r3 r4 r5
        obtain ⟨d0, d1, d2, d3, d4, d5⟩ := hx.g6
        obtain ⟨r0, r1, r2, r3, r4, r5⟩ := hr.g6
        (go_wp2_with fail; go_ret; exact ⟨ret_int HE.out.symm, hB.on hBx⟩)
      have Q4 : Hid (decide (x.lo ≤ x.hi) = true) := Lib.hid (decide_eq_true q4)
      have m4 : decide (x.hi < x.lo) = false := by simp; omega
      clear q4
      cases q5 : betw 0 1048576 [x.lo, x.hi]
      · have Q5 := Lib.hid q5
        (have HE : Hid (rkE S.sh l = 530) := Lib.hid (HBAD.out (by rw [HSH.out, Bool.true_and]; exact all_no HXX.out (by rw [HRS.out, Q1.out, Q2.out, Q3.out, Q4.out, Q5.out]; rfl))))
        clear q5
        go_wp2_with fail
        refine (between_any _ _ _ 1 1 [x.cm] _ (one_int2 _ _ _ _)).mono ?_
        rintro e v1 ⟨rfl, hA⟩
        rw [Q1.out]
        replace hA : Below (wr.alloc (.cells #[.int .i64 x.cm, .int .i64 x.pz, .int .i64 x.tr, .int .i64 x.lo, .int .i64 x.hi, .bool x.rt] 53)).heap.size (wr.alloc (.cells #[.int .i64 x.cm, .int .i64 x.pz, .int .i64 x.tr, .int .i64 x.lo, .int .i64 x.hi, .bool x.rt] 53)) v1 := ((Below.refl _ _).alloc (Nat.le_refl _) _).on hA
        replace hBx := hBx.on hA
        replace hx := hx.below hA
        replace hr := hr.below hA
        clear hA d0 d1 d2 d3 d4 d5 r0 r1 r2 r3 r4 r5
        obtain ⟨d0, d1, d2, d3, d4, d5⟩ := hx.g6
        obtain ⟨r0, r1, r2, r3, r4, r5⟩ := hr.g6
        go_wp2_with fail
        refine (between_any _ _ _ 1 1 [x.pz] _ (one_int _ _ _)).mono ?_
        rintro e v2 ⟨rfl, hA⟩
        rw [Q2.out]
        replace hA : Below v1.heap.size v1 v2 := ((Below.refl _ _).alloc (Nat.le_refl _) _).on hA
        replace hBx := hBx.on hA
        replace hx := hx.below hA
        replace hr := hr.below hA
        clear hA d0 d1 d2 d3 d4 d5 r0 r1 r2 r3 r4 r5
        obtain ⟨d0, d1, d2, d3, d4, d5⟩ := hx.g6
        obtain ⟨r0, r1, r2, r3, r4, r5⟩ := hr.g6
        go_wp2_with fail
        refine (between_any _ _ _ 1 1 [x.tr] _ (one_int _ _ _)).mono ?_
        rintro e v3 ⟨rfl, hA⟩
        rw [Q3.out]
        replace hA : Below v2.heap.size v2 v3 := ((Below.refl _ _).alloc (Nat.le_refl _) _).on hA
        replace hBx := hBx.on hA
        replace hx := hx.below hA
        replace hr := hr.below hA
        clear hA d0 d1 d2 d3 d4 d5 r0 r1 r2 r3 r4 r5
        obtain ⟨d0, d1, d2, d3, d4, d5⟩ := hx.g6
        obtain ⟨r0, r1, r2, r3, r4, r5⟩ := hr.g6
        go_wp2_with fail
        refine (between_any _ _ _ 2 2 [x.lo, x.hi] _ (two_int _ _ _ _)).mono ?_
        rintro e v4 ⟨rfl, hA⟩
        rw [Q5.out]
        replace hA : Below v3.heap.size v3 v4 := ((Below.refl _ _).alloc (Nat.le_refl _) _).on hA
        replace hBx := hBx.on hA
        clear hA d0 d1 d2 d3 d4 d5 r0 r1 r2 r3 r4 r5
        (go_wp2_with fail; go_ret; exact ⟨ret_int HE.out.symm, hB.on hBx⟩)
      have Q5 := Lib.hid q5
      have HR : Hid (okRs S.sh x = true) := Lib.hid (by rw [HRS.out, Q1.out, Q2.out, Q3.out, Q4.out, Q5.out]; rfl)
      clear q5
      go_wp2_with fail
      refine (between_any _ _ _ 1 1 [x.cm] _ (one_int2 _ _ _ _)).mono ?_
      rintro e v1 ⟨rfl, hA⟩
      rw [Q1.out]
      replace hA : Below (wr.alloc (.cells #[.int .i64 x.cm, .int .i64 x.pz, .int .i64 x.tr, .int .i64 x.lo, .int .i64 x.hi, .bool x.rt] 53)).heap.size (wr.alloc (.cells #[.int .i64 x.cm, .int .i64 x.pz, .int .i64 x.tr, .int .i64 x.lo, .int .i64 x.hi, .bool x.rt] 53)) v1 := ((Below.refl _ _).alloc (Nat.le_refl _) _).on hA
      replace hBx := hBx.on hA
      replace hx := hx.below hA
      replace hr := hr.below hA
      clear hA d0 d1 d2 d3 d4 d5 r0 r1 r2 r3 r4 r5
      obtain ⟨d0, d1, d2, d3, d4, d5⟩ := hx.g6
      obtain ⟨r0, r1, r2, r3, r4, r5⟩ := hr.g6
      go_wp2_with fail
      refine (between_any _ _ _ 1 1 [x.pz] _ (one_int _ _ _)).mono ?_
      rintro e v2 ⟨rfl, hA⟩
      rw [Q2.out]
      replace hA : Below v1.heap.size v1 v2 := ((Below.refl _ _).alloc (Nat.le_refl _) _).on hA
      replace hBx := hBx.on hA
      replace hx := hx.below hA
      replace hr := hr.below hA
      clear hA d0 d1 d2 d3 d4 d5 r0 r1 r2 r3 r4 r5
      obtain ⟨d0, d1, d2, d3, d4, d5⟩ := hx.g6
      obtain ⟨r0, r1, r2, r3, r4, r5⟩ := hr.g6
      go_wp2_with fail
      refine (between_any _ _ _ 1 1 [x.tr] _ (one_int _ _ _)).mono ?_
      rintro e v3 ⟨rfl, hA⟩
      rw [Q3.out]
      replace hA : Below v2.heap.size v2 v3 := ((Below.refl _ _).alloc (Nat.le_refl _) _).on hA
      replace hBx := hBx.on hA
      replace hx := hx.below hA
      replace hr := hr.below hA
      clear hA d0 d1 d2 d3 d4 d5 r0 r1 r2 r3 r4 r5
      obtain ⟨d0, d1, d2, d3, d4, d5⟩ := hx.g6
      obtain ⟨r0, r1, r2, r3, r4, r5⟩ := hr.g6
      go_wp2_with fail
      refine (between_any _ _ _ 2 2 [x.lo, x.hi] _ (two_int _ _ _ _)).mono ?_
      rintro e v4 ⟨rfl, hA⟩
      rw [Q5.out]
      replace hA : Below v3.heap.size v3 v4 := ((Below.refl _ _).alloc (Nat.le_refl _) _).on hA
      replace hBx := hBx.on hA
      clear hA d0 d1 d2 d3 d4 d5 r0 r1 r2 r3 r4 r5
      go_wp2_with fail
      go_roundw
      case rel => exact ⟨k + 1, by go_num, by omega, Lib.hid (all_to HA.out HXX.out HR.out), hBx⟩
      case measure => simp [intOf]; omega
    · obtain rfl : nl = k := by omega
      have HE : Hid (rkE S.sh l = 0) := Lib.hid (HOK.out (by
        have := HA.out
        rw [List.take_of_length_le (by rw [HL.out]; exact Nat.le_refl _)] at this
        rw [HSH.out, this]; rfl))
      go_wp2_with fail
      go_ret
      exact ⟨ret_int HE.out.symm, hB.on hBw⟩
end Go.Proofs.YtehoidohallfcaaGreatDoor
