/- Words of chapter 54 in memory: sheets, results, faults, programs; IndexFunc and ContainsFunc. -/
import Derived.Test.YtehoidohallfcaaGreatDoorPlM
import Derived.Test.YtehoidohallfcaaGreatDoorBaX
import Derived.Test.YtehoidohallfcaaGreatDoorProg
import Derived.Shelf.Abstract
import Derived.WalkSpells
import Derived.WalkLawsBesides
import Derived.Deep.LoopGhost
import Derived.BigQuiet
import Derived.StillTailTactics
import Derived.Lib.QuietBelow
import Derived.Lib.LaidTab
import Derived.Lib.ItoaNum
namespace Go.Proofs.YtehoidohallfcaaGreatDoor
open Go.RowKit
def encI (x : Int) : List Value := [.int .i64 x]
def encW (w : Wd) : List Value := [.int .i64 w.op, .int .i64 w.n]
def encRs (x : Rs) : List Value := [.int .i64 x.cm, .int .i64 x.pz, .int .i64 x.tr, .int .i64 x.lo, .int .i64 x.hi, .bool x.rt]
def encFt (f : Ft Value) : List Value := [.int .i64 f.pz, .int .i64 f.kd, .int .i64 f.un, .int .i64 f.dy, f.gr]
def encCg (x : Cg) : List Value := [.int .i64 x.cm, .int .i64 x.b1, .int .i64 x.b2, .int .i64 x.a1, .int .i64 x.a2, .int .i64 x.ft]
def encPr (x : Int × Int) : List Value := [.int .i64 x.1, .int .i64 x.2]
theorem encW_len (x : Wd) : (encW x).length = 2 := rfl
theorem encRs_len (x : Rs) : (encRs x).length = 6 := rfl
theorem encFt_len (x : Ft Value) : (encFt x).length = 5 := rfl
theorem encCg_len (x : Cg) : (encCg x).length = 6 := rfl
theorem encPr_len (x : Int × Int) : (encPr x).length = 2 := rfl
section
variable {w : World} {b o n c i : Nat}
theorem SL.w2 {l : List Wd} (h : SL encW 2 w (some ⟨b, o, none⟩) n c l) {x : Wd} (hx : l[i]? = some x) : w.cell? ⟨b, o + i * 2, none⟩ = some (.int .i64 x.op) ∧ w.cell? ⟨b, o + i * 2 + 1, none⟩ = some (.int .i64 x.n) :=
 ⟨h.cell b o rfl i x hx 0 _ rfl, h.cell b o rfl i x hx 1 _ rfl⟩
theorem SL.rs6 {l : List Rs} (h : SL encRs 6 w (some ⟨b, o, none⟩) n c l) {x : Rs} (hx : l[i]? = some x) : w.cell? ⟨b, o + i * 6, none⟩ = some (.int .i64 x.cm) ∧ w.cell? ⟨b, o + i * 6 + 1, none⟩ = some (.int .i64 x.pz) ∧ w.cell? ⟨b, o + i * 6 + 2, none⟩ = some (.int .i64 x.tr) ∧ w.cell? ⟨b, o + i * 6 + 3, none⟩ = some (.int .i64 x.lo) ∧ w.cell? ⟨b, o + i * 6 + 4, none⟩ = some (.int .i64 x.hi) ∧ w.cell? ⟨b, o + i * 6 + 5, none⟩ = some (.bool x.rt) :=
 ⟨h.cell b o rfl i x hx 0 _ rfl, h.cell b o rfl i x hx 1 _ rfl, h.cell b o rfl i x hx 2 _ rfl, h.cell b o rfl i x hx 3 _ rfl, h.cell b o rfl i x hx 4 _ rfl, h.cell b o rfl i x hx 5 _ rfl⟩
theorem SL.ft5 {l : List (Ft Value)} (h : SL encFt 5 w (some ⟨b, o, none⟩) n c l) {x : Ft Value} (hx : l[i]? = some x) : w.cell? ⟨b, o + i * 5, none⟩ = some (.int .i64 x.pz) ∧ w.cell? ⟨b, o + i * 5 + 1, none⟩ = some (.int .i64 x.kd) ∧ w.cell? ⟨b, o + i * 5 + 2, none⟩ = some (.int .i64 x.un) ∧ w.cell? ⟨b, o + i * 5 + 3, none⟩ = some (.int .i64 x.dy) ∧ w.cell? ⟨b, o + i * 5 + 4, none⟩ = some x.gr :=
 ⟨h.cell b o rfl i x hx 0 _ rfl, h.cell b o rfl i x hx 1 _ rfl, h.cell b o rfl i x hx 2 _ rfl, h.cell b o rfl i x hx 3 _ rfl, h.cell b o rfl i x hx 4 _ rfl⟩
end
theorem Ints.get {w : World} {b o n c : Nat} {l : List Int} (h : Ints w (some ⟨b, o, none⟩) n c l) {i : Nat} {x : Int} (hx : l[i]? = some x) : w.cell? ⟨b, o + i, none⟩ = some (.int .i64 x) := by
 have hi : i < n := by rw [← h.len]; exact (List.getElem?_eq_some_iff.1 hx).1
 have := h.cell b o rfl i hi
 rw [hx] at this
 exact this
theorem Ints.has {w : World} {a : Option Addr} {n c : Nat} {l : List Int} (h : Ints w a n c l) {i : Nat} (hi : i < n) : ∃ x, l[i]? = some x := ⟨_, List.getElem?_eq_getElem (by rw [h.len]; exact hi)⟩
def RetB (W : World) (v : Value) (e : Ending) (w' : World) : Prop := e = .returned v ∧ Below W.heap.size W w'
theorem takeF {α : Type} {l : List α} {k : Nat} {x : α} (h : l[k]? = some x) : l.take (k + 1) = l.take k ++ [x] := by
 obtain ⟨hk, he⟩ := List.getElem?_eq_some_iff.1 h
 rw [List.take_succ_eq_append_getElem hk, he]
def noneUpto {α : Type} (l : List α) (P : α → Bool) (k : Nat) : Prop := ∀ x ∈ l.take k, P x = false
theorem none_step {α : Type} {l : List α} {P : α → Bool} {k : Nat} {x : α} (hx : l[k]? = some x) (h : noneUpto l P k) (h2 : P x = false) : noneUpto l P (k + 1) := by
 intro y hy
 rw [takeF hx] at hy
 rcases List.mem_append.1 hy with hy | hy
 · exact h y hy
 · rw [List.mem_singleton.1 hy]; exact h2
def idxF {α : Type} (l : List α) (P : α → Bool) (z : Int) : Prop := (z = -1 ∧ ∀ x ∈ l, P x = false) ∨ ∃ (k : Nat) (x : α), z = (k : Int) ∧ l[k]? = some x ∧ P x = true ∧ noneUpto l P k
theorem idx_any {α : Type} (l : List α) (P : α → Bool) : ∀ z : Int, idxF l P z → decide (0 ≤ z) = l.any P := by
 rintro z (⟨rfl, h⟩ | ⟨k, x, rfl, hx, hp, _⟩)
 · symm; rw [show decide ((0 : Int) ≤ -1) = false by decide, List.any_eq_false]
   intro x hx; simp [h x hx]
 · rw [show decide ((0 : Int) ≤ k) = true by simp]
   exact (List.any_eq_true.2 ⟨x, List.mem_of_getElem? hx, hp⟩).symm
structure Sp where
 sh : Sh
 la : Option Addr
 ln : Nat
 lc : Nat
 ca : Option Addr
 cn : Nat
 cc : Nat
 pa : Option Addr
 pn : Nat
 pc : Nat
 ra : Option Addr
 rn : Nat
 rc : Nat
structure Sp.In (S : Sp) (w : World) : Prop where
 lv : Ints w S.la S.ln S.lc S.sh.lv
 cl : Ints w S.ca S.cn S.cc S.sh.cl
 pg : SL encW 2 w S.pa S.pn S.pc S.sh.pg
 pr : Ints w S.ra S.rn S.rc S.sh.pr
theorem Sp.In.below {S : Sp} {w w' : World} (h : S.In w) (hb : Below w.heap.size w w') : S.In w' := ⟨h.lv.below hb, h.cl.below hb, h.pg.below hb, h.pr.below hb⟩
def int_Pred (w : World) (f : FuncId) (caps : Array Value) (P : Int → Bool) : Prop := ∀ (x : Int) (W : World), Below w.heap.size w W → Calls Tryz.prog f (#[.int .i64 x] ++ caps) W fun e w' => RetB W (.bool (P x)) e w'
set_option maxRecDepth 10000 in
set_option maxHeartbeats 1000000 in
theorem int_index (f : FuncId) (caps : Array Value) (a0 : Option Addr) (n0 c0 : Nat) (l : List Int) (P : Int → Bool) (w : World) (hen : Enters Tryz.prog f) (h0 : Ints w a0 n0 c0 l) (hP : int_Pred w f caps P) :
 Calls Tryz.prog 61 #[.slice a0 n0 c0, .func (.func f) #[] caps] w fun e w' => ∃ z : Int, e = .returned (.int .i64 z) ∧ idxF l P z ∧ Below w.heap.size w w' := by
 have hm0 := h0.mx
 have hc0 := h0.cap
 have hl0 := Lib.hid h0.len
 unfold maxLen at hm0
 have HP := Lib.hid hP
 clear hP
 unfold Enters at hen
 go_enter Tryz.func61, Tryz.ntmps61
 go_wp2_with fail
 go_loopw [8] (fun i wr => ∃ k : Nat, k ≤ n0 ∧ i = .int .i64 k ∧ Hid (noneUpto l P k) ∧ Below w.heap.size w wr) (fun i _ => n0 - (intOf i).toNat)
 case atStart => exact ⟨0, by omega, rfl, Lib.hid (by intro x hx; simp at hx), Below.refl _ _⟩
 case round =>
  obtain ⟨k, hk, rfl, HM, hB⟩ := hrel
  by_cases hlt : k < n0
  · obtain ⟨b0, o0, rfl, hb0⟩ := h0.at' (by omega)
    obtain ⟨x, hx⟩ : ∃ x, l[k]? = some x := ⟨_, List.getElem?_eq_getElem (by rw [hl0.out]; exact hlt)⟩
    have e0 := (h0.below hB).get hx
    have HX := Lib.hid hx
    have s0 : (0 : Int) ≤ (k : Int) := by omega
    have s1 : (k : Int) < (n0 : Int) := by omega
    clear hx
    cases hd : P x
    · have HD := Lib.hid hd
      have hc := HP.out x wr hB
      rw [hd] at hc
      have HC := Lib.hid hc
      clear hc hd
      go_wp2_with (refine HC.out.mono ?_; rintro e w' ⟨rfl, hB2⟩)
      go_roundw
      case rel => exact ⟨k + 1, by omega, by go_num, Lib.hid (none_step HX.out HM.out HD.out), hB.on hB2⟩
      case measure => simp [intOf]; omega
    · have HD := Lib.hid hd
      have hc := HP.out x wr hB
      rw [hd] at hc
      have HC := Lib.hid hc
      clear hc hd
      go_wp2_with (refine HC.out.mono ?_; rintro e w' ⟨rfl, hB2⟩)
      go_ret
      exact ⟨(k : Int), rfl, .inr ⟨k, x, rfl, HX.out, HD.out, HM.out⟩, hB.on hB2⟩
  · obtain rfl : n0 = k := by omega
    go_wp2_with fail
    go_ret
    refine ⟨-1, rfl, .inl ⟨rfl, fun x hx => HM.out x ?_⟩, hB⟩
    rw [List.take_of_length_le (by rw [hl0.out]; omega)]; exact hx
set_option maxRecDepth 10000 in
set_option maxHeartbeats 1000000 in
theorem int_contains (f : FuncId) (caps : Array Value) (a0 : Option Addr) (n0 c0 : Nat) (l : List Int) (P : Int → Bool) (w : World) (hen : Enters Tryz.prog f) (h0 : Ints w a0 n0 c0 l) (hP : int_Pred w f caps P) :
 Calls Tryz.prog 43 #[.slice a0 n0 c0, .func (.func f) #[] caps] w fun e w' => RetB w (.bool (l.any P)) e w' := by
 have HI := Lib.hid (int_index f caps a0 n0 c0 l P w hen h0 hP)
 clear hP hen
 have HK := Lib.hid (idx_any l P)
 go_enter Tryz.func43, Tryz.ntmps43
 go_wp2_with (go_at_call 61; refine HI.out.mono ?_; rintro e w' ⟨z, rfl, hz, hB⟩; have HZ2 := Lib.hid (HK.out z hz); clear hz)
 all_goals
  go_ret
  exact ⟨ret_bool HZ2.out, hB⟩
def ft_Pred (w : World) (f : FuncId) (caps : Array Value) (P : (Ft Value) → Bool) : Prop := ∀ (x : (Ft Value)) (W : World), Below w.heap.size w W → Calls Tryz.prog f (#[.agg #[.int .i64 x.pz, .int .i64 x.kd, .int .i64 x.un, .int .i64 x.dy, x.gr]] ++ caps) W fun e w' => RetB W (.bool (P x)) e w'
set_option maxRecDepth 10000 in
set_option maxHeartbeats 1000000 in
theorem ft_index (f : FuncId) (caps : Array Value) (a0 : Option Addr) (n0 c0 : Nat) (l : List (Ft Value)) (P : (Ft Value) → Bool) (w : World) (hen : Enters Tryz.prog f) (h0 : SL encFt 5 w a0 n0 c0 l) (hP : ft_Pred w f caps P) :
 Calls Tryz.prog 49 #[.slice a0 n0 c0, .func (.func f) #[] caps] w fun e w' => ∃ z : Int, e = .returned (.int .i64 z) ∧ idxF l P z ∧ Below w.heap.size w w' := by
 have hm0 := h0.mx
 have hc0 := h0.cap
 have hl0 := Lib.hid h0.len
 unfold maxLen at hm0
 have HP := Lib.hid hP
 clear hP
 unfold Enters at hen
 go_enter Tryz.func49, Tryz.ntmps49
 go_wp2_with fail
 go_loopw [8] (fun i wr => ∃ k : Nat, k ≤ n0 ∧ i = .int .i64 k ∧ Hid (noneUpto l P k) ∧ Below w.heap.size w wr) (fun i _ => n0 - (intOf i).toNat)
 case atStart => exact ⟨0, by omega, rfl, Lib.hid (by intro x hx; simp at hx), Below.refl _ _⟩
 case round =>
  obtain ⟨k, hk, rfl, HM, hB⟩ := hrel
  by_cases hlt : k < n0
  · obtain ⟨b0, o0, rfl, hb0⟩ := h0.at' (by omega)
    obtain ⟨x, hx⟩ : ∃ x, l[k]? = some x := ⟨_, List.getElem?_eq_getElem (by rw [hl0.out]; exact hlt)⟩
    obtain ⟨e0, e1, e2, e3, e4⟩ := (h0.below hB).ft5 hx
    have HX := Lib.hid hx
    have s0 : (0 : Int) ≤ (k : Int) := by omega
    have s1 : (k : Int) < (n0 : Int) := by omega
    clear hx
    cases hd : P x
    · have HD := Lib.hid hd
      have hc := HP.out x wr hB
      rw [hd] at hc
      have HC := Lib.hid hc
      clear hc hd
      go_wp2_with (refine HC.out.mono ?_; rintro e w' ⟨rfl, hB2⟩)
      go_roundw
      case rel => exact ⟨k + 1, by omega, by go_num, Lib.hid (none_step HX.out HM.out HD.out), hB.on hB2⟩
      case measure => simp [intOf]; omega
    · have HD := Lib.hid hd
      have hc := HP.out x wr hB
      rw [hd] at hc
      have HC := Lib.hid hc
      clear hc hd
      go_wp2_with (refine HC.out.mono ?_; rintro e w' ⟨rfl, hB2⟩)
      go_ret
      exact ⟨(k : Int), rfl, .inr ⟨k, x, rfl, HX.out, HD.out, HM.out⟩, hB.on hB2⟩
  · obtain rfl : n0 = k := by omega
    go_wp2_with fail
    go_ret
    refine ⟨-1, rfl, .inl ⟨rfl, fun x hx => HM.out x ?_⟩, hB⟩
    rw [List.take_of_length_le (by rw [hl0.out]; omega)]; exact hx
set_option maxRecDepth 10000 in
set_option maxHeartbeats 1000000 in
theorem ft_contains (f : FuncId) (caps : Array Value) (a0 : Option Addr) (n0 c0 : Nat) (l : List (Ft Value)) (P : (Ft Value) → Bool) (w : World) (hen : Enters Tryz.prog f) (h0 : SL encFt 5 w a0 n0 c0 l) (hP : ft_Pred w f caps P) :
 Calls Tryz.prog 30 #[.slice a0 n0 c0, .func (.func f) #[] caps] w fun e w' => RetB w (.bool (l.any P)) e w' := by
 have HI := Lib.hid (ft_index f caps a0 n0 c0 l P w hen h0 hP)
 clear hP hen
 have HK := Lib.hid (idx_any l P)
 go_enter Tryz.func30, Tryz.ntmps30
 go_wp2_with (go_at_call 49; refine HI.out.mono ?_; rintro e w' ⟨z, rfl, hz, hB⟩; have HZ2 := Lib.hid (HK.out z hz); clear hz)
 all_goals
  go_ret
  exact ⟨ret_bool HZ2.out, hB⟩
open Go.RowKit
theorem btw1_any (lo hi x : Int) (p q : Nat) (W : World) (h1 : W.cell? ⟨p, 0, none⟩ = some (.int .i64 lo)) (h2 : W.cell? ⟨q, 0, none⟩ = some (.int .i64 hi)) :
 Calls Tryz.prog 72 #[.int .i64 x, .pointer (some ⟨p, 0, none⟩), .pointer (some ⟨q, 0, none⟩)] W fun e w' => RetB W (.bool (decide (x < lo) || decide (hi < x))) e w' := by
 by_cases h : x < lo
 · go_enter Tryz.func72, Tryz.ntmps72
   go_wp2_with fail
   go_ret
   exact ⟨by simp [h], Below.refl _ _⟩
 · have h' : decide (x < lo) = false := decide_eq_false h
   go_enter Tryz.func72, Tryz.ntmps72
   go_wp2_with fail
   all_goals
    go_ret
    exact ⟨by simp [*], Below.refl _ _⟩
theorem betw_any (lo hi : Int) (l : List Int) : (!(l.any fun x => decide (x < lo) || decide (hi < x))) = betw lo hi l := by
 unfold betw
 rw [List.not_any_eq_all_not]
 congr 1
 funext x
 rw [Bool.eq_iff_iff]
 simp only [Bool.not_eq_true', Bool.or_eq_false_iff, decide_eq_false_iff_not, Bool.and_eq_true, decide_eq_true_eq]
 omega
theorem between_any (lo hi : Int) (a : Option Addr) (n c : Nat) (l : List Int) (W : World) (h0 : Ints W a n c l) :
 Calls Tryz.prog 48 #[.int .i64 lo, .int .i64 hi, .slice a n c] W fun e w' => RetB W (.bool (betw lo hi l)) e w' := by
 have HB := Lib.hid (betw_any lo hi l)
 have hal : Below W.heap.size W ((W.alloc (.cells #[.int .i64 lo] 3)).alloc (.cells #[.int .i64 hi] 3)) := ((Below.refl _ _).alloc (Nat.le_refl _) _).alloc (by simp) _
 have hc1 := (Box.new W #[.int .i64 lo] 3).alloc (.cells #[.int .i64 hi] 3)
 have hc2 := Box.new (W.alloc (.cells #[.int .i64 lo] 3)) #[.int .i64 hi] 3
 rw [World.size_alloc] at hc2
 have HC := Lib.hid (int_contains 72 #[.pointer (some ⟨W.heap.size, 0, none⟩), .pointer (some ⟨W.heap.size + 1, 0, none⟩)] a n c l (fun x => decide (x < lo) || decide (hi < x)) _ (enters_of Tryz.func72 (by kernel_rfl) rfl) (h0.below hal)
  (fun x W' hb => btw1_any lo hi x _ _ W' (by simpa using (hc1.below hb).cell 0) (by simpa using (hc2.below hb).cell 0)))
 clear hc1 hc2
 go_enter Tryz.func48, Tryz.ntmps48
 go_wp2_with fail
 refine HC.out.mono ?_
 rintro e w1 ⟨rfl, hB⟩
 go_wp2_with fail
 go_ret
 exact ⟨ret_bool HB.out, hal.on hB⟩
open Go.RowKit
def Tab (w : World) : Prop := Lib.TabIs Tryz.prog w "internal/strconv.uint64pow10" .u64 Lib.pow10Tab
def PtC : Prop := ∀ (a : Option Addr) (n c : Nat) (l : List Wd) (w : World), SL encW 2 w a n c l → Tab w → Calls Tryz.prog 47 #[.slice a n c] w fun e w' => RetB w (.int .i64 (ptE l)) e w'
theorem al0 (W : World) (cs : Array Value) (t : TypeId) : Below W.heap.size W (W.alloc (.cells cs t)) := (Below.refl _ _).alloc (Nat.le_refl _) _
theorem Box.g6 {w : World} {B : Nat} {v0 v1 v2 v3 v4 v5 : Value} {t : TypeId} (h : Box w B #[v0, v1, v2, v3, v4, v5] t) : w.cell? ⟨B, 0, none⟩ = some v0 ∧ w.cell? ⟨B, 1, none⟩ = some v1 ∧ w.cell? ⟨B, 2, none⟩ = some v2 ∧ w.cell? ⟨B, 3, none⟩ = some v3 ∧ w.cell? ⟨B, 4, none⟩ = some v4 ∧ w.cell? ⟨B, 5, none⟩ = some v5 :=
 ⟨by simpa using h.cell 0, by simpa using h.cell 1, by simpa using h.cell 2, by simpa using h.cell 3, by simpa using h.cell 4, by simpa using h.cell 5⟩
theorem own_of_box {w : World} {B base n : Nat} {cs : Array Value} {t : TypeId} {l : List Int} (h : Box w B cs t) (hl : l.length = n) (hc : cs.toList = l.map (Value.int .i64)) (hb : base ≤ B) (hn : n ≤ 1000000) : OwnInts w base t (.slice (some ⟨B, 0, none⟩) n n) l := by
 unfold OwnInts
 refine ⟨by simp, .inr ⟨B, n, cs, by rw [hl], hb, h, by omega, by unfold maxLen; omega, ?_, ?_⟩⟩
 · have := congrArg List.length hc
   simpa [hl] using this
 · rw [hc, hl, Nat.mul_one, ← hl]; exact List.take_of_length_le (by simp)
theorem ints_new (w : World) (cs : Array Value) (l : List Int) (n : Nat) (t : TypeId) (h : cs.toList = l.map (Value.int .i64)) (hl : l.length = n) (hn : n ≤ 1000000) : Ints (w.alloc (.cells cs t)) (some ⟨w.heap.size, 0, none⟩) n n l := by
 have ho : OwnInts (w.alloc (.cells cs t)) w.heap.size t (.slice (some ⟨w.heap.size, 0, none⟩) n n) l := own_of_box (Box.new w cs t) hl h (Nat.le_refl _) hn
 obtain ⟨a, c, e, hI⟩ := ho.ints
 injection e with e1 e2 e3
 subst e1 e3
 rw [hl] at hI
 exact hI
theorem one_int (w : World) (x : Int) (t : TypeId) : Ints (w.alloc (.cells #[.int .i64 x] t)) (some ⟨w.heap.size, 0, none⟩) 1 1 [x] := ints_new w _ [x] 1 t rfl rfl (by omega)
theorem two_int (w : World) (x y : Int) (t : TypeId) : Ints (w.alloc (.cells #[.int .i64 x, .int .i64 y] t)) (some ⟨w.heap.size, 0, none⟩) 2 2 [x, y] := ints_new w _ [x, y] 2 t rfl rfl (by omega)
theorem one_int2 (w : World) (o : Obj) (x : Int) (t : TypeId) : Ints ((w.alloc o).alloc (.cells #[.int .i64 x] t)) (some ⟨w.heap.size + 1, 0, none⟩) 1 1 [x] := by
 have := one_int (w.alloc o) x t
 rw [World.size_alloc] at this
 exact this
theorem betw_one (lo hi x : Int) : betw lo hi [x] = (decide (lo ≤ x) && decide (x ≤ hi)) := by unfold betw; simp
theorem okSh_eq (S : Sh) : okSh S = (betw 1 8 [S.cs] && (betw 1 8 [S.ps] && (decide ((S.lv.length : Int) = S.ps) && (decide ((S.cl.length : Int) = S.ps) && (decide (S.pr.length ≤ 8) && (betw 0 9 S.lv && (betw 0 512 S.cl && betw 0 1048576 S.pr))))))) := by
 unfold okSh; rw [betw_one, betw_one]; simp only [Bool.and_assoc]
theorem okRs_eq (s : Sh) (x : Rs) : okRs s x = (betw 0 (s.cs - 1) [x.cm] && (betw 0 (s.ps - 1) [x.pz] && (betw 0 32 [x.tr] && (decide (x.lo ≤ x.hi) && betw 0 1048576 [x.lo, x.hi])))) := by
 unfold okRs betw
 rw [Bool.eq_iff_iff]
 simp only [Bool.and_eq_true, decide_eq_true_eq, List.all_cons, List.all_nil, Bool.and_true]
 omega
theorem rkE_bad {s : Sh} {l : List Rs} (h0 : l.length ≤ 32) (h1 : ptE s.pg = 0) (h2 : (okSh s && l.all (okRs s)) = false) : rkE s l = 530 := by
 unfold rkE; rw [if_neg (by omega), if_neg (by simp [h1]), if_neg (by simp [h2])]
theorem rkE_ok {s : Sh} {l : List Rs} (h0 : l.length ≤ 32) (h1 : ptE s.pg = 0) (h2 : (okSh s && l.all (okRs s)) = true) : rkE s l = 0 := by
 unfold rkE; rw [if_neg (by omega), if_neg (by simp [h1]), if_pos h2]
theorem all_no {α : Type} {P : α → Bool} {l : List α} {k : Nat} {x : α} (hx : l[k]? = some x) (h : P x = false) : l.all P = false := by
 rw [List.all_eq_false]; exact ⟨x, List.mem_of_getElem? hx, by simp [h]⟩
theorem all_to {α : Type} {P : α → Bool} {l : List α} {k : Nat} {x : α} (h : (l.take k).all P = true) (hx : l[k]? = some x) (hp : P x = true) : (l.take (k + 1)).all P = true := by
 rw [takeF hx, List.all_append, h]; simp [hp]
theorem Tab.below {w w' : World} (h : Tab w) (hb : Below w.heap.size w w') : Tab w' := by
 unfold Tab Lib.TabIs World.var? at h ⊢
 cases e : Tryz.prog.globalNamed "internal/strconv.uint64pow10" with
 | none => rw [e] at h; cases h
 | some g =>
  rw [e] at h
  simp only [Option.bind_some] at h ⊢
  cases e2 : w.heap[g]? with
  | none => rw [e2] at h; cases h
  | some o => rw [hb.block g (Array.getElem?_eq_some_iff.1 e2).1]; exact h
set_option maxRecDepth 10000 in
set_option maxHeartbeats 4000000 in
theorem rkCheck_any (hpt : PtC) (S : Sp) (al : Option Addr) (nl cl : Nat) (l : List Rs) (W : World) (ht : Tab W) (hS : S.In W) (h0 : SL encRs 6 W al nl cl l) :
 Calls Tryz.prog 27 #[.agg #[.int .i64 S.sh.cs, .int .i64 S.sh.ps, .slice S.la S.ln S.lc, .slice S.ca S.cn S.cc, .slice S.pa S.pn S.pc, .slice S.ra S.rn S.rc], .slice al nl cl] W fun e w' => RetB W (.int .i64 (rkE S.sh l)) e w' := by
 have hll := h0.len
 by_cases hn : 32 < nl
 · have HE : Hid (rkE S.sh l = 2) := Lib.hid (by unfold rkE; rw [if_pos (by omega)])
   have n0 : (32 : Int) < (nl : Int) := by omega
   clear hll
   go_enter Tryz.func27, Tryz.ntmps27
   go_wp2_with fail
   go_ret
   exact ⟨ret_int HE.out.symm, al0 _ _ _⟩
 have n0 : ¬ (32 : Int) < (nl : Int) := by omega
 have hl32 : l.length ≤ 32 := by omega
 by_cases hp : ptE S.sh.pg = 0
 rotate_left
 · have HE : Hid (rkE S.sh l = ptE S.sh.pg) := Lib.hid (by unfold rkE; rw [if_neg (by omega), if_pos hp])
   obtain ⟨pe, hpe⟩ : ∃ pe, ptE S.sh.pg = pe := ⟨_, rfl⟩
   rw [hpe] at HE hp
   have HP := Lib.hid hpe
   have n1 : (pe != 0) = true := by simpa using hp
   clear hpe hp hll
   go_enter Tryz.func27, Tryz.ntmps27
   go_wp2_with fail
   refine (hpt _ _ _ _ _ (hS.pg.below (al0 _ _ _)) (ht.below (al0 _ _ _))).mono ?_
   rintro e w1 ⟨rfl, hA⟩
   rw [HP.out]
   have hB : Below W.heap.size W w1 := (al0 _ _ _).on hA
   have hx := (Box.new W #[.int .i64 S.sh.cs, .int .i64 S.sh.ps, .slice S.la S.ln S.lc, .slice S.ca S.cn S.cc, .slice S.pa S.pn S.pc, .slice S.ra S.rn S.rc] 25).below hA
   clear hA
   obtain ⟨d0, d1, d2, d3, d4, d5⟩ := hx.g6
   go_wp2_with fail
   go_ret
   exact ⟨ret_int HE.out.symm, hB⟩
 have HP := Lib.hid hp
 have hbad := fun h => rkE_bad hl32 hp h
 have HBAD : Hid ((okSh S.sh && l.all (okRs S.sh)) = false → rkE S.sh l = 530) := Lib.hid hbad
 have HOK : Hid ((okSh S.sh && l.all (okRs S.sh)) = true → rkE S.sh l = 0) := Lib.hid fun h => rkE_ok hl32 hp h
 have HL := Lib.hid hll
 have HL1 := Lib.hid hS.lv.len
 have HL2 := Lib.hid hS.cl.len
 have HL3 := Lib.hid hS.pr.len
 have HEQ := Lib.hid (okSh_eq S.sh)
 clear hbad hp hll
 cases c1 : betw 1 8 [S.sh.cs]
 · have K1 := Lib.hid c1
   have HE : Hid (rkE S.sh l = 530) := Lib.hid (HBAD.out (by rw [HEQ.out, K1.out]; rfl))
   clear c1
   go_enter Tryz.func27, Tryz.ntmps27
   go_wp2_with fail
   refine (hpt _ _ _ _ _ (hS.pg.below (al0 _ _ _)) (ht.below (al0 _ _ _))).mono ?_
   rintro e w1 ⟨rfl, hA⟩
   rw [HP.out]
   have hB : Below W.heap.size W w1 := (al0 _ _ _).on hA
   have hx := (Box.new W #[.int .i64 S.sh.cs, .int .i64 S.sh.ps, .slice S.la S.ln S.lc, .slice S.ca S.cn S.cc, .slice S.pa S.pn S.pc, .slice S.ra S.rn S.rc] 25).below hA
   clear hA
   obtain ⟨d0, d1, d2, d3, d4, d5⟩ := hx.g6
   go_wp2_with fail
   refine (between_any _ _ _ 1 1 [S.sh.cs] _ (one_int _ _ _)).mono ?_
   rintro e w2 ⟨rfl, hA⟩
   rw [K1.out]
   replace hA : Below w1.heap.size w1 w2 := ((Below.refl _ _).alloc (Nat.le_refl _) _).on hA
   replace hB := hB.on hA
   replace hx := hx.below hA
   clear hA d0 d1 d2 d3 d4 d5
   obtain ⟨d0, d1, d2, d3, d4, d5⟩ := hx.g6
   (go_wp2_with fail; go_ret; exact ⟨ret_int HE.out.symm, hB⟩)
 have K1 := Lib.hid c1
 clear c1
 cases c2 : betw 1 8 [S.sh.ps]
 · have K2 := Lib.hid c2
   have HE : Hid (rkE S.sh l = 530) := Lib.hid (HBAD.out (by rw [HEQ.out, K1.out, K2.out]; rfl))
   clear c2
   go_enter Tryz.func27, Tryz.ntmps27
   go_wp2_with fail
   refine (hpt _ _ _ _ _ (hS.pg.below (al0 _ _ _)) (ht.below (al0 _ _ _))).mono ?_
   rintro e w1 ⟨rfl, hA⟩
   rw [HP.out]
   have hB : Below W.heap.size W w1 := (al0 _ _ _).on hA
   have hx := (Box.new W #[.int .i64 S.sh.cs, .int .i64 S.sh.ps, .slice S.la S.ln S.lc, .slice S.ca S.cn S.cc, .slice S.pa S.pn S.pc, .slice S.ra S.rn S.rc] 25).below hA
   clear hA
   obtain ⟨d0, d1, d2, d3, d4, d5⟩ := hx.g6
   go_wp2_with fail
   refine (between_any _ _ _ 1 1 [S.sh.cs] _ (one_int _ _ _)).mono ?_
   rintro e w2 ⟨rfl, hA⟩
   rw [K1.out]
   replace hA : Below w1.heap.size w1 w2 := ((Below.refl _ _).alloc (Nat.le_refl _) _).on hA
   replace hB := hB.on hA
   replace hx := hx.below hA
   clear hA d0 d1 d2 d3 d4 d5
   obtain ⟨d0, d1, d2, d3, d4, d5⟩ := hx.g6
   go_wp2_with fail
   refine (between_any _ _ _ 1 1 [S.sh.ps] _ (one_int _ _ _)).mono ?_
   rintro e w3 ⟨rfl, hA⟩
   rw [K2.out]
   replace hA : Below w2.heap.size w2 w3 := ((Below.refl _ _).alloc (Nat.le_refl _) _).on hA
   replace hB := hB.on hA
   replace hx := hx.below hA
   clear hA d0 d1 d2 d3 d4 d5
   obtain ⟨d0, d1, d2, d3, d4, d5⟩ := hx.g6
   (go_wp2_with fail; go_ret; exact ⟨ret_int HE.out.symm, hB⟩)
 have K2 := Lib.hid c2
 clear c2
 by_cases c3 : (S.ln : Int) = S.sh.ps
 rotate_left
 · (have HE : Hid (rkE S.sh l = 530) := Lib.hid (HBAD.out (by rw [HEQ.out, K1.out, K2.out, decide_eq_false (by rw [HL1.out]; exact c3)]; rfl)))
   have n3 : ((S.ln : Int) == S.sh.ps) = false := by simpa using c3
   clear c3
   go_enter Tryz.func27, Tryz.ntmps27
   go_wp2_with fail
   refine (hpt _ _ _ _ _ (hS.pg.below (al0 _ _ _)) (ht.below (al0 _ _ _))).mono ?_
   rintro e w1 ⟨rfl, hA⟩
   rw [HP.out]
   have hB : Below W.heap.size W w1 := (al0 _ _ _).on hA
   have hx := (Box.new W #[.int .i64 S.sh.cs, .int .i64 S.sh.ps, .slice S.la S.ln S.lc, .slice S.ca S.cn S.cc, .slice S.pa S.pn S.pc, .slice S.ra S.rn S.rc] 25).below hA
   clear hA
   obtain ⟨d0, d1, d2, d3, d4, d5⟩ := hx.g6
   go_wp2_with fail
   refine (between_any _ _ _ 1 1 [S.sh.cs] _ (one_int _ _ _)).mono ?_
   rintro e w2 ⟨rfl, hA⟩
   rw [K1.out]
   replace hA : Below w1.heap.size w1 w2 := ((Below.refl _ _).alloc (Nat.le_refl _) _).on hA
   replace hB := hB.on hA
   replace hx := hx.below hA
   clear hA d0 d1 d2 d3 d4 d5
   obtain ⟨d0, d1, d2, d3, d4, d5⟩ := hx.g6
   go_wp2_with fail
   refine (between_any _ _ _ 1 1 [S.sh.ps] _ (one_int _ _ _)).mono ?_
   rintro e w3 ⟨rfl, hA⟩
   rw [K2.out]
   replace hA : Below w2.heap.size w2 w3 := ((Below.refl _ _).alloc (Nat.le_refl _) _).on hA
   replace hB := hB.on hA
   replace hx := hx.below hA
   clear hA d0 d1 d2 d3 d4 d5
   obtain ⟨d0, d1, d2, d3, d4, d5⟩ := hx.g6
   (go_wp2_with fail; go_ret; exact ⟨ret_int HE.out.symm, hB⟩)
 have K3 : Hid (decide ((S.sh.lv.length : Int) = S.sh.ps) = true) := Lib.hid (decide_eq_true (by rw [HL1.out]; exact c3))
 have n3 : ((S.ln : Int) == S.sh.ps) = true := by simpa using c3
 clear c3
 by_cases c4 : (S.cn : Int) = S.sh.ps
 rotate_left
 · (have HE : Hid (rkE S.sh l = 530) := Lib.hid (HBAD.out (by rw [HEQ.out, K1.out, K2.out, K3.out, decide_eq_false (by rw [HL2.out]; exact c4)]; rfl)))
   have n4 : ((S.cn : Int) == S.sh.ps) = false := by simpa using c4
   clear c4
   go_enter Tryz.func27, Tryz.ntmps27
   go_wp2_with fail
   refine (hpt _ _ _ _ _ (hS.pg.below (al0 _ _ _)) (ht.below (al0 _ _ _))).mono ?_
   rintro e w1 ⟨rfl, hA⟩
   rw [HP.out]
   have hB : Below W.heap.size W w1 := (al0 _ _ _).on hA
   have hx := (Box.new W #[.int .i64 S.sh.cs, .int .i64 S.sh.ps, .slice S.la S.ln S.lc, .slice S.ca S.cn S.cc, .slice S.pa S.pn S.pc, .slice S.ra S.rn S.rc] 25).below hA
   clear hA
   obtain ⟨d0, d1, d2, d3, d4, d5⟩ := hx.g6
   go_wp2_with fail
   refine (between_any _ _ _ 1 1 [S.sh.cs] _ (one_int _ _ _)).mono ?_
   rintro e w2 ⟨rfl, hA⟩
   rw [K1.out]
   replace hA : Below w1.heap.size w1 w2 := ((Below.refl _ _).alloc (Nat.le_refl _) _).on hA
   replace hB := hB.on hA
   replace hx := hx.below hA
   clear hA d0 d1 d2 d3 d4 d5
   obtain ⟨d0, d1, d2, d3, d4, d5⟩ := hx.g6
   go_wp2_with fail
   refine (between_any _ _ _ 1 1 [S.sh.ps] _ (one_int _ _ _)).mono ?_
   rintro e w3 ⟨rfl, hA⟩
   rw [K2.out]
   replace hA : Below w2.heap.size w2 w3 := ((Below.refl _ _).alloc (Nat.le_refl _) _).on hA
   replace hB := hB.on hA
   replace hx := hx.below hA
   clear hA d0 d1 d2 d3 d4 d5
   obtain ⟨d0, d1, d2, d3, d4, d5⟩ := hx.g6
   (go_wp2_with fail; go_ret; exact ⟨ret_int HE.out.symm, hB⟩)
 have K4 : Hid (decide ((S.sh.cl.length : Int) = S.sh.ps) = true) := Lib.hid (decide_eq_true (by rw [HL2.out]; exact c4))
 have n4 : ((S.cn : Int) == S.sh.ps) = true := by simpa using c4
 clear c4
 by_cases c5 : S.rn ≤ 8
 rotate_left
 · (have HE : Hid (rkE S.sh l = 530) := Lib.hid (HBAD.out (by rw [HEQ.out, K1.out, K2.out, K3.out, K4.out, decide_eq_false (show ¬ S.sh.pr.length ≤ 8 by rw [HL3.out]; exact c5)]; rfl)))
   have n5 : decide ((S.rn : Int) ≤ 8) = false := by simp; omega
   clear c5
   go_enter Tryz.func27, Tryz.ntmps27
   go_wp2_with fail
   refine (hpt _ _ _ _ _ (hS.pg.below (al0 _ _ _)) (ht.below (al0 _ _ _))).mono ?_
   rintro e w1 ⟨rfl, hA⟩
   rw [HP.out]
   have hB : Below W.heap.size W w1 := (al0 _ _ _).on hA
   have hx := (Box.new W #[.int .i64 S.sh.cs, .int .i64 S.sh.ps, .slice S.la S.ln S.lc, .slice S.ca S.cn S.cc, .slice S.pa S.pn S.pc, .slice S.ra S.rn S.rc] 25).below hA
   clear hA
   obtain ⟨d0, d1, d2, d3, d4, d5⟩ := hx.g6
   go_wp2_with fail
   refine (between_any _ _ _ 1 1 [S.sh.cs] _ (one_int _ _ _)).mono ?_
   rintro e w2 ⟨rfl, hA⟩
   rw [K1.out]
   replace hA : Below w1.heap.size w1 w2 := ((Below.refl _ _).alloc (Nat.le_refl _) _).on hA
   replace hB := hB.on hA
   replace hx := hx.below hA
   clear hA d0 d1 d2 d3 d4 d5
   obtain ⟨d0, d1, d2, d3, d4, d5⟩ := hx.g6
   go_wp2_with fail
   refine (between_any _ _ _ 1 1 [S.sh.ps] _ (one_int _ _ _)).mono ?_
   rintro e w3 ⟨rfl, hA⟩
   rw [K2.out]
   replace hA : Below w2.heap.size w2 w3 := ((Below.refl _ _).alloc (Nat.le_refl _) _).on hA
   replace hB := hB.on hA
   replace hx := hx.below hA
   clear hA d0 d1 d2 d3 d4 d5
   obtain ⟨d0, d1, d2, d3, d4, d5⟩ := hx.g6
   (go_wp2_with fail; go_ret; exact ⟨ret_int HE.out.symm, hB⟩)
 have K5 : Hid (decide (S.sh.pr.length ≤ 8) = true) := Lib.hid (decide_eq_true (by rw [HL3.out]; exact c5))
 have n5 : decide ((S.rn : Int) ≤ 8) = true := by simp; omega
 clear c5
 cases c6 : betw 0 9 S.sh.lv
 · have K6 := Lib.hid c6
   (have HE : Hid (rkE S.sh l = 530) := Lib.hid (HBAD.out (by rw [HEQ.out, K1.out, K2.out, K3.out, K4.out, K5.out, K6.out]; rfl)))
   clear c6
   go_enter Tryz.func27, Tryz.ntmps27
   go_wp2_with fail
   refine (hpt _ _ _ _ _ (hS.pg.below (al0 _ _ _)) (ht.below (al0 _ _ _))).mono ?_
   rintro e w1 ⟨rfl, hA⟩
   rw [HP.out]
   have hB : Below W.heap.size W w1 := (al0 _ _ _).on hA
   have hx := (Box.new W #[.int .i64 S.sh.cs, .int .i64 S.sh.ps, .slice S.la S.ln S.lc, .slice S.ca S.cn S.cc, .slice S.pa S.pn S.pc, .slice S.ra S.rn S.rc] 25).below hA
   clear hA
   obtain ⟨d0, d1, d2, d3, d4, d5⟩ := hx.g6
   go_wp2_with fail
   refine (between_any _ _ _ 1 1 [S.sh.cs] _ (one_int _ _ _)).mono ?_
   rintro e w2 ⟨rfl, hA⟩
   rw [K1.out]
   replace hA : Below w1.heap.size w1 w2 := ((Below.refl _ _).alloc (Nat.le_refl _) _).on hA
   replace hB := hB.on hA
   replace hx := hx.below hA
   clear hA d0 d1 d2 d3 d4 d5
   obtain ⟨d0, d1, d2, d3, d4, d5⟩ := hx.g6
   go_wp2_with fail
   refine (between_any _ _ _ 1 1 [S.sh.ps] _ (one_int _ _ _)).mono ?_
   rintro e w3 ⟨rfl, hA⟩
   rw [K2.out]
   replace hA : Below w2.heap.size w2 w3 := ((Below.refl _ _).alloc (Nat.le_refl _) _).on hA
   replace hB := hB.on hA
   replace hx := hx.below hA
   clear hA d0 d1 d2 d3 d4 d5
   obtain ⟨d0, d1, d2, d3, d4, d5⟩ := hx.g6
   go_wp2_with fail
   refine (between_any _ _ _ _ _ _ _ (hS.lv.below hB)).mono ?_
   rintro e w4 ⟨rfl, hA⟩
   rw [K6.out]
   replace hB := hB.on hA
   replace hx := hx.below hA
   clear hA d0 d1 d2 d3 d4 d5
   obtain ⟨d0, d1, d2, d3, d4, d5⟩ := hx.g6
   (go_wp2_with fail; go_ret; exact ⟨ret_int HE.out.symm, hB⟩)
 have K6 := Lib.hid c6
 clear c6
 cases c7 : betw 0 512 S.sh.cl
 · have K7 := Lib.hid c7
   (have HE : Hid (rkE S.sh l = 530) := Lib.hid (HBAD.out (by rw [HEQ.out, K1.out, K2.out, K3.out, K4.out, K5.out, K6.out, K7.out]; rfl)))
   clear c7
   go_enter Tryz.func27, Tryz.ntmps27
   go_wp2_with fail
   refine (hpt _ _ _ _ _ (hS.pg.below (al0 _ _ _)) (ht.below (al0 _ _ _))).mono ?_
   rintro e w1 ⟨rfl, hA⟩
   rw [HP.out]
   have hB : Below W.heap.size W w1 := (al0 _ _ _).on hA
   have hx := (Box.new W #[.int .i64 S.sh.cs, .int .i64 S.sh.ps, .slice S.la S.ln S.lc, .slice S.ca S.cn S.cc, .slice S.pa S.pn S.pc, .slice S.ra S.rn S.rc] 25).below hA
   clear hA
   obtain ⟨d0, d1, d2, d3, d4, d5⟩ := hx.g6
   go_wp2_with fail
   refine (between_any _ _ _ 1 1 [S.sh.cs] _ (one_int _ _ _)).mono ?_
   rintro e w2 ⟨rfl, hA⟩
   rw [K1.out]
   replace hA : Below w1.heap.size w1 w2 := ((Below.refl _ _).alloc (Nat.le_refl _) _).on hA
   replace hB := hB.on hA
   replace hx := hx.below hA
   clear hA d0 d1 d2 d3 d4 d5
   obtain ⟨d0, d1, d2, d3, d4, d5⟩ := hx.g6
   go_wp2_with fail
   refine (between_any _ _ _ 1 1 [S.sh.ps] _ (one_int _ _ _)).mono ?_
   rintro e w3 ⟨rfl, hA⟩
   rw [K2.out]
   replace hA : Below w2.heap.size w2 w3 := ((Below.refl _ _).alloc (Nat.le_refl _) _).on hA
   replace hB := hB.on hA
   replace hx := hx.below hA
   clear hA d0 d1 d2 d3 d4 d5
   obtain ⟨d0, d1, d2, d3, d4, d5⟩ := hx.g6
   go_wp2_with fail
   refine (between_any _ _ _ _ _ _ _ (hS.lv.below hB)).mono ?_
   rintro e w4 ⟨rfl, hA⟩
   rw [K6.out]
   replace hB := hB.on hA
   replace hx := hx.below hA
   clear hA d0 d1 d2 d3 d4 d5
   obtain ⟨d0, d1, d2, d3, d4, d5⟩ := hx.g6
   go_wp2_with fail
   refine (between_any _ _ _ _ _ _ _ (hS.cl.below hB)).mono ?_
   rintro e w5 ⟨rfl, hA⟩
   rw [K7.out]
   replace hB := hB.on hA
   replace hx := hx.below hA
   clear hA d0 d1 d2 d3 d4 d5
   obtain ⟨d0, d1, d2, d3, d4, d5⟩ := hx.g6
   (go_wp2_with fail; go_ret; exact ⟨ret_int HE.out.symm, hB⟩)
 have K7 := Lib.hid c7
 clear c7
 cases c8 : betw 0 1048576 S.sh.pr
 · have K8 := Lib.hid c8
   (have HE : Hid (rkE S.sh l = 530) := Lib.hid (HBAD.out (by rw [HEQ.out, K1.out, K2.out, K3.out, K4.out, K5.out, K6.out, K7.out, K8.out]; rfl)))
   clear c8
   go_enter Tryz.func27, Tryz.ntmps27
   go_wp2_with fail
   refine (hpt _ _ _ _ _ (hS.pg.below (al0 _ _ _)) (ht.below (al0 _ _ _))).mono ?_
   rintro e w1 ⟨rfl, hA⟩
   rw [HP.out]
   have hB : Below W.heap.size W w1 := (al0 _ _ _).on hA
   have hx := (Box.new W #[.int .i64 S.sh.cs, .int .i64 S.sh.ps, .slice S.la S.ln S.lc, .slice S.ca S.cn S.cc, .slice S.pa S.pn S.pc, .slice S.ra S.rn S.rc] 25).below hA
   clear hA
   obtain ⟨d0, d1, d2, d3, d4, d5⟩ := hx.g6
   go_wp2_with fail
   refine (between_any _ _ _ 1 1 [S.sh.cs] _ (one_int _ _ _)).mono ?_
   rintro e w2 ⟨rfl, hA⟩
   rw [K1.out]
   replace hA : Below w1.heap.size w1 w2 := ((Below.refl _ _).alloc (Nat.le_refl _) _).on hA
   replace hB := hB.on hA
   replace hx := hx.below hA
   clear hA d0 d1 d2 d3 d4 d5
   obtain ⟨d0, d1, d2, d3, d4, d5⟩ := hx.g6
   go_wp2_with fail
   refine (between_any _ _ _ 1 1 [S.sh.ps] _ (one_int _ _ _)).mono ?_
   rintro e w3 ⟨rfl, hA⟩
   rw [K2.out]
   replace hA : Below w2.heap.size w2 w3 := ((Below.refl _ _).alloc (Nat.le_refl _) _).on hA
   replace hB := hB.on hA
   replace hx := hx.below hA
   clear hA d0 d1 d2 d3 d4 d5
   obtain ⟨d0, d1, d2, d3, d4, d5⟩ := hx.g6
   go_wp2_with fail
   refine (between_any _ _ _ _ _ _ _ (hS.lv.below hB)).mono ?_
   rintro e w4 ⟨rfl, hA⟩
   rw [K6.out]
   replace hB := hB.on hA
   replace hx := hx.below hA
   clear hA d0 d1 d2 d3 d4 d5
   obtain ⟨d0, d1, d2, d3, d4, d5⟩ := hx.g6
   go_wp2_with fail
   refine (between_any _ _ _ _ _ _ _ (hS.cl.below hB)).mono ?_
   rintro e w5 ⟨rfl, hA⟩
   rw [K7.out]
   replace hB := hB.on hA
   replace hx := hx.below hA
   clear hA d0 d1 d2 d3 d4 d5
   obtain ⟨d0, d1, d2, d3, d4, d5⟩ := hx.g6
   go_wp2_with fail
   refine (between_any _ _ _ _ _ _ _ (hS.pr.below hB)).mono ?_
   rintro e w6 ⟨rfl, hA⟩
   rw [K8.out]
   replace hB := hB.on hA
   replace hx := hx.below hA
   clear hA d0 d1 d2 d3 d4 d5
   obtain ⟨d0, d1, d2, d3, d4, d5⟩ := hx.g6
   (go_wp2_with fail; go_ret; exact ⟨ret_int HE.out.symm, hB⟩)
 have K8 := Lib.hid c8
 clear c8
 have HSH : Hid (okSh S.sh = true) := Lib.hid (by rw [HEQ.out, K1.out, K2.out, K3.out, K4.out, K5.out, K6.out, K7.out, K8.out]; rfl)
 have hcs : 1 ≤ S.sh.cs ∧ S.sh.cs ≤ 8 := by have := K1.out; rw [betw_one] at this; simpa using this
 have hps : 1 ≤ S.sh.ps ∧ S.sh.ps ≤ 8 := by have := K2.out; rw [betw_one] at this; simpa using this
 obtain ⟨g1, g2⟩ := hcs
 obtain ⟨g3, g4⟩ := hps
 go_enter Tryz.func27, Tryz.ntmps27
 go_wp2_with fail
 refine (hpt _ _ _ _ _ (hS.pg.below (al0 _ _ _)) (ht.below (al0 _ _ _))).mono ?_
 rintro e w1 ⟨rfl, hA⟩
 rw [HP.out]
 have hB : Below W.heap.size W w1 := (al0 _ _ _).on hA
 have hx := (Box.new W #[.int .i64 S.sh.cs, .int .i64 S.sh.ps, .slice S.la S.ln S.lc, .slice S.ca S.cn S.cc, .slice S.pa S.pn S.pc, .slice S.ra S.rn S.rc] 25).below hA
 clear hA
 obtain ⟨d0, d1, d2, d3, d4, d5⟩ := hx.g6
 go_wp2_with fail
 refine (between_any _ _ _ 1 1 [S.sh.cs] _ (one_int _ _ _)).mono ?_
 rintro e w2 ⟨rfl, hA⟩
 rw [K1.out]
 replace hA : Below w1.heap.size w1 w2 := ((Below.refl _ _).alloc (Nat.le_refl _) _).on hA
 replace hB := hB.on hA
 replace hx := hx.below hA
 clear hA d0 d1 d2 d3 d4 d5
 obtain ⟨d0, d1, d2, d3, d4, d5⟩ := hx.g6
 go_wp2_with fail
 refine (between_any _ _ _ 1 1 [S.sh.ps] _ (one_int _ _ _)).mono ?_
 rintro e w3 ⟨rfl, hA⟩
 rw [K2.out]
 replace hA : Below w2.heap.size w2 w3 := ((Below.refl _ _).alloc (Nat.le_refl _) _).on hA
 replace hB := hB.on hA
 replace hx := hx.below hA
 clear hA d0 d1 d2 d3 d4 d5
 obtain ⟨d0, d1, d2, d3, d4, d5⟩ := hx.g6
 go_wp2_with fail
 refine (between_any _ _ _ _ _ _ _ (hS.lv.below hB)).mono ?_
 rintro e w4 ⟨rfl, hA⟩
 rw [K6.out]
 replace hB := hB.on hA
 replace hx := hx.below hA
 clear hA d0 d1 d2 d3 d4 d5
 obtain ⟨d0, d1, d2, d3, d4, d5⟩ := hx.g6
 go_wp2_with fail
 refine (between_any _ _ _ _ _ _ _ (hS.cl.below hB)).mono ?_
 rintro e w5 ⟨rfl, hA⟩
 rw [K7.out]
 replace hB := hB.on hA
 replace hx := hx.below hA
 clear hA d0 d1 d2 d3 d4 d5
 obtain ⟨d0, d1, d2, d3, d4, d5⟩ := hx.g6
 go_wp2_with fail
 refine (between_any _ _ _ _ _ _ _ (hS.pr.below hB)).mono ?_
 rintro e w6 ⟨rfl, hA⟩
 rw [K8.out]
 replace hB := hB.on hA
 replace hx := hx.below hA
 clear hA d0 d1 d2 d3 d4 d5
 obtain ⟨d0, d1, d2, d3, d4, d5⟩ := hx.g6
 go_wp2_with fail
 obtain ⟨wo, hwo⟩ : ∃ wo, wo = w6 := ⟨_, rfl⟩
 rw [← hwo] at hB hx ⊢
 clear hwo d0 d1 d2 d3 d4 d5
 have hbl : W.heap.size < wo.heap.size := hx.lt
 go_loopw [72] (fun i wr => ∃ k : Nat, i = .int .i64 k ∧ k ≤ nl ∧ Hid ((l.take k).all (okRs S.sh) = true) ∧ Below wo.heap.size wo wr) (fun i _ => nl - (intOf i).toNat)
 case atStart => exact ⟨0, rfl, by omega, Lib.hid rfl, Below.refl _ _⟩
 case round =>
  obtain ⟨k, rfl, hk, HA, hBw⟩ := hrel
  by_cases hlt : k < nl
  · obtain ⟨b0, o0, rfl, hb0⟩ := h0.at' (by omega)
    obtain ⟨x, hX⟩ := h0.get hlt
    obtain ⟨e0, e1, e2, e3, e4, e5⟩ := (h0.below (hB.on hBw)).rs6 hX
    have HXX := Lib.hid hX
    have s0 : (0 : Int) ≤ (k : Int) := by omega
    have s1 : (k : Int) < (nl : Int) := by omega
    have hx0 := hx
    have hnw := hBw.size
    have hr : Box (wr.alloc (.cells #[.int .i64 x.cm, .int .i64 x.pz, .int .i64 x.tr, .int .i64 x.lo, .int .i64 x.hi, .bool x.rt] 53)) wr.heap.size #[.int .i64 x.cm, .int .i64 x.pz, .int .i64 x.tr, .int .i64 x.lo, .int .i64 x.hi, .bool x.rt] 53 := Box.new _ _ _
    have hB0 : Below wr.heap.size wr (wr.alloc (.cells #[.int .i64 x.cm, .int .i64 x.pz, .int .i64 x.tr, .int .i64 x.lo, .int .i64 x.hi, .bool x.rt] 53)) := al0 _ _ _
    obtain ⟨d0, d1, d2, d3, d4, d5⟩ := (hx0.below hBw).g6
    obtain ⟨r0, r1, r2, r3, r4, r5⟩ := hr.g6
    have hbw : W.heap.size < wr.heap.size := by omega
    have hx := (hx0.below hBw).below hB0
    have hBx := hBw.on hB0
    have HRS := Lib.hid (okRs_eq S.sh x)
    clear hX hB0
    cases q1 : betw 0 (S.sh.cs - 1) [x.cm]
    · have Q1 := Lib.hid q1
      (have HE : Hid (rkE S.sh l = 530) := Lib.hid (HBAD.out (by rw [HSH.out, Bool.true_and]; exact all_no HXX.out (by rw [HRS.out, Q1.out]; rfl))))
      clear q1
      go_wp2_with fail
      refine (between_any _ _ _ 1 1 [x.cm] _ (one_int2 _ _ _ _)).mono ?_
      rintro e v1 ⟨rfl, hA⟩
      rw [Q1.out]
      replace hA : Below (wr.alloc (.cells #[.int .i64 x.cm, .int .i64 x.pz, .int .i64 x.tr, .int .i64 x.lo, .int .i64 x.hi, .bool x.rt] 53)).heap.size (wr.alloc (.cells #[.int .i64 x.cm, .int .i64 x.pz, .int .i64 x.tr, .int .i64 x.lo, .int .i64 x.hi, .bool x.rt] 53)) v1 := ((Below.refl _ _).alloc (Nat.le_refl _) _).on hA
      replace hBx := hBx.on hA
      replace hx := hx.below hA
      replace hr := hr.below hA
      clear hA d0 d1 d2 d3 d4 d5 r0 r1 r2 r3 r4 r5
      obtain ⟨d0, d1, d2, d3, d4, d5⟩ := hx.g6
      obtain ⟨r0, r1, r2, r3, r4, r5⟩ := hr.g6
      (go_wp2_with fail; go_ret; exact ⟨ret_int HE.out.symm, hB.on hBx⟩)
    have Q1 := Lib.hid q1
    clear q1
    cases q2 : betw 0 (S.sh.ps - 1) [x.pz]
    · have Q2 := Lib.hid q2
      (have HE : Hid (rkE S.sh l = 530) := Lib.hid (HBAD.out (by rw [HSH.out, Bool.true_and]; exact all_no HXX.out (by rw [HRS.out, Q1.out, Q2.out]; rfl))))
      clear q2
      go_wp2_with fail
      refine (between_any _ _ _ 1 1 [x.cm] _ (one_int2 _ _ _ _)).mono ?_
      rintro e v1 ⟨rfl, hA⟩
      rw [Q1.out]
      replace hA : Below (wr.alloc (.cells #[.int .i64 x.cm, .int .i64 x.pz, .int .i64 x.tr, .int .i64 x.lo, .int .i64 x.hi, .bool x.rt] 53)).heap.size (wr.alloc (.cells #[.int .i64 x.cm, .int .i64 x.pz, .int .i64 x.tr, .int .i64 x.lo, .int .i64 x.hi, .bool x.rt] 53)) v1 := ((Below.refl _ _).alloc (Nat.le_refl _) _).on hA
      replace hBx := hBx.on hA
      replace hx := hx.below hA
      replace hr := hr.below hA
      clear hA d0 d1 d2 d3 d4 d5 r0 r1 r2 r3 r4 r5
      obtain ⟨d0, d1, d2, d3, d4, d5⟩ := hx.g6
      obtain ⟨r0, r1, r2, r3, r4, r5⟩ := hr.g6
      go_wp2_with fail
      refine (between_any _ _ _ 1 1 [x.pz] _ (one_int _ _ _)).mono ?_
      rintro e v2 ⟨rfl, hA⟩
      rw [Q2.out]
      replace hA : Below v1.heap.size v1 v2 := ((Below.refl _ _).alloc (Nat.le_refl _) _).on hA
      replace hBx := hBx.on hA
      replace hx := hx.below hA
      replace hr := hr.below hA
      clear hA d0 d1 d2 d3 d4 d5 r0 r1 r2 r3 r4 r5
      obtain ⟨d0, d1, d2, d3, d4, d5⟩ := hx.g6
      obtain ⟨r0, r1, r2, r3, r4, r5⟩ := hr.g6
      (go_wp2_with fail; go_ret; exact ⟨ret_int HE.out.symm, hB.on hBx⟩)
    have Q2 := Lib.hid q2
    clear q2
    cases q3 : betw 0 32 [x.tr]
    · have Q3 := Lib.hid q3
      (have HE : Hid (rkE S.sh l = 530) := Lib.hid (HBAD.out (by rw [HSH.out, Bool.true_and]; exact all_no HXX.out (by rw [HRS.out, Q1.out, Q2.out, Q3.out]; rfl))))
      clear q3
      go_wp2_with fail
      refine (between_any _ _ _ 1 1 [x.cm] _ (one_int2 _ _ _ _)).mono ?_
      rintro e v1 ⟨rfl, hA⟩
      rw [Q1.out]
      replace hA : Below (wr.alloc (.cells #[.int .i64 x.cm, .int .i64 x.pz, .int .i64 x.tr, .int .i64 x.lo, .int .i64 x.hi, .bool x.rt] 53)).heap.size (wr.alloc (.cells #[.int .i64 x.cm, .int .i64 x.pz, .int .i64 x.tr, .int .i64 x.lo, .int .i64 x.hi, .bool x.rt] 53)) v1 := ((Below.refl _ _).alloc (Nat.le_refl _) _).on hA
      replace hBx := hBx.on hA
      replace hx := hx.below hA
      replace hr := hr.below hA
      clear hA d0 d1 d2 d3 d4 d5 r0 r1 r2 r3 r4 r5
      obtain ⟨d0, d1, d2, d3, d4, d5⟩ := hx.g6
      obtain ⟨r0, r1, r2, r3, r4, r5⟩ := hr.g6
      go_wp2_with fail
      refine (between_any _ _ _ 1 1 [x.pz] _ (one_int _ _ _)).mono ?_
      rintro e v2 ⟨rfl, hA⟩
      rw [Q2.out]
      replace hA : Below v1.heap.size v1 v2 := ((Below.refl _ _).alloc (Nat.le_refl _) _).on hA
      replace hBx := hBx.on hA
      replace hx := hx.below hA
      replace hr := hr.below hA
      clear hA d0 d1 d2 d3 d4 d5 r0 r1 r2 r3 r4 r5
      obtain ⟨d0, d1, d2, d3, d4, d5⟩ := hx.g6
      obtain ⟨r0, r1, r2, r3, r4, r5⟩ := hr.g6
      go_wp2_with fail
      refine (between_any _ _ _ 1 1 [x.tr] _ (one_int _ _ _)).mono ?_
      rintro e v3 ⟨rfl, hA⟩
      rw [Q3.out]
      replace hA : Below v2.heap.size v2 v3 := ((Below.refl _ _).alloc (Nat.le_refl _) _).on hA
      replace hBx := hBx.on hA
      replace hx := hx.below hA
      replace hr := hr.below hA
      clear hA d0 d1 d2 d3 d4 d5 r0 r1 r2 r3 r4 r5
      obtain ⟨d0, d1, d2, d3, d4, d5⟩ := hx.g6
      obtain ⟨r0, r1, r2, r3, r4, r5⟩ := hr.g6
      (go_wp2_with fail; go_ret; exact ⟨ret_int HE.out.symm, hB.on hBx⟩)
    have Q3 := Lib.hid q3
    clear q3
    by_cases q4 : x.lo ≤ x.hi
    rotate_left
    · (have HE : Hid (rkE S.sh l = 530) := Lib.hid (HBAD.out (by rw [HSH.out, Bool.true_and]; exact all_no HXX.out (by rw [HRS.out, Q1.out, Q2.out, Q3.out, decide_eq_false q4]; rfl))))
      have m4 : decide (x.hi < x.lo) = true := by simp; omega
      clear q4
      go_wp2_with fail
      refine (between_any _ _ _ 1 1 [x.cm] _ (one_int2 _ _ _ _)).mono ?_
      rintro e v1 ⟨rfl, hA⟩
      rw [Q1.out]
      replace hA : Below (wr.alloc (.cells #[.int .i64 x.cm, .int .i64 x.pz, .int .i64 x.tr, .int .i64 x.lo, .int .i64 x.hi, .bool x.rt] 53)).heap.size (wr.alloc (.cells #[.int .i64 x.cm, .int .i64 x.pz, .int .i64 x.tr, .int .i64 x.lo, .int .i64 x.hi, .bool x.rt] 53)) v1 := ((Below.refl _ _).alloc (Nat.le_refl _) _).on hA
      replace hBx := hBx.on hA
      replace hx := hx.below hA
      replace hr := hr.below hA
      clear hA d0 d1 d2 d3 d4 d5 r0 r1 r2 r3 r4 r5
      obtain ⟨d0, d1, d2, d3, d4, d5⟩ := hx.g6
      obtain ⟨r0, r1, r2, r3, r4, r5⟩ := hr.g6
      go_wp2_with fail
      refine (between_any _ _ _ 1 1 [x.pz] _ (one_int _ _ _)).mono ?_
      rintro e v2 ⟨rfl, hA⟩
      rw [Q2.out]
      replace hA : Below v1.heap.size v1 v2 := ((Below.refl _ _).alloc (Nat.le_refl _) _).on hA
      replace hBx := hBx.on hA
      replace hx := hx.below hA
      replace hr := hr.below hA
      clear hA d0 d1 d2 d3 d4 d5 r0 r1 r2 r3 r4 r5
      obtain ⟨d0, d1, d2, d3, d4, d5⟩ := hx.g6
      obtain ⟨r0, r1, r2, r3, r4, r5⟩ := hr.g6
      go_wp2_with fail
      refine (between_any _ _ _ 1 1 [x.tr] _ (one_int _ _ _)).mono ?_
      rintro e v3 ⟨rfl, hA⟩
      rw [Q3.out]
      replace hA : Below v2.heap.size v2 v3 := ((Below.refl _ _).alloc (Nat.le_refl _) _).on hA
      replace hBx := hBx.on hA
      replace hx := hx.below hA
      replace hr := hr.below hA
      clear hA d0 d1 d2 d3 d4 d5 r0 r1 r2 r3 r4 r5
      obtain ⟨d0, d1, d2, d3, d4, d5⟩ := hx.g6
      obtain ⟨r0, r1, r2, r3, r4, r5⟩ := hr.g6
      (go_wp2_with fail; go_ret; exact ⟨ret_int HE.out.symm, hB.on hBx⟩)
    have Q4 : Hid (decide (x.lo ≤ x.hi) = true) := Lib.hid (decide_eq_true q4)
    have m4 : decide (x.hi < x.lo) = false := by simp; omega
    clear q4
    cases q5 : betw 0 1048576 [x.lo, x.hi]
    · have Q5 := Lib.hid q5
      (have HE : Hid (rkE S.sh l = 530) := Lib.hid (HBAD.out (by rw [HSH.out, Bool.true_and]; exact all_no HXX.out (by rw [HRS.out, Q1.out, Q2.out, Q3.out, Q4.out, Q5.out]; rfl))))
      clear q5
      go_wp2_with fail
      refine (between_any _ _ _ 1 1 [x.cm] _ (one_int2 _ _ _ _)).mono ?_
      rintro e v1 ⟨rfl, hA⟩
      rw [Q1.out]
      replace hA : Below (wr.alloc (.cells #[.int .i64 x.cm, .int .i64 x.pz, .int .i64 x.tr, .int .i64 x.lo, .int .i64 x.hi, .bool x.rt] 53)).heap.size (wr.alloc (.cells #[.int .i64 x.cm, .int .i64 x.pz, .int .i64 x.tr, .int .i64 x.lo, .int .i64 x.hi, .bool x.rt] 53)) v1 := ((Below.refl _ _).alloc (Nat.le_refl _) _).on hA
      replace hBx := hBx.on hA
      replace hx := hx.below hA
      replace hr := hr.below hA
      clear hA d0 d1 d2 d3 d4 d5 r0 r1 r2 r3 r4 r5
      obtain ⟨d0, d1, d2, d3, d4, d5⟩ := hx.g6
      obtain ⟨r0, r1, r2, r3, r4, r5⟩ := hr.g6
      go_wp2_with fail
      refine (between_any _ _ _ 1 1 [x.pz] _ (one_int _ _ _)).mono ?_
      rintro e v2 ⟨rfl, hA⟩
      rw [Q2.out]
      replace hA : Below v1.heap.size v1 v2 := ((Below.refl _ _).alloc (Nat.le_refl _) _).on hA
      replace hBx := hBx.on hA
      replace hx := hx.below hA
      replace hr := hr.below hA
      clear hA d0 d1 d2 d3 d4 d5 r0 r1 r2 r3 r4 r5
      obtain ⟨d0, d1, d2, d3, d4, d5⟩ := hx.g6
      obtain ⟨r0, r1, r2, r3, r4, r5⟩ := hr.g6
      go_wp2_with fail
      refine (between_any _ _ _ 1 1 [x.tr] _ (one_int _ _ _)).mono ?_
      rintro e v3 ⟨rfl, hA⟩
      rw [Q3.out]
      replace hA : Below v2.heap.size v2 v3 := ((Below.refl _ _).alloc (Nat.le_refl _) _).on hA
      replace hBx := hBx.on hA
      replace hx := hx.below hA
      replace hr := hr.below hA
      clear hA d0 d1 d2 d3 d4 d5 r0 r1 r2 r3 r4 r5
      obtain ⟨d0, d1, d2, d3, d4, d5⟩ := hx.g6
      obtain ⟨r0, r1, r2, r3, r4, r5⟩ := hr.g6
      go_wp2_with fail
      refine (between_any _ _ _ 2 2 [x.lo, x.hi] _ (two_int _ _ _ _)).mono ?_
      rintro e v4 ⟨rfl, hA⟩
      rw [Q5.out]
      replace hA : Below v3.heap.size v3 v4 := ((Below.refl _ _).alloc (Nat.le_refl _) _).on hA
      replace hBx := hBx.on hA
      clear hA d0 d1 d2 d3 d4 d5 r0 r1 r2 r3 r4 r5
      (go_wp2_with fail; go_ret; exact ⟨ret_int HE.out.symm, hB.on hBx⟩)
    have Q5 := Lib.hid q5
    have HR : Hid (okRs S.sh x = true) := Lib.hid (by rw [HRS.out, Q1.out, Q2.out, Q3.out, Q4.out, Q5.out]; rfl)
    clear q5
    go_wp2_with fail
    refine (between_any _ _ _ 1 1 [x.cm] _ (one_int2 _ _ _ _)).mono ?_
    rintro e v1 ⟨rfl, hA⟩
    rw [Q1.out]
    replace hA : Below (wr.alloc (.cells #[.int .i64 x.cm, .int .i64 x.pz, .int .i64 x.tr, .int .i64 x.lo, .int .i64 x.hi, .bool x.rt] 53)).heap.size (wr.alloc (.cells #[.int .i64 x.cm, .int .i64 x.pz, .int .i64 x.tr, .int .i64 x.lo, .int .i64 x.hi, .bool x.rt] 53)) v1 := ((Below.refl _ _).alloc (Nat.le_refl _) _).on hA
    replace hBx := hBx.on hA
    replace hx := hx.below hA
    replace hr := hr.below hA
    clear hA d0 d1 d2 d3 d4 d5 r0 r1 r2 r3 r4 r5
    obtain ⟨d0, d1, d2, d3, d4, d5⟩ := hx.g6
    obtain ⟨r0, r1, r2, r3, r4, r5⟩ := hr.g6
    go_wp2_with fail
    refine (between_any _ _ _ 1 1 [x.pz] _ (one_int _ _ _)).mono ?_
    rintro e v2 ⟨rfl, hA⟩
    rw [Q2.out]
    replace hA : Below v1.heap.size v1 v2 := ((Below.refl _ _).alloc (Nat.le_refl _) _).on hA
    replace hBx := hBx.on hA
    replace hx := hx.below hA
    replace hr := hr.below hA
    clear hA d0 d1 d2 d3 d4 d5 r0 r1 r2 r3 r4 r5
    obtain ⟨d0, d1, d2, d3, d4, d5⟩ := hx.g6
    obtain ⟨r0, r1, r2, r3, r4, r5⟩ := hr.g6
    go_wp2_with fail
    refine (between_any _ _ _ 1 1 [x.tr] _ (one_int _ _ _)).mono ?_
    rintro e v3 ⟨rfl, hA⟩
    rw [Q3.out]
    replace hA : Below v2.heap.size v2 v3 := ((Below.refl _ _).alloc (Nat.le_refl _) _).on hA
    replace hBx := hBx.on hA
    replace hx := hx.below hA
    replace hr := hr.below hA
    clear hA d0 d1 d2 d3 d4 d5 r0 r1 r2 r3 r4 r5
    obtain ⟨d0, d1, d2, d3, d4, d5⟩ := hx.g6
    obtain ⟨r0, r1, r2, r3, r4, r5⟩ := hr.g6
    go_wp2_with fail
    refine (between_any _ _ _ 2 2 [x.lo, x.hi] _ (two_int _ _ _ _)).mono ?_
    rintro e v4 ⟨rfl, hA⟩
    rw [Q5.out]
    replace hA : Below v3.heap.size v3 v4 := ((Below.refl _ _).alloc (Nat.le_refl _) _).on hA
    replace hBx := hBx.on hA
    clear hA d0 d1 d2 d3 d4 d5 r0 r1 r2 r3 r4 r5
    go_wp2_with fail
    go_roundw
    case rel => exact ⟨k + 1, by go_num, by omega, Lib.hid (all_to HA.out HXX.out HR.out), hBx⟩
    case measure => simp [intOf]; omega
  · obtain rfl : nl = k := by omega
    have HE : Hid (rkE S.sh l = 0) := Lib.hid (HOK.out (by
     have := HA.out
     rw [List.take_of_length_le (by rw [HL.out]; exact Nat.le_refl _)] at this
     rw [HSH.out, this]; rfl))
    go_wp2_with fail
    go_ret
    exact ⟨ret_int HE.out.symm, hB.on hBw⟩
open Go.RowKit
theorem info_int : (Tryz.prog.info? 3).map (fun i => (i.zero, i.size, i.bytes)) = some (some (.int .i64 0), 1, 8) := by kernel_rfl
theorem compare_any (a b : Int) (W : World) : Calls Tryz.prog 53 #[.int .i64 a, .int .i64 b] W fun e w' => e = .returned (.int .i64 (sgnI a b)) ∧ W = w' := by
 by_cases h : a = b
 · subst h
   have HE : Hid (sgnI a a = 0) := Lib.hid (by unfold sgnI; simp)
   go_enter Tryz.func53, Tryz.ntmps53
   go_wp2_with fail
   go_ret
   exact ⟨ret_int HE.out.symm, rfl⟩
 · by_cases h2 : a < b
   · have HE : Hid (sgnI a b = -1) := Lib.hid (by unfold sgnI; rw [if_neg h, if_pos h2])
     have n0 : (a == b) = false := by simpa using h
     go_enter Tryz.func53, Tryz.ntmps53
     go_wp2_with fail
     go_ret
     exact ⟨ret_int HE.out.symm, rfl⟩
   · have HE : Hid (sgnI a b = 1) := Lib.hid (by unfold sgnI; rw [if_neg h, if_neg h2])
     have n0 : (a == b) = false := by simpa using h
     go_enter Tryz.func53, Tryz.ntmps53
     go_wp2_with fail
     go_ret
     exact ⟨ret_int HE.out.symm, rfl⟩
def grN (x : List Int) (n : Int) (k : Nat) : Nat := ((x.take k).filter fun m => decide (n < m)).length
theorem grN_step {x : List Int} {n m : Int} {k : Nat} (h : x[k]? = some m) : grN x n (k + 1) = grN x n k + if n < m then 1 else 0 := by
 unfold grN; rw [takeF h, List.filter_append, List.length_append]
 by_cases h2 : n < m <;> simp [h2]
theorem grN_le (x : List Int) (n : Int) (k : Nat) : grN x n k ≤ k := by
 unfold grN
 exact Nat.le_trans (List.length_filter_le _ _) (List.length_take_le _ _)
def rankTo (x : List Int) (k : Nat) : List Int := (x.take k).map fun n => ((x.filter fun m => decide (n < m)).length : Int) + 1
theorem rankTo_step {x : List Int} {n : Int} {k : Nat} (h : x[k]? = some n) : rankTo x (k + 1) = rankTo x k ++ [(grN x n x.length : Int) + 1] := by
 unfold rankTo grN; rw [takeF h, List.map_append, List.take_length]; rfl
theorem rankTo_len (x : List Int) {k : Nat} (h : k ≤ x.length) : (rankTo x k).length = k := by unfold rankTo; simp; omega
set_option maxHeartbeats 2000000 in
theorem rank_any (a : Option Addr) (n c : Nat) (x : List Int) (W : World) (h0 : Ints W a n c x) (hn : n ≤ 1000000) :
 Calls Tryz.prog 21 #[.slice a n c] W (RetOwn W 3 (rankL x)) := by
 have HL := Lib.hid h0.len
 obtain ⟨i3, hi3, hz30, hz31, hz32⟩ := info_parts info_int
 go_enter Tryz.func21, Tryz.ntmps21
 go_wp2_with fail
 go_loopw [2, 10] (fun v i wr => ∃ k : Nat, i = .int .i64 k ∧ k ≤ n ∧ OwnInts wr W.heap.size 3 v (rankTo x k) ∧ Below W.heap.size W wr) (fun _ i _ => n - (intOf i).toNat)
 case atStart => exact ⟨0, rfl, by omega, by simpa [rankTo] using OwnInts.nil W 3 W.heap.size, Below.refl _ _⟩
 case round =>
  obtain ⟨k, rfl, hk, hO, hB⟩ := hrel
  by_cases hlt : k < n
  · obtain ⟨b0, o0, rfl, hb0⟩ := h0.at' (by omega)
    obtain ⟨z, hz⟩ := h0.has hlt
    have e0 := (h0.below hB).get hz
    have HZ := Lib.hid hz
    have hll := rankTo_len x (k := k) (by rw [HL.out]; omega)
    have hol := hO.lt
    have hsz := hB.size
    obtain ⟨L, hLe⟩ : ∃ L, rankTo x k = L := ⟨_, rfl⟩
    have HLE := Lib.hid hLe
    rw [hLe] at hO hll
    unfold OwnInts at hO
    rw [hll] at hO
    have HLL := Lib.hid hll
    clear hLe hz hll
    obtain ⟨av, cv, rfl, _, _⟩ := own_slice hO
    have s0 : (0 : Int) ≤ (k : Int) := by omega
    have s1 : (k : Int) < (n : Int) := by omega
    obtain ⟨wo, hwo⟩ : ∃ wo, wo = wr := ⟨_, rfl⟩
    rw [← hwo] at hO hB hol hsz e0 ⊢
    clear hwo
    go_wp2_with fail
    go_loop [5, 16] (fun r i => ∃ j : Nat, i = .int .i64 j ∧ j ≤ n ∧ r = .int .i64 ((grN x z j : Int) + 1)) (fun _ i => n - (intOf i).toNat)
    case atStart => exact ⟨0, rfl, by omega, by simp [grN]⟩
    case round =>
     obtain ⟨j, rfl, hj, rfl⟩ := hrel
     have hgl := grN_le x z j
     by_cases hltj : j < n
     · obtain ⟨m, hm⟩ := h0.has hltj
       have e1 := (h0.below hB).get hm
       have HS := Lib.hid (grN_step (n := z) hm)
       obtain ⟨g, hg⟩ : ∃ g, grN x z j = g := ⟨_, rfl⟩
       rw [hg] at hgl HS ⊢
       have t0 : (0 : Int) ≤ (j : Int) := by omega
       have t1 : (j : Int) < (n : Int) := by omega
       clear hm hg
       by_cases hzm : z < m
       · go_wp2_with fail
         go_round
         case rel => exact ⟨j + 1, by go_num, by omega, by rw [HS.out, if_pos hzm]; simp <;> omega⟩
         case measure => simp [intOf]; omega
       · go_wp2_with fail
         go_round
         case rel => exact ⟨j + 1, by go_num, by omega, by rw [HS.out, if_neg hzm]; simp⟩
         case measure => simp [intOf]; omega
     · obtain rfl : n = j := by omega
       have HR : Hid (rankTo x (k + 1) = L ++ [(grN x z n : Int) + 1]) := Lib.hid (by rw [rankTo_step HZ.out, HLE.out, HL.out])
       obtain ⟨g, hg⟩ : ∃ g, grN x z n = g := ⟨_, rfl⟩
       rw [hg] at HR hgl ⊢
       clear hg
       go_wp2_with (at_builtin; refine wpList_append_own2 _ rfl _ _ 22 rfl W.heap.size 3 i3 (.int .i64 0) 1 8 Tryz.underlying22 hi3 hz30 hz31 hz32 rfl (by decide) _ _ _ (hO.alloc _) rfl ⟨_, 0, none⟩ 1 1 [.int .i64 ((g : Int) + 1)] rfl rfl (cell_one_new _ _ _) (by simp [Value.oneCell']) (by unfold maxLen; omega) (by omega) (by first | omega | (simp; omega)) ?_; intro v' w1 hown' hgrow hfr)
       go_roundw
       case rel =>
        refine ⟨k + 1, by go_num, by omega, ?_, (hB.alloc hsz _).grown hgrow (by simp; omega) (fun q e => (hol q e).1)⟩
        rw [HR.out]
        exact OwnInts.snoc (by rw [HLL.out]; exact hown')
       case measure => simp [intOf]; omega
  · obtain rfl : n = k := by omega
    have HO : Hid (OwnInts wr W.heap.size 3 u2 (rankL x)) := Lib.hid (by
     have : rankTo x n = rankL x := by unfold rankTo rankL; rw [List.take_of_length_le (by rw [HL.out]; exact Nat.le_refl _)]
     rw [← this]; exact hO)
    clear hO
    go_wp2_with fail
    go_ret
    exact ⟨_, rfl, HO.out, hB⟩
end Go.Proofs.YtehoidohallfcaaGreatDoor
