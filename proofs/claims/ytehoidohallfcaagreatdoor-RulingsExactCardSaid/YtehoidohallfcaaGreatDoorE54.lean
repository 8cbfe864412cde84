/- Words of chapter 54 in memory: sheets, results, faults, programs; IndexFunc and ContainsFunc. -/
import Derived.Test.YtehoidohallfcaaGreatDoorPlM
import Derived.Test.YtehoidohallfcaaGreatDoorBaX
import Derived.Test.YtehoidohallfcaaGreatDoorProg
import Derived.Shelf.Abstract
import Derived.WalkKit
import Derived.WalkSpells
import Derived.WalkLawsBesides
import Derived.Deep.LoopGhost
import Derived.Deep.QuietTactic
import Derived.BigQuiet
import Derived.StillTailTactics
import Derived.Lib.Hide
import Derived.Outline
import Derived.Lib.QuietBelow
namespace Go.Proofs.YtehoidohallfcaaGreatDoor
open Go.RowKit

def encI (x : Int) : List Value := [.int .i64 x]
def encW (w : Wd) : List Value := [.int .i64 w.op, .int .i64 w.n]
def encRs (x : Rs) : List Value := [.int .i64 x.cm, .int .i64 x.pz, .int .i64 x.tr, .int .i64 x.lo, .int .i64 x.hi, .bool x.rt]
def encFt (f : Ft Value) : List Value := [.int .i64 f.pz, .int .i64 f.kd, .int .i64 f.un, .int .i64 f.dy, f.gr]
def encCg (x : Cg) : List Value := [.int .i64 x.cm, .int .i64 x.b1, .int .i64 x.b2, .int .i64 x.a1, .int .i64 x.a2, .int .i64 x.ft]
def encPr (x : Int × Int) : List Value := [.int .i64 x.1, .int .i64 x.2]
theorem encW_len (x : Wd) : (encW x).length = 2 := rfl
theorem encRs_len (x : Rs) : (encRs x).length = 6 := rfl
theorem encFt_len (x : Ft Value) : (encFt x).length = 5 := rfl
theorem encCg_len (x : Cg) : (encCg x).length = 6 := rfl
theorem encPr_len (x : Int × Int) : (encPr x).length = 2 := rfl
section
variable {w : World} {b o n c i : Nat}
theorem SL.w2 {l : List Wd} (h : SL encW 2 w (some ⟨b, o, none⟩) n c l) {x : Wd} (hx : l[i]? = some x) : w.cell? ⟨b, o + i * 2, none⟩ = some (.int .i64 x.op) ∧ w.cell? ⟨b, o + i * 2 + 1, none⟩ = some (.int .i64 x.n) :=
  ⟨h.cell b o rfl i x hx 0 _ rfl, h.cell b o rfl i x hx 1 _ rfl⟩
theorem SL.rs6 {l : List Rs} (h : SL encRs 6 w (some ⟨b, o, none⟩) n c l) {x : Rs} (hx : l[i]? = some x) : w.cell? ⟨b, o + i * 6, none⟩ = some (.int .i64 x.cm) ∧ w.cell? ⟨b, o + i * 6 + 1, none⟩ = some (.int .i64 x.pz) ∧ w.cell? ⟨b, o + i * 6 + 2, none⟩ = some (.int .i64 x.tr) ∧ w.cell? ⟨b, o + i * 6 + 3, none⟩ = some (.int .i64 x.lo) ∧ w.cell? ⟨b, o + i * 6 + 4, none⟩ = some (.int .i64 x.hi) ∧ w.cell? ⟨b, o + i * 6 + 5, none⟩ = some (.bool x.rt) :=
  ⟨h.cell b o rfl i x hx 0 _ rfl, h.cell b o rfl i x hx 1 _ rfl, h.cell b o rfl i x hx 2 _ rfl, h.cell b o rfl i x hx 3 _ rfl, h.cell b o rfl i x hx 4 _ rfl, h.cell b o rfl i x hx 5 _ rfl⟩
theorem SL.ft5 {l : List (Ft Value)} (h : SL encFt 5 w (some ⟨b, o, none⟩) n c l) {x : Ft Value} (hx : l[i]? = some x) : w.cell? ⟨b, o + i * 5, none⟩ = some (.int .i64 x.pz) ∧ w.cell? ⟨b, o + i * 5 + 1, none⟩ = some (.int .i64 x.kd) ∧ w.cell? ⟨b, o + i * 5 + 2, none⟩ = some (.int .i64 x.un) ∧ w.cell? ⟨b, o + i * 5 + 3, none⟩ = some (.int .i64 x.dy) ∧ w.cell? ⟨b, o + i * 5 + 4, none⟩ = some x.gr :=
  ⟨h.cell b o rfl i x hx 0 _ rfl, h.cell b o rfl i x hx 1 _ rfl, h.cell b o rfl i x hx 2 _ rfl, h.cell b o rfl i x hx 3 _ rfl, h.cell b o rfl i x hx 4 _ rfl⟩
end
theorem Ints.get {w : World} {b o n c : Nat} {l : List Int} (h : Ints w (some ⟨b, o, none⟩) n c l) {i : Nat} {x : Int} (hx : l[i]? = some x) : w.cell? ⟨b, o + i, none⟩ = some (.int .i64 x) := by
  have hi : i < n := by rw [← h.len]; exact (List.getElem?_eq_some_iff.1 hx).1
  have := h.cell b o rfl i hi
  rw [hx] at this
  exact this
theorem Ints.has {w : World} {a : Option Addr} {n c : Nat} {l : List Int} (h : Ints w a n c l) {i : Nat} (hi : i < n) : ∃ x, l[i]? = some x := ⟨_, List.getElem?_eq_getElem (by rw [h.len]; exact hi)⟩
/-- Result: a value; only new memory. -/
def RetB (W : World) (v : Value) (e : Ending) (w' : World) : Prop := e = .returned v ∧ Below W.heap.size W w'
theorem takeF {α : Type} {l : List α} {k : Nat} {x : α} (h : l[k]? = some x) : l.take (k + 1) = l.take k ++ [x] := by
  obtain ⟨hk, he⟩ := List.getElem?_eq_some_iff.1 h
  rw [List.take_succ_eq_append_getElem hk, he]
/-- None of the first k. -/
def noneUpto {α : Type} (l : List α) (P : α → Bool) (k : Nat) : Prop := ∀ x ∈ l.take k, P x = false
theorem none_step {α : Type} {l : List α} {P : α → Bool} {k : Nat} {x : α} (hx : l[k]? = some x) (h : noneUpto l P k) (h2 : P x = false) : noneUpto l P (k + 1) := by
  intro y hy
  rw [takeF hx] at hy
  rcases List.mem_append.1 hy with hy | hy
  · exact h y hy
  · rw [List.mem_singleton.1 hy]; exact h2
/-- The first index at which P holds, else -1. -/
def idxF {α : Type} (l : List α) (P : α → Bool) (z : Int) : Prop := (z = -1 ∧ ∀ x ∈ l, P x = false) ∨ ∃ (k : Nat) (x : α), z = (k : Int) ∧ l[k]? = some x ∧ P x = true ∧ noneUpto l P k
theorem idx_any {α : Type} (l : List α) (P : α → Bool) : ∀ z : Int, idxF l P z → decide (0 ≤ z) = l.any P := by
  rintro z (⟨rfl, h⟩ | ⟨k, x, rfl, hx, hp, _⟩)
  · symm; rw [show decide ((0 : Int) ≤ -1) = false by decide, List.any_eq_false]
    intro x hx; simp [h x hx]
  · rw [show decide ((0 : Int) ≤ k) = true by simp]
    exact (List.any_eq_true.2 ⟨x, List.mem_of_getElem? hx, hp⟩).symm
/-- A sheet as it lies in memory. -/
structure Sp where
  sh : Sh
  la : Option Addr
  ln : Nat
  lc : Nat
  ca : Option Addr
  cn : Nat
  cc : Nat
  pa : Option Addr
  pn : Nat
  pc : Nat
  ra : Option Addr
  rn : Nat
  rc : Nat
structure Sp.In (S : Sp) (w : World) : Prop where
  lv : Ints w S.la S.ln S.lc S.sh.lv
  cl : Ints w S.ca S.cn S.cc S.sh.cl
  pg : SL encW 2 w S.pa S.pn S.pc S.sh.pg
  pr : Ints w S.ra S.rn S.rc S.sh.pr
theorem Sp.In.below {S : Sp} {w w' : World} (h : S.In w) (hb : Below w.heap.size w w') : S.In w' := ⟨h.lv.below hb, h.cl.below hb, h.pg.below hb, h.pr.below hb⟩

/-- A function value that answers P at every element, in worlds that lie above w. -/
def int_Pred (w : World) (f : FuncId) (caps : Array Value) (P : Int → Bool) : Prop := ∀ (x : Int) (W : World), Below w.heap.size w W → Calls Tryz.prog f (#[.int .i64 x] ++ caps) W fun e w' => RetB W (.bool (P x)) e w'
theorem int_on {w w' : World} {f : FuncId} {caps : Array Value} {P : Int → Bool} (h : int_Pred w f caps P) (hb : Below w.heap.size w w') : int_Pred w' f caps P := fun x W hW => h x W (hb.on hW)
set_option maxRecDepth 10000 in
set_option maxHeartbeats 1000000 in
theorem int_index (f : FuncId) (caps : Array Value) (a0 : Option Addr) (n0 c0 : Nat) (l : List Int) (P : Int → Bool) (w : World) (hen : Enters Tryz.prog f) (h0 : Ints w a0 n0 c0 l) (hP : int_Pred w f caps P) :
    Calls Tryz.prog 61 #[.slice a0 n0 c0, .func (.func f) #[] caps] w fun e w' => ∃ z : Int, e = .returned (.int .i64 z) ∧ idxF l P z ∧ Below w.heap.size w w' := by
  have hm0 := h0.mx
  have hc0 := h0.cap
  have hl0 := Lib.hid h0.len
  unfold maxLen at hm0
  have HP := Lib.hid hP
  clear hP
  unfold Enters at hen
  go_enter Tryz.func61, Tryz.ntmps61
  go_wp2_with fail
  go_loopw [8] (fun i wr => ∃ k : Nat, k ≤ n0 ∧ i = .int .i64 k ∧ Hid (noneUpto l P k) ∧ Below w.heap.size w wr) (fun i _ => n0 - (intOf i).toNat)
  case atStart => exact ⟨0, by omega, rfl, Lib.hid (by intro x hx; simp at hx), Below.refl _ _⟩
  case round =>
    obtain ⟨k, hk, rfl, HM, hB⟩ := hrel
    by_cases hlt : k < n0
    · obtain ⟨b0, o0, rfl, hb0⟩ := h0.at' (by omega)
      obtain ⟨x, hx⟩ : ∃ x, l[k]? = some x := ⟨_, List.getElem?_eq_getElem (by rw [hl0.out]; exact hlt)⟩
      have e0 := (h0.below hB).get hx
      have HX := Lib.hid hx
      have s0 : (0 : Int) ≤ (k : Int) := by omega
      have s1 : (k : Int) < (n0 : Int) := by omega
      clear hx
      cases hd : P x
      · have HD := Lib.hid hd
        have hc := HP.out x wr hB
        rw [hd] at hc
        have HC := Lib.hid hc
        clear hc hd
        go_wp2_with (refine HC.out.mono ?_; rintro e w' ⟨rfl, hB2⟩)
        go_roundw
        case rel => exact ⟨k + 1, by omega, by go_num, Lib.hid (none_step HX.out HM.out HD.out), hB.on hB2⟩
        case measure => simp [intOf]; omega
      · have HD := Lib.hid hd
        have hc := HP.out x wr hB
        rw [hd] at hc
        have HC := Lib.hid hc
        clear hc hd
        go_wp2_with (refine HC.out.mono ?_; rintro e w' ⟨rfl, hB2⟩)
        go_ret
        exact ⟨(k : Int), rfl, .inr ⟨k, x, rfl, HX.out, HD.out, HM.out⟩, hB.on hB2⟩
    · obtain rfl : n0 = k := by omega
      go_wp2_with fail
      go_ret
      refine ⟨-1, rfl, .inl ⟨rfl, fun x hx => HM.out x ?_⟩, hB⟩
      rw [List.take_of_length_le (by rw [hl0.out]; omega)]; exact hx
set_option maxRecDepth 10000 in
set_option maxHeartbeats 1000000 in
theorem int_contains (f : FuncId) (caps : Array Value) (a0 : Option Addr) (n0 c0 : Nat) (l : List Int) (P : Int → Bool) (w : World) (hen : Enters Tryz.prog f) (h0 : Ints w a0 n0 c0 l) (hP : int_Pred w f caps P) :
    Calls Tryz.prog 43 #[.slice a0 n0 c0, .func (.func f) #[] caps] w fun e w' => RetB w (.bool (l.any P)) e w' := by
  have HI := Lib.hid (int_index f caps a0 n0 c0 l P w hen h0 hP)
  clear hP hen
  have HK := Lib.hid (idx_any l P)
  go_enter Tryz.func43, Tryz.ntmps43
  go_wp2_with (go_at_call 61; refine HI.out.mono ?_; rintro e w' ⟨z, rfl, hz, hB⟩; have HZ2 := Lib.hid (HK.out z hz); clear hz)
  all_goals
    go_ret
    exact ⟨ret_bool HZ2.out, hB⟩
/-- A function value that answers P at every element, in worlds that lie above w. -/
def ft_Pred (w : World) (f : FuncId) (caps : Array Value) (P : (Ft Value) → Bool) : Prop := ∀ (x : (Ft Value)) (W : World), Below w.heap.size w W → Calls Tryz.prog f (#[.agg #[.int .i64 x.pz, .int .i64 x.kd, .int .i64 x.un, .int .i64 x.dy, x.gr]] ++ caps) W fun e w' => RetB W (.bool (P x)) e w'
theorem ft_on {w w' : World} {f : FuncId} {caps : Array Value} {P : (Ft Value) → Bool} (h : ft_Pred w f caps P) (hb : Below w.heap.size w w') : ft_Pred w' f caps P := fun x W hW => h x W (hb.on hW)
set_option maxRecDepth 10000 in
set_option maxHeartbeats 1000000 in
theorem ft_index (f : FuncId) (caps : Array Value) (a0 : Option Addr) (n0 c0 : Nat) (l : List (Ft Value)) (P : (Ft Value) → Bool) (w : World) (hen : Enters Tryz.prog f) (h0 : SL encFt 5 w a0 n0 c0 l) (hP : ft_Pred w f caps P) :
    Calls Tryz.prog 49 #[.slice a0 n0 c0, .func (.func f) #[] caps] w fun e w' => ∃ z : Int, e = .returned (.int .i64 z) ∧ idxF l P z ∧ Below w.heap.size w w' := by
  have hm0 := h0.mx
  have hc0 := h0.cap
  have hl0 := Lib.hid h0.len
  unfold maxLen at hm0
  have HP := Lib.hid hP
  clear hP
  unfold Enters at hen
  go_enter Tryz.func49, Tryz.ntmps49
  go_wp2_with fail
  go_loopw [8] (fun i wr => ∃ k : Nat, k ≤ n0 ∧ i = .int .i64 k ∧ Hid (noneUpto l P k) ∧ Below w.heap.size w wr) (fun i _ => n0 - (intOf i).toNat)
  case atStart => exact ⟨0, by omega, rfl, Lib.hid (by intro x hx; simp at hx), Below.refl _ _⟩
  case round =>
    obtain ⟨k, hk, rfl, HM, hB⟩ := hrel
    by_cases hlt : k < n0
    · obtain ⟨b0, o0, rfl, hb0⟩ := h0.at' (by omega)
      obtain ⟨x, hx⟩ : ∃ x, l[k]? = some x := ⟨_, List.getElem?_eq_getElem (by rw [hl0.out]; exact hlt)⟩
      obtain ⟨e0, e1, e2, e3, e4⟩ := (h0.below hB).ft5 hx
      have HX := Lib.hid hx
      have s0 : (0 : Int) ≤ (k : Int) := by omega
      have s1 : (k : Int) < (n0 : Int) := by omega
      clear hx
      cases hd : P x
      · have HD := Lib.hid hd
        have hc := HP.out x wr hB
        rw [hd] at hc
        have HC := Lib.hid hc
        clear hc hd
        go_wp2_with (refine HC.out.mono ?_; rintro e w' ⟨rfl, hB2⟩)
        go_roundw
        case rel => exact ⟨k + 1, by omega, by go_num, Lib.hid (none_step HX.out HM.out HD.out), hB.on hB2⟩
        case measure => simp [intOf]; omega
      · have HD := Lib.hid hd
        have hc := HP.out x wr hB
        rw [hd] at hc
        have HC := Lib.hid hc
        clear hc hd
        go_wp2_with (refine HC.out.mono ?_; rintro e w' ⟨rfl, hB2⟩)
        go_ret
        exact ⟨(k : Int), rfl, .inr ⟨k, x, rfl, HX.out, HD.out, HM.out⟩, hB.on hB2⟩
    · obtain rfl : n0 = k := by omega
      go_wp2_with fail
      go_ret
      refine ⟨-1, rfl, .inl ⟨rfl, fun x hx => HM.out x ?_⟩, hB⟩
      rw [List.take_of_length_le (by rw [hl0.out]; omega)]; exact hx
set_option maxRecDepth 10000 in
set_option maxHeartbeats 1000000 in
theorem ft_contains (f : FuncId) (caps : Array Value) (a0 : Option Addr) (n0 c0 : Nat) (l : List (Ft Value)) (P : (Ft Value) → Bool) (w : World) (hen : Enters Tryz.prog f) (h0 : SL encFt 5 w a0 n0 c0 l) (hP : ft_Pred w f caps P) :
    Calls Tryz.prog 30 #[.slice a0 n0 c0, .func (.func f) #[] caps] w fun e w' => RetB w (.bool (l.any P)) e w' := by
  have HI := Lib.hid (ft_index f caps a0 n0 c0 l P w hen h0 hP)
  clear hP hen
  have HK := Lib.hid (idx_any l P)
  go_enter Tryz.func30, Tryz.ntmps30
  go_wp2_with (go_at_call 49; refine HI.out.mono ?_; rintro e w' ⟨z, rfl, hz, hB⟩; have HZ2 := Lib.hid (HK.out z hz); clear hz)
  all_goals
    go_ret
    exact ⟨ret_bool HZ2.out, hB⟩
end Go.Proofs.YtehoidohallfcaaGreatDoor

