/- Contracts of the reference functions on lists: Less, Equal, Same, Has, In. -/
import Derived.Test.YtjiacdihfbbfjaaProg
import Derived.Test.YtjiacdihfbbfjaaBase
import Derived.WalkKit
import Derived.WalkSpells
import Derived.WalkLawsBesides
import Derived.Deep.LoopGhost
import Derived.Deep.QuietTactic
import Derived.BigQuiet
import Derived.StillTailTactics
import Derived.Lib.Hide
import Derived.Outline
namespace Go.Proofs.Ytjiacdihfbbfjaa
open Go.RowKit

def lessL : List Int → List Int → Bool
  | [], [] => false
  | [], _ :: _ => true
  | _ :: _, [] => false
  | x :: a, y :: b => if x = y then lessL a b else decide (x < y)
def eqL (x y : List Int) : Bool := decide (x = y)
def eqLL (x y : List (List Int)) : Bool := decide (x = y)
def hasL (l : List (List Int)) (p : List Int) : Bool := l.contains p
def inL (l : List Int) (x : Int) : Bool := l.contains x

theorem less_step (x y : List Int) (k : Nat) (h : k < x.length) (h' : k < y.length) :
   lessL (x.drop k) (y.drop k) = if x[k]?.getD 0 = y[k]?.getD 0 then lessL (x.drop (k+1)) (y.drop (k+1)) else decide (x[k]?.getD 0 < y[k]?.getD 0) := by
  rw [getD_drop x k h, getD_drop y k h']; rfl
theorem less_end (x y : List Int) (k : Nat) (hx : k ≤ x.length) (hy : k ≤ y.length) (h : ¬ (k < x.length ∧ k < y.length)) :
   lessL (x.drop k) (y.drop k) = decide (x.length < y.length) := by
  by_cases h1 : k < x.length
  · have h2 : ¬ k < y.length := fun hh => h ⟨h1, hh⟩
    rw [getD_drop x k h1, List.drop_eq_nil_of_le (by omega : y.length ≤ k)]
    simp only [lessL]; symm; rw [decide_eq_false_iff_not]; omega
  · rw [List.drop_eq_nil_of_le (by omega : x.length ≤ k)]
    by_cases h2 : k < y.length
    · rw [getD_drop y k h2]; simp only [lessL]; symm; rw [decide_eq_true_eq]; omega
    · rw [List.drop_eq_nil_of_le (by omega : y.length ≤ k)]
      simp only [lessL]; symm; rw [decide_eq_false_iff_not]; omega
theorem lessL_irrefl (x : List Int) : lessL x x = false := by
  induction x with
  | nil => rfl
  | cons a x ih => simp [lessL, ih]
theorem lessL_total (x y : List Int) (h1 : lessL x y = false) (h2 : lessL y x = false) : x = y := by
  induction x generalizing y with
  | nil => cases y with
    | nil => rfl
    | cons b y => simp [lessL] at h1
  | cons a x ih => cases y with
    | nil => simp [lessL] at h2
    | cons b y =>
      simp only [lessL] at h1 h2
      by_cases hab : a = b
      · subst hab
        simp at h1 h2
        rw [ih y h1 h2]
      · rw [if_neg hab] at h1
        rw [if_neg (Ne.symm hab)] at h2
        simp at h1 h2
        omega
theorem eqL_less (x y : List Int) : eqL x y = (!lessL x y && !lessL y x) := by
  unfold eqL
  by_cases h : x = y
  · subst h; simp [lessL_irrefl]
  · simp only [h, decide_false]
    cases h1 : lessL x y
    · cases h2 : lessL y x
      · exact absurd (lessL_total x y h1 h2) h
      · rfl
    · rfl

set_option maxHeartbeats 400000 in
theorem less_any (a0 a1 : Option Addr) (n0 c0 n1 c1 : Nat) (x y : List Int) (w : World) (h0 : Ints w a0 n0 c0 x) (h1 : Ints w a1 n1 c1 y) :
    Calls Try.prog 32 #[.slice a0 n0 c0, .slice a1 n1 c1] w fun e w' => e = .returned (.bool (lessL x y)) ∧ ∃ k, w' = w.drewN k := by
  have hm0 := h0.mx
  have hm1 := h1.mx
  have hc0 := h0.cap
  have hc1 := h1.cap
  have hl0 := Lib.hid h0.len
  have hl1 := Lib.hid h1.len
  unfold maxLen at hm0 hm1
  go_enter Try.func32, Try.ntmps32
  go_wp2
  go_loopw [5] (fun i wr => ∃ k : Nat, k ≤ n0 ∧ k ≤ n1 ∧ i = .int .i64 k ∧ Hid (lessL x y = lessL (x.drop k) (y.drop k)) ∧ ∃ m, wr = w.drewN m) (fun i _ => n0 - (intOf i).toNat)
  case atStart => exact ⟨0, by omega, by omega, rfl, Lib.hid (by simp), 0, rfl⟩
  case round =>
    obtain ⟨k, hk0, hk1, rfl, HL, m, rfl⟩ := hrel
    by_cases hlt : k < n0 ∧ k < n1
    · obtain ⟨hlt0, hlt1⟩ := hlt
      obtain ⟨b0, o0, rfl, _⟩ := h0.at' (by omega)
      obtain ⟨b1, o1, rfl, _⟩ := h1.at' (by omega)
      have e0 := h0.cell _ _ rfl k hlt0
      have e1 := h1.cell _ _ rfl k hlt1
      have hs := Lib.hid (less_step x y k (by rw [hl0.out]; omega) (by rw [hl1.out]; omega))
      go_wp2_with (go_quiet (fail))
      · go_ret
        have hne : ¬ x[k]?.getD 0 = y[k]?.getD 0 := by rename_i h; simpa using h
        exact ⟨ret_bool (by rw [HL.out, hs.out, if_neg hne]), _, by rw [World.drewN_drewN, World.drewN_drewN]⟩
      · have heq : x[k]?.getD 0 = y[k]?.getD 0 := by rename_i h; simpa using h
        go_roundw
        case rel => exact ⟨k + 1, by omega, by omega, by go_num, Lib.hid (by rw [HL.out, hs.out, if_pos heq]), _, rfl⟩
        case measure => simp [intOf]; omega
    · have he := Lib.hid (less_end x y k (by rw [hl0.out]; omega) (by rw [hl1.out]; omega) (by rw [hl0.out, hl1.out]; exact hlt))
      rw [hl0.out, hl1.out] at he
      by_cases hlt0 : k < n0
      · have hlt1 : ¬ k < n1 := fun h => hlt ⟨hlt0, h⟩
        clear hlt
        go_wp2_with (go_quiet (fail))
        go_ret
        exact ⟨ret_bool (by rw [HL.out, he.out]), (by first | exact ⟨_, rfl⟩ | exact ⟨_, World.drewN_drewN⟩ | exact ⟨0, rfl⟩ | exact ⟨_, by simp only [World.drewN_drewN]; rfl⟩)⟩
      · clear hlt
        go_wp2_with (go_quiet (fail))
        go_ret
        exact ⟨ret_bool (by rw [HL.out, he.out]), (by first | exact ⟨_, rfl⟩ | exact ⟨_, World.drewN_drewN⟩ | exact ⟨0, rfl⟩ | exact ⟨_, by simp only [World.drewN_drewN]; rfl⟩)⟩

set_option maxHeartbeats 400000 in
theorem equal_any (a0 a1 : Option Addr) (n0 c0 n1 c1 : Nat) (x y : List Int) (w : World) (h0 : Ints w a0 n0 c0 x) (h1 : Ints w a1 n1 c1 y) :
    Calls Try.prog 34 #[.slice a0 n0 c0, .slice a1 n1 c1] w fun e w' => e = .returned (.bool (eqL x y)) ∧ ∃ k, w' = w.drewN k := by
  have he := Lib.hid (eqL_less x y)
  cases hb : lessL x y
  · have hb' := Lib.hid hb
    go_enter Try.func34, Try.ntmps34
    go_wp2_with fail
    refine (less_any _ _ _ _ _ _ x y _ (by first | exact h0 | exact h0.drewN _ | exact (h0.drewN _).drewN _ | exact h0.below (by assumption)) (by first | exact h1 | exact h1.drewN _ | exact (h1.drewN _).drewN _ | exact h1.below (by assumption))).mono ?_
    rintro e w' ⟨rfl, q, rfl⟩
    rw [hb]
    go_wp2_with fail
    refine (less_any _ _ _ _ _ _ y x _ (by first | exact h1 | exact h1.drewN _ | exact (h1.drewN _).drewN _ | exact h1.below (by assumption)) (by first | exact h0 | exact h0.drewN _ | exact (h0.drewN _).drewN _ | exact h0.below (by assumption))).mono ?_
    rintro e w' ⟨rfl, q, rfl⟩
    go_wp2_with fail
    go_ret
    exact ⟨ret_bool (by rw [he.out, hb]; simp), _, rfl⟩
  · go_enter Try.func34, Try.ntmps34
    go_wp2_with fail
    refine (less_any _ _ _ _ _ _ x y _ (by first | exact h0 | exact h0.drewN _ | exact (h0.drewN _).drewN _ | exact h0.below (by assumption)) (by first | exact h1 | exact h1.drewN _ | exact (h1.drewN _).drewN _ | exact h1.below (by assumption))).mono ?_
    rintro e w' ⟨rfl, q, rfl⟩
    rw [hb]
    go_wp2_with fail
    go_ret
    exact ⟨ret_bool (by rw [he.out, hb]; simp), _, rfl⟩

theorem eqL_len {x y : List Int} (h : x.length ≠ y.length) : eqL x y = false := by
  unfold eqL; rw [decide_eq_false_iff_not]; intro e; exact h (by rw [e])
theorem eqL_take {x y : List Int} {n : Nat} (hx : x.length = n) (hy : y.length = n) (h : x.take n = y.take n) : eqL x y = true := by
  unfold eqL; rw [decide_eq_true_eq]; rw [List.take_of_length_le (by omega), List.take_of_length_le (by omega)] at h; exact h
theorem eqL_ne {x y : List Int} {k : Nat} (h : x[k]?.getD 0 ≠ y[k]?.getD 0) : eqL x y = false := by
  unfold eqL; rw [decide_eq_false_iff_not]; intro e; exact h (by rw [e])
theorem take_eq_step {x y : List Int} {k : Nat} (hx : k < x.length) (hy : k < y.length) (h : x.take k = y.take k) (he : x[k]?.getD 0 = y[k]?.getD 0) : x.take (k + 1) = y.take (k + 1) := by
  rw [take_getD x k hx, take_getD y k hy, h, he]
theorem eqLL_len {x y : List (List Int)} (h : x.length ≠ y.length) : eqLL x y = false := by
  unfold eqLL; rw [decide_eq_false_iff_not]; intro e; exact h (by rw [e])
theorem eqLL_take {x y : List (List Int)} {n : Nat} (hx : x.length = n) (hy : y.length = n) (h : x.take n = y.take n) : eqLL x y = true := by
  unfold eqLL; rw [decide_eq_true_eq]; rw [List.take_of_length_le (by omega), List.take_of_length_le (by omega)] at h; exact h
theorem eqLL_ne {x y : List (List Int)} {k : Nat} (h : eqL (x[k]?.getD []) (y[k]?.getD []) = false) : eqLL x y = false := by
  unfold eqLL; rw [decide_eq_false_iff_not]; intro e; rw [e] at h; simp [eqL] at h
theorem takeLL_getD (l : List (List Int)) (k : Nat) (h : k < l.length) : l.take (k + 1) = l.take k ++ [l[k]?.getD []] := by
  rw [List.take_succ_eq_append_getElem h]; simp [List.getElem?_eq_getElem h]
theorem takeLL_eq_step {x y : List (List Int)} {k : Nat} (hx : k < x.length) (hy : k < y.length) (h : x.take k = y.take k) (he : eqL (x[k]?.getD []) (y[k]?.getD []) = true) : x.take (k + 1) = y.take (k + 1) := by
  unfold eqL at he; rw [decide_eq_true_eq] at he
  rw [takeLL_getD x k hx, takeLL_getD y k hy, h, he]

set_option maxHeartbeats 400000 in
theorem same13_any (a0 a1 : Option Addr) (n0 c0 n1 c1 : Nat) (x y : List Int) (w : World) (h0 : Ints w a0 n0 c0 x) (h1 : Ints w a1 n1 c1 y) :
    Calls Try.prog 54 #[.slice a0 n0 c0, .slice a1 n1 c1] w fun e w' => e = .returned (.bool (eqL x y)) ∧ ∃ k, w' = w.drewN k := by
  have hm0 := h0.mx
  have hm1 := h1.mx
  have hc0 := h0.cap
  have hc1 := h1.cap
  have hl0 := Lib.hid h0.len
  have hl1 := Lib.hid h1.len
  unfold maxLen at hm0 hm1
  by_cases hne : n0 = n1
  · subst hne
    go_enter Try.func54, Try.ntmps54
    go_wp2
    go_loopw [5] (fun i wr => ∃ k : Nat, k ≤ n0 ∧ i = .int .i64 k ∧ Hid (x.take k = y.take k) ∧ ∃ m, wr = w.drewN m) (fun i _ => n0 - (intOf i).toNat)
    case atStart => exact ⟨0, by omega, rfl, Lib.hid (by simp), 0, rfl⟩
    case round =>
      obtain ⟨k, hk0, rfl, HL, m, rfl⟩ := hrel
      by_cases hlt : k < n0
      · obtain ⟨b0, o0, rfl, _⟩ := h0.at' (by omega)
        obtain ⟨b1, o1, rfl, _⟩ := h1.at' (by omega)
        have e0 := h0.cell _ _ rfl k hlt
        have e1 := h1.cell _ _ rfl k hlt
        go_wp2_with (go_quiet (fail))
        · go_ret
          have hne : ¬ x[k]?.getD 0 = y[k]?.getD 0 := by rename_i h; simpa using h
          exact ⟨ret_bool (eqL_ne hne).symm, (by first | exact ⟨_, rfl⟩ | exact ⟨_, World.drewN_drewN⟩ | exact ⟨0, rfl⟩ | exact ⟨_, by simp only [World.drewN_drewN]; rfl⟩)⟩
        · have heq : x[k]?.getD 0 = y[k]?.getD 0 := by rename_i h; simpa using h
          go_roundw
          case rel => exact ⟨k + 1, by omega, by go_num, Lib.hid (take_eq_step (by rw [hl0.out]; omega) (by rw [hl1.out]; omega) HL.out heq), (by first | exact ⟨_, rfl⟩ | exact ⟨_, World.drewN_drewN⟩ | exact ⟨0, rfl⟩ | exact ⟨_, by simp only [World.drewN_drewN]; rfl⟩)⟩
          case measure => simp [intOf]; omega
      · obtain rfl : k = n0 := by omega
        go_wp2_with (go_quiet (fail))
        go_ret
        exact ⟨ret_bool (eqL_take hl0.out hl1.out HL.out).symm, (by first | exact ⟨_, rfl⟩ | exact ⟨_, World.drewN_drewN⟩ | exact ⟨0, rfl⟩ | exact ⟨_, by simp only [World.drewN_drewN]; rfl⟩)⟩
  · have hb : ((n0 : Int) != (n1 : Int)) = true := by simp; omega
    have he := Lib.hid (eqL_len (x := x) (y := y) (by rw [hl0.out, hl1.out]; exact hne))
    clear hne
    go_enter Try.func54, Try.ntmps54
    go_wp2_with (go_quiet (fail))
    go_ret
    exact ⟨ret_bool (by rw [he.out]), 0, rfl⟩

set_option maxHeartbeats 400000 in
theorem same14_any (a0 a1 : Option Addr) (n0 c0 n1 c1 : Nat) (x y : List (List Int)) (w : World) (h0 : Rows w a0 n0 c0 x) (h1 : Rows w a1 n1 c1 y) :
    Calls Try.prog 24 #[.slice a0 n0 c0, .slice a1 n1 c1] w fun e w' => e = .returned (.bool (eqLL x y)) ∧ ∃ k, w' = w.drewN k := by
  have hm0 := h0.mx
  have hm1 := h1.mx
  have hc0 := h0.cap
  have hc1 := h1.cap
  have hl0 := Lib.hid h0.len
  have hl1 := Lib.hid h1.len
  unfold maxLen at hm0 hm1
  by_cases hne : n0 = n1
  · subst hne
    go_enter Try.func24, Try.ntmps24
    go_wp2
    go_loopw [5] (fun i wr => ∃ k : Nat, k ≤ n0 ∧ i = .int .i64 k ∧ Hid (x.take k = y.take k) ∧ ∃ m, wr = w.drewN m) (fun i _ => n0 - (intOf i).toNat)
    case atStart => exact ⟨0, by omega, rfl, Lib.hid (by simp), 0, rfl⟩
    case round =>
      obtain ⟨k, hk0, rfl, HL, m, rfl⟩ := hrel
      by_cases hlt : k < n0
      · obtain ⟨b0, o0, rfl, _⟩ := h0.at' (by omega)
        obtain ⟨b1, o1, rfl, _⟩ := h1.at' (by omega)
        obtain ⟨ai, ni, ci, e0, hI0⟩ := h0.row _ _ rfl k hlt
        obtain ⟨aj, nj, cj, e1, hI1⟩ := h1.row _ _ rfl k hlt
        cases hb : eqL (x[k]?.getD []) (y[k]?.getD [])
        · have hB := Lib.hid hb
          go_wp2_with (go_quiet ((go_at_call 34; first | exact quiet_ofY (equal_any _ _ _ _ _ _ _ _ _ (by first | exact hI0 | exact hI0.drewN _ | exact (hI0.drewN _).drewN _ | exact hI0.below (by assumption)) (by first | exact hI1 | exact hI1.drewN _ | exact (hI1.drewN _).drewN _ | exact hI1.below (by assumption))) | exact quiet_ofX (equal_any _ _ _ _ _ _ _ _ _ (by first | exact hI0 | exact hI0.drewN _ | exact (hI0.drewN _).drewN _ | exact hI0.below (by assumption)) (by first | exact hI1 | exact hI1.drewN _ | exact (hI1.drewN _).drewN _ | exact hI1.below (by assumption))) (by first | exact ⟨_, rfl⟩ | exact ⟨_, World.drewN_drewN.symm⟩ | exact ⟨0, rfl⟩))))
          · go_ret
            exact ⟨ret_bool (eqLL_ne hB.out).symm, (by first | exact ⟨_, rfl⟩ | exact ⟨_, World.drewN_drewN⟩ | exact ⟨0, rfl⟩ | exact ⟨_, by simp only [World.drewN_drewN]; rfl⟩)⟩
        · have hB := Lib.hid hb
          go_wp2_with (go_quiet ((go_at_call 34; first | exact quiet_ofY (equal_any _ _ _ _ _ _ _ _ _ (by first | exact hI0 | exact hI0.drewN _ | exact (hI0.drewN _).drewN _ | exact hI0.below (by assumption)) (by first | exact hI1 | exact hI1.drewN _ | exact (hI1.drewN _).drewN _ | exact hI1.below (by assumption))) | exact quiet_ofX (equal_any _ _ _ _ _ _ _ _ _ (by first | exact hI0 | exact hI0.drewN _ | exact (hI0.drewN _).drewN _ | exact hI0.below (by assumption)) (by first | exact hI1 | exact hI1.drewN _ | exact (hI1.drewN _).drewN _ | exact hI1.below (by assumption))) (by first | exact ⟨_, rfl⟩ | exact ⟨_, World.drewN_drewN.symm⟩ | exact ⟨0, rfl⟩))))
          go_roundw
          case rel => exact ⟨k + 1, by omega, by go_num, Lib.hid (takeLL_eq_step (by rw [hl0.out]; omega) (by rw [hl1.out]; omega) HL.out hB.out), (by first | exact ⟨_, rfl⟩ | exact ⟨_, World.drewN_drewN⟩ | exact ⟨0, rfl⟩ | exact ⟨_, by simp only [World.drewN_drewN]; rfl⟩)⟩
          case measure => simp [intOf]; omega
      · obtain rfl : k = n0 := by omega
        go_wp2_with fail
        go_ret
        exact ⟨ret_bool (eqLL_take hl0.out hl1.out HL.out).symm, (by first | exact ⟨_, rfl⟩ | exact ⟨_, World.drewN_drewN⟩ | exact ⟨0, rfl⟩ | exact ⟨_, by simp only [World.drewN_drewN]; rfl⟩)⟩
  · have hb : ((n0 : Int) != (n1 : Int)) = true := by simp; omega
    have he := Lib.hid (eqLL_len (x := x) (y := y) (by rw [hl0.out, hl1.out]; exact hne))
    clear hne
    go_enter Try.func24, Try.ntmps24
    go_wp2_with (go_quiet (fail))
    go_ret
    exact ⟨ret_bool (by rw [he.out]), 0, rfl⟩
set_option maxHeartbeats 400000 in
theorem samelists_any (a0 a1 : Option Addr) (n0 c0 n1 c1 : Nat) (x y : List (List Int)) (w : World) (h0 : Rows w a0 n0 c0 x) (h1 : Rows w a1 n1 c1 y) :
    Calls Try.prog 49 #[.slice a0 n0 c0, .slice a1 n1 c1] w fun e w' => e = .returned (.bool (eqLL x y)) ∧ ∃ k, w' = w.drewN k := by
  have hm0 := h0.mx
  have hm1 := h1.mx
  have hc0 := h0.cap
  have hc1 := h1.cap
  have hl0 := Lib.hid h0.len
  have hl1 := Lib.hid h1.len
  unfold maxLen at hm0 hm1
  by_cases hne : n0 = n1
  · subst hne
    go_enter Try.func49, Try.ntmps49
    go_wp2
    go_loopw [5] (fun i wr => ∃ k : Nat, k ≤ n0 ∧ i = .int .i64 k ∧ Hid (x.take k = y.take k) ∧ ∃ m, wr = w.drewN m) (fun i _ => n0 - (intOf i).toNat)
    case atStart => exact ⟨0, by omega, rfl, Lib.hid (by simp), 0, rfl⟩
    case round =>
      obtain ⟨k, hk0, rfl, HL, m, rfl⟩ := hrel
      by_cases hlt : k < n0
      · obtain ⟨b0, o0, rfl, _⟩ := h0.at' (by omega)
        obtain ⟨b1, o1, rfl, _⟩ := h1.at' (by omega)
        obtain ⟨ai, ni, ci, e0, hI0⟩ := h0.row _ _ rfl k hlt
        obtain ⟨aj, nj, cj, e1, hI1⟩ := h1.row _ _ rfl k hlt
        cases hb : eqL (x[k]?.getD []) (y[k]?.getD [])
        · have hB := Lib.hid hb
          go_wp2_with (go_quiet ((go_at_call 54; first | exact quiet_ofY (same13_any _ _ _ _ _ _ _ _ _ (by first | exact hI0 | exact hI0.drewN _ | exact (hI0.drewN _).drewN _ | exact hI0.below (by assumption)) (by first | exact hI1 | exact hI1.drewN _ | exact (hI1.drewN _).drewN _ | exact hI1.below (by assumption))) | exact quiet_ofX (same13_any _ _ _ _ _ _ _ _ _ (by first | exact hI0 | exact hI0.drewN _ | exact (hI0.drewN _).drewN _ | exact hI0.below (by assumption)) (by first | exact hI1 | exact hI1.drewN _ | exact (hI1.drewN _).drewN _ | exact hI1.below (by assumption))) (by first | exact ⟨_, rfl⟩ | exact ⟨_, World.drewN_drewN.symm⟩ | exact ⟨0, rfl⟩))))
          · go_ret
            exact ⟨ret_bool (eqLL_ne hB.out).symm, (by first | exact ⟨_, rfl⟩ | exact ⟨_, World.drewN_drewN⟩ | exact ⟨0, rfl⟩ | exact ⟨_, by simp only [World.drewN_drewN]; rfl⟩)⟩
        · have hB := Lib.hid hb
          go_wp2_with (go_quiet ((go_at_call 54; first | exact quiet_ofY (same13_any _ _ _ _ _ _ _ _ _ (by first | exact hI0 | exact hI0.drewN _ | exact (hI0.drewN _).drewN _ | exact hI0.below (by assumption)) (by first | exact hI1 | exact hI1.drewN _ | exact (hI1.drewN _).drewN _ | exact hI1.below (by assumption))) | exact quiet_ofX (same13_any _ _ _ _ _ _ _ _ _ (by first | exact hI0 | exact hI0.drewN _ | exact (hI0.drewN _).drewN _ | exact hI0.below (by assumption)) (by first | exact hI1 | exact hI1.drewN _ | exact (hI1.drewN _).drewN _ | exact hI1.below (by assumption))) (by first | exact ⟨_, rfl⟩ | exact ⟨_, World.drewN_drewN.symm⟩ | exact ⟨0, rfl⟩))))
          go_roundw
          case rel => exact ⟨k + 1, by omega, by go_num, Lib.hid (takeLL_eq_step (by rw [hl0.out]; omega) (by rw [hl1.out]; omega) HL.out hB.out), (by first | exact ⟨_, rfl⟩ | exact ⟨_, World.drewN_drewN⟩ | exact ⟨0, rfl⟩ | exact ⟨_, by simp only [World.drewN_drewN]; rfl⟩)⟩
          case measure => simp [intOf]; omega
      · obtain rfl : k = n0 := by omega
        go_wp2_with fail
        go_ret
        exact ⟨ret_bool (eqLL_take hl0.out hl1.out HL.out).symm, (by first | exact ⟨_, rfl⟩ | exact ⟨_, World.drewN_drewN⟩ | exact ⟨0, rfl⟩ | exact ⟨_, by simp only [World.drewN_drewN]; rfl⟩)⟩
  · have hb : ((n0 : Int) != (n1 : Int)) = true := by simp; omega
    have he := Lib.hid (eqLL_len (x := x) (y := y) (by rw [hl0.out, hl1.out]; exact hne))
    clear hne
    go_enter Try.func49, Try.ntmps49
    go_wp2_with (go_quiet (fail))
    go_ret
    exact ⟨ret_bool (by rw [he.out]), 0, rfl⟩
end Go.Proofs.Ytjiacdihfbbfjaa
