/- Contracts of ref.Order, ref.Same, slices.Compare on lists of ints. -/
import Derived.Test.YtkekkbbdhdamjaaPIs
import Derived.Test.YtkekkbbdhdamjaaOrdM
import Derived.WalkKit
import Derived.WalkSpells
import Derived.WalkLawsBesides
import Derived.Deep.LoopGhost
import Derived.Deep.QuietTactic
import Derived.BigQuiet
import Derived.StillTailTactics
import Derived.Lib.Hide
import Derived.Outline
import Derived.Lib.QuietBelow
namespace Go.Proofs.Ytkekkbbdhdamjaa
open Go.RowKit

theorem ordL_step {a b : List Int} {k : Nat} {x y : Int} (hx : a[k]? = some x) (hy : b[k]? = some y) : ordL (a.drop k) (b.drop k) = if x < y then -1 else if y < x then 1 else ordL (a.drop (k + 1)) (b.drop (k + 1)) := by
  obtain ⟨h1, e1⟩ := List.getElem?_eq_some_iff.1 hx
  obtain ⟨h2, e2⟩ := List.getElem?_eq_some_iff.1 hy
  rw [List.drop_eq_getElem_cons h1, List.drop_eq_getElem_cons h2, e1, e2]; rfl
theorem ordL_endA {a b : List Int} {k : Nat} (hk : a.length = k) : ordL (a.drop k) (b.drop k) = if k < b.length then -1 else 0 := by
  rw [List.drop_of_length_le (by omega)]
  by_cases h : k < b.length
  · rw [if_pos h, List.drop_eq_getElem_cons h]; rfl
  · rw [if_neg h, List.drop_of_length_le (by omega)]; rfl
theorem ordL_endB {a b : List Int} {k : Nat} (hk : b.length = k) (h : k < a.length) : ordL (a.drop k) (b.drop k) = 1 := by
  rw [List.drop_of_length_le (l := b) (by omega), List.drop_eq_getElem_cons h]; rfl

set_option maxHeartbeats 4000000 in
theorem order_any (a0 a1 : Option Addr) (m c n d : Nat) (a b : List Int) (W : World) (h0 : Ints W a0 m c a) (h1 : Ints W a1 n d b) :
    Calls Try.prog 31 #[.slice a0 m c, .slice a1 n d] W fun e w' => e = .returned (.int .i64 (ordL a b)) ∧ ∃ q, w' = W.drewN q := by
  have HL0 := Lib.hid h0.len
  have HL1 := Lib.hid h1.len
  have hm0 := h0.mx
  have hc0 := h0.cap
  have hm1 := h1.mx
  have hc1 := h1.cap
  unfold maxLen at hm0 hm1
  go_enter Try.func31, Try.ntmps31
  go_wp2_with fail
  go_loopw [5] (fun i wr => ∃ k q : Nat, i = .int .i64 k ∧ k ≤ m ∧ k ≤ n ∧ Hid (ordL a b = ordL (a.drop k) (b.drop k)) ∧ wr = W.drewN q) (fun i _ => m - (intOf i).toNat)
  case atStart => exact ⟨0, 0, rfl, by omega, by omega, Lib.hid rfl, rfl⟩
  case round =>
    obtain ⟨k, q, rfl, hk, hkn, HO, rfl⟩ := hrel
    by_cases hlt : k < m
    · have s0 : (0 : Int) ≤ (k : Int) := by omega
      have s1 : (k : Int) < (m : Int) := by omega
      by_cases hln : k < n
      · have s2 : (k : Int) < (n : Int) := by omega
        obtain ⟨b0, o0, rfl, hb0⟩ := h0.at' (by omega)
        obtain ⟨b1, o1, rfl, hb1⟩ := h1.at' (by omega)
        obtain ⟨x, hx⟩ := h0.has hlt
        obtain ⟨y, hy⟩ := h1.has hln
        have e0 := h0.get hx
        have e1 := h1.get hy
        have hst := ordL_step hx hy
        by_cases c1 : x < y
        · rw [if_pos c1] at hst
          have HR : Hid (ordL a b = -1) := Lib.hid (by rw [HO.out, hst])
          have t1 : decide (x < y) = true := decide_eq_true c1
          clear hst hx hy
          go_wp2_with (go_quiet (fail))
          go_ret
          exact ⟨ret_int HR.out.symm, (by first | exact ⟨_, rfl⟩ | exact ⟨_, World.drewN_drewN⟩ | exact ⟨0, rfl⟩ | exact ⟨_, by simp only [World.drewN_drewN]; rfl⟩)⟩
        · rw [if_neg c1] at hst
          have t1 : decide (x < y) = false := decide_eq_false c1
          by_cases c2 : y < x
          · rw [if_pos c2] at hst
            have HR : Hid (ordL a b = 1) := Lib.hid (by rw [HO.out, hst])
            have t2 : decide (y < x) = true := decide_eq_true c2
            clear hst hx hy
            go_wp2_with (go_quiet (fail))
            go_ret
            exact ⟨ret_int HR.out.symm, (by first | exact ⟨_, rfl⟩ | exact ⟨_, World.drewN_drewN⟩ | exact ⟨0, rfl⟩ | exact ⟨_, by simp only [World.drewN_drewN]; rfl⟩)⟩
          · rw [if_neg c2] at hst
            have HR : Hid (ordL a b = ordL (a.drop (k + 1)) (b.drop (k + 1))) := Lib.hid (by rw [HO.out, hst])
            have t2 : decide (y < x) = false := decide_eq_false c2
            clear hst hx hy c1 c2
            go_wp2_with (go_quiet (fail))
            go_roundw
            case rel => exact ⟨k + 1, _, by go_num, by omega, by omega, HR, by first | rfl | exact World.drewN_drewN⟩
            case measure => simp [intOf]; omega
      · have s2 : ¬ (k : Int) < (n : Int) := by omega
        have HR : Hid (ordL a b = 1) := Lib.hid (by rw [HO.out, ordL_endB (by rw [HL1.out]; omega) (by rw [HL0.out]; omega)])
        have s3 : (n : Int) < (m : Int) := by omega
        have s4 : ¬ (m : Int) < (n : Int) := by omega
        go_wp2_with (go_quiet (fail))
        go_ret
        exact ⟨ret_int HR.out.symm, (by first | exact ⟨_, rfl⟩ | exact ⟨_, World.drewN_drewN⟩ | exact ⟨0, rfl⟩ | exact ⟨_, by simp only [World.drewN_drewN]; rfl⟩)⟩
    · obtain rfl : m = k := by omega
      have hen := ordL_endA (b := b) HL0.out
      rw [HL1.out] at hen
      by_cases hln : m < n
      · rw [if_pos hln] at hen
        have HR : Hid (ordL a b = -1) := Lib.hid (by rw [HO.out, hen])
        have s3 : (m : Int) < (n : Int) := by omega
        clear hen
        go_wp2_with (go_quiet (fail))
        go_ret
        exact ⟨ret_int HR.out.symm, (by first | exact ⟨_, rfl⟩ | exact ⟨_, World.drewN_drewN⟩ | exact ⟨0, rfl⟩ | exact ⟨_, by simp only [World.drewN_drewN]; rfl⟩)⟩
      · rw [if_neg hln] at hen
        have HR : Hid (ordL a b = 0) := Lib.hid (by rw [HO.out, hen])
        have s3 : ¬ (m : Int) < (n : Int) := by omega
        have s4 : ¬ (n : Int) < (m : Int) := by omega
        clear hen
        go_wp2_with (go_quiet (fail))
        go_ret
        exact ⟨ret_int HR.out.symm, (by first | exact ⟨_, rfl⟩ | exact ⟨_, World.drewN_drewN⟩ | exact ⟨0, rfl⟩ | exact ⟨_, by simp only [World.drewN_drewN]; rfl⟩)⟩
theorem ordL_dec (a b : List Int) : decide (ordL a b = 0) = decide (a = b) := by rw [Bool.eq_iff_iff, decide_eq_true_eq, decide_eq_true_eq]; exact ordL_zero
theorem sameI_any (a0 a1 : Option Addr) (m c n d : Nat) (a b : List Int) (W : World) (h0 : Ints W a0 m c a) (h1 : Ints W a1 n d b) :
    Calls Try.prog 17 #[.slice a0 m c, .slice a1 n d] W fun e w' => e = .returned (.bool (decide (a = b))) ∧ ∃ q, w' = W.drewN q := by
  have hd := ordL_dec a b
  obtain ⟨o, ho⟩ : ∃ o, ordL a b = o := ⟨_, rfl⟩
  have hc := order_any a0 a1 m c n d a b W h0 h1
  rw [ho] at hc hd
  have HD := Lib.hid hd
  clear hd ho
  go_enter Try.func17, Try.ntmps17
  go_wp2_with fail
  refine hc.mono ?_
  rintro e w' ⟨rfl, q, rfl⟩
  clear hc
  go_wp2_with fail
  go_ret
  exact ⟨ret_bool (by rw [← HD.out, Bool.eq_iff_iff, beq_iff_eq, decide_eq_true_eq]), q, rfl⟩
end Go.Proofs.Ytkekkbbdhdamjaa
