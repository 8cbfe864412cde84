/- Contracts of the reference functions In, different, Apart, Swap. -/
import Derived.Test.YtjiacdihfbbfjaaRefA
import Derived.WalkKit
import Derived.WalkSpells
import Derived.WalkLawsBesides
import Derived.Deep.LoopGhost
import Derived.Deep.QuietTactic
import Derived.BigQuiet
import Derived.StillTailTactics
import Derived.Lib.Hide
import Derived.Outline
import Derived.Lib.QuietBelow
namespace Go.Proofs.Ytjiacdihfbbfjaa
open Go.RowKit

theorem inL_take {l : List Int} {x : Int} {n : Nat} (hl : l.length = n) (h : x ∉ l.take n) : inL l x = false := by
  rw [List.take_of_length_le (by omega)] at h; unfold inL; simpa using h
theorem inL_get {l : List Int} {x : Int} {k : Nat} (hk : k < l.length) (h : l[k]?.getD 0 = x) : inL l x = true := by
  unfold inL; have := getD_mem l k hk; rw [h] at this; simpa using this
theorem notin_step {l : List Int} {x : Int} {k : Nat} (hk : k < l.length) (h : x ∉ l.take k) (he : ¬ l[k]?.getD 0 = x) : x ∉ l.take (k + 1) := by
  rw [take_getD l k hk]; simp only [List.mem_append, List.mem_singleton]; rintro (h1 | h1)
  · exact h h1
  · exact he h1.symm

set_option maxHeartbeats 400000 in
theorem in13_any (a0 : Option Addr) (n0 c0 : Nat) (l : List Int) (x : Int) (w : World) (h0 : Ints w a0 n0 c0 l) :
    Calls Try.prog 72 #[.slice a0 n0 c0, .int .i64 x] w fun e w' => e = .returned (.bool (inL l x)) ∧ ∃ k, w' = w.drewN k := by
  have hm0 := h0.mx
  have hc0 := h0.cap
  have hl0 := Lib.hid h0.len
  unfold maxLen at hm0
  go_enter Try.func72, Try.ntmps72
  go_wp2
  go_loopw [5] (fun i wr => ∃ k : Nat, k ≤ n0 ∧ i = .int .i64 k ∧ Hid (x ∉ l.take k) ∧ ∃ m, wr = w.drewN m) (fun i _ => n0 - (intOf i).toNat)
  case atStart => exact ⟨0, by omega, rfl, Lib.hid (by simp), 0, rfl⟩
  case round =>
    obtain ⟨k, hk0, rfl, HL, m, rfl⟩ := hrel
    by_cases hlt : k < n0
    · obtain ⟨b0, o0, rfl, _⟩ := h0.at' (by omega)
      have e0 := h0.cell _ _ rfl k hlt
      go_wp2_with (go_quiet (fail))
      · go_ret
        have heq : l[k]?.getD 0 = x := by rename_i h; simpa using h
        exact ⟨ret_bool (inL_get (by rw [hl0.out]; omega) heq).symm, (by first | exact ⟨_, rfl⟩ | exact ⟨_, World.drewN_drewN⟩ | exact ⟨0, rfl⟩ | exact ⟨_, by simp only [World.drewN_drewN]; rfl⟩)⟩
      · have hne : ¬ l[k]?.getD 0 = x := by rename_i h; simpa using h
        go_roundw
        case rel => exact ⟨k + 1, by omega, by go_num, Lib.hid (notin_step (by rw [hl0.out]; omega) HL.out hne), (by first | exact ⟨_, rfl⟩ | exact ⟨_, World.drewN_drewN⟩ | exact ⟨0, rfl⟩ | exact ⟨_, by simp only [World.drewN_drewN]; rfl⟩)⟩
        case measure => simp [intOf]; omega
    · obtain rfl : k = n0 := by omega
      go_wp2_with (go_quiet (fail))
      go_ret
      exact ⟨ret_bool (inL_take hl0.out HL.out).symm, (by first | exact ⟨_, rfl⟩ | exact ⟨_, World.drewN_drewN⟩ | exact ⟨0, rfl⟩ | exact ⟨_, by simp only [World.drewN_drewN]; rfl⟩)⟩

/-- All in 0 .. n-1, and different. -/
def diffL (l : List Int) (n : Int) : Bool := decide (∀ x ∈ l, 0 ≤ x ∧ x < n) && decide l.Nodup
theorem diffL_bad {l : List Int} {n : Int} {k : Nat} (hk : k < l.length) (h : l[k]?.getD 0 < 0 ∨ n ≤ l[k]?.getD 0) : diffL l n = false := by
  unfold diffL; have hm := getD_mem l k hk
  rw [Bool.and_eq_false_iff]; left; rw [decide_eq_false_iff_not]; intro hh; have := hh _ hm; omega
theorem diffL_dup {l : List Int} {n : Int} {j k : Nat} (hk : k < l.length) (hj : j < k) (h : l[j]?.getD 0 = l[k]?.getD 0) : diffL l n = false := by
  unfold diffL; rw [Bool.and_eq_false_iff]; right; rw [decide_eq_false_iff_not]; intro hh
  rw [List.getElem?_eq_getElem (by omega), List.getElem?_eq_getElem (by omega)] at h
  exact List.pairwise_iff_getElem.1 hh j k (by omega) hk hj (by simpa using h)
def diffUpto (l : List Int) (n : Int) (k : Nat) : Prop := (∀ x ∈ l.take k, 0 ≤ x ∧ x < n) ∧ (l.take k).Nodup
theorem diffL_end {l : List Int} {n : Int} (h : diffUpto l n l.length) : diffL l n = true := by
  unfold diffUpto at h; rw [List.take_of_length_le (Nat.le_refl _)] at h
  unfold diffL; rw [Bool.and_eq_true, decide_eq_true_eq, decide_eq_true_eq]; exact h
theorem diff_step {l : List Int} {n : Int} {k : Nat} (hk : k < l.length) (h : diffUpto l n k) (h1 : 0 ≤ l[k]?.getD 0 ∧ l[k]?.getD 0 < n) (h2 : l[k]?.getD 0 ∉ l.take k) : diffUpto l n (k + 1) := by
  unfold diffUpto at *
  rw [take_getD l k hk]
  refine ⟨fun x hx => ?_, ?_⟩
  · rcases List.mem_append.1 hx with hx | hx
    · exact h.1 x hx
    · rw [List.mem_singleton.1 hx]; exact h1
  · rw [List.nodup_append]
    refine ⟨h.2, by simp, fun a ha b hb => ?_⟩
    rw [List.mem_singleton.1 hb]; intro e; rw [e] at ha; exact h2 ha
theorem notin_step' {l : List Int} {k j : Nat} (hj : j < k) (hk : k < l.length) (h : l[k]?.getD 0 ∉ l.take j) (he : ¬ l[j]?.getD 0 = l[k]?.getD 0) : l[k]?.getD 0 ∉ l.take (j + 1) := by
  rw [take_getD l j (by omega)]; simp only [List.mem_append, List.mem_singleton]; rintro (h1 | h1)
  · exact h h1
  · exact he h1.symm

set_option maxHeartbeats 1000000 in
theorem different_any (a0 : Option Addr) (n0 c0 : Nat) (l : List Int) (n : Int) (w : World) (h0 : Ints w a0 n0 c0 l) :
    Calls Try.prog 66 #[.slice a0 n0 c0, .int .i64 n] w fun e w' => e = .returned (.bool (diffL l n)) ∧ ∃ k, w' = w.drewN k := by
  have hm0 := h0.mx
  have hc0 := h0.cap
  have hl0 := Lib.hid h0.len
  unfold maxLen at hm0
  go_enter Try.func66, Try.ntmps66
  go_wp2
  go_loopw [5, 6] (fun i j wr => ∃ k : Nat, k ≤ n0 ∧ i = .int .i64 k ∧ Hid (diffUpto l n k) ∧ ∃ m, wr = w.drewN m) (fun i _ _ => n0 - (intOf i).toNat)
  case atStart => exact ⟨0, by omega, rfl, Lib.hid (by simp [diffUpto]), 0, rfl⟩
  case round =>
    obtain ⟨k, hk0, rfl, HL, m, rfl⟩ := hrel
    by_cases hlt : k < n0
    · obtain ⟨b0, o0, rfl, _⟩ := h0.at' (by omega)
      have e0 := h0.cell _ _ rfl k hlt
      by_cases hneg : l[k]?.getD 0 < 0
      · go_wp2_with fail
        go_ret
        exact ⟨ret_bool (diffL_bad (by rw [hl0.out]; omega) (.inl hneg)).symm, (by first | exact ⟨_, rfl⟩ | exact ⟨_, World.drewN_drewN⟩ | exact ⟨0, rfl⟩ | exact ⟨_, by simp only [World.drewN_drewN]; rfl⟩)⟩
      by_cases hbig : n ≤ l[k]?.getD 0
      · go_wp2_with fail
        go_ret
        exact ⟨ret_bool (diffL_bad (by rw [hl0.out]; omega) (.inr hbig)).symm, (by first | exact ⟨_, rfl⟩ | exact ⟨_, World.drewN_drewN⟩ | exact ⟨0, rfl⟩ | exact ⟨_, by simp only [World.drewN_drewN]; rfl⟩)⟩
      go_wp2_with fail
      go_loopw [6] (fun i wr => ∃ j : Nat, j ≤ k ∧ i = .int .i64 j ∧ Hid (l[k]?.getD 0 ∉ l.take j) ∧ ∃ m, wr = w.drewN m) (fun i _ => k - (intOf i).toNat)
      case atStart => exact ⟨0, by omega, rfl, Lib.hid (by simp), (by first | exact ⟨_, rfl⟩ | exact ⟨_, World.drewN_drewN⟩ | exact ⟨0, rfl⟩ | exact ⟨_, by simp only [World.drewN_drewN]; rfl⟩)⟩
      case round =>
        obtain ⟨j, hj, rfl, HJ, m2, rfl⟩ := hrel
        by_cases hjk : j < k
        · have e1 := h0.cell _ _ rfl j (by omega)
          go_wp2_with (go_quiet (fail))
          · have heq : l[j]?.getD 0 = l[k]?.getD 0 := by rename_i h; simpa using h
            go_ret
            exact ⟨ret_bool (diffL_dup (by rw [hl0.out]; omega) hjk heq).symm, (by first | exact ⟨_, rfl⟩ | exact ⟨_, World.drewN_drewN⟩ | exact ⟨0, rfl⟩ | exact ⟨_, by simp only [World.drewN_drewN]; rfl⟩)⟩
          · have hne : ¬ l[j]?.getD 0 = l[k]?.getD 0 := by rename_i h; simpa using h
            go_roundw
            case rel => exact ⟨j + 1, by omega, by go_num, Lib.hid (notin_step' hjk (by rw [hl0.out]; omega) HJ.out hne), (by first | exact ⟨_, rfl⟩ | exact ⟨_, World.drewN_drewN⟩ | exact ⟨0, rfl⟩ | exact ⟨_, by simp only [World.drewN_drewN]; rfl⟩)⟩
            case measure => simp [intOf]; omega
        · obtain rfl : j = k := by omega
          go_wp2_with (go_quiet (fail))
          go_roundw
          case rel => exact ⟨j + 1, by omega, by go_num, Lib.hid (diff_step (by rw [hl0.out]; omega) HL.out ⟨by omega, by omega⟩ HJ.out), (by first | exact ⟨_, rfl⟩ | exact ⟨_, World.drewN_drewN⟩ | exact ⟨0, rfl⟩ | exact ⟨_, by simp only [World.drewN_drewN]; rfl⟩)⟩
          case measure => simp [intOf]; omega
    · obtain rfl : k = n0 := by omega
      go_wp2_with (go_quiet (fail))
      go_ret
      exact ⟨ret_bool (diffL_end (by rw [hl0.out]; exact HL.out)).symm, (by first | exact ⟨_, rfl⟩ | exact ⟨_, World.drewN_drewN⟩ | exact ⟨0, rfl⟩ | exact ⟨_, by simp only [World.drewN_drewN]; rfl⟩)⟩

/-- No element of a in b. -/
def apartL (a b : List Int) : Bool := decide (∀ x ∈ a, x ∉ b)
theorem apartL_hit {a b : List Int} {i k : Nat} (hi : i < a.length) (hk : k < b.length) (h : a[i]?.getD 0 = b[k]?.getD 0) : apartL a b = false := by
  unfold apartL; rw [decide_eq_false_iff_not]; intro hh
  exact hh _ (getD_mem a i hi) (by rw [h]; exact getD_mem b k hk)
def apartUpto (a b : List Int) (k : Nat) : Prop := ∀ x ∈ a.take k, x ∉ b
theorem apart_step {a b : List Int} {k : Nat} (hk : k < a.length) (h : apartUpto a b k) (h2 : a[k]?.getD 0 ∉ b) : apartUpto a b (k + 1) := by
  unfold apartUpto at *; rw [take_getD a k hk]; intro x hx
  rcases List.mem_append.1 hx with hx | hx
  · exact h x hx
  · rw [List.mem_singleton.1 hx]; exact h2
theorem apartL_end {a b : List Int} (h : apartUpto a b a.length) : apartL a b = true := by
  unfold apartUpto at h; rw [List.take_of_length_le (Nat.le_refl _)] at h
  unfold apartL; rw [decide_eq_true_eq]; exact h

set_option maxHeartbeats 1000000 in
theorem apart_any (a0 a1 : Option Addr) (n0 c0 n1 c1 : Nat) (x y : List Int) (w : World) (h0 : Ints w a0 n0 c0 x) (h1 : Ints w a1 n1 c1 y) :
    Calls Try.prog 67 #[.slice a0 n0 c0, .slice a1 n1 c1] w fun e w' => e = .returned (.bool (apartL x y)) ∧ ∃ k, w' = w.drewN k := by
  have hm0 := h0.mx
  have hm1 := h1.mx
  have hc0 := h0.cap
  have hc1 := h1.cap
  have hl0 := Lib.hid h0.len
  have hl1 := Lib.hid h1.len
  unfold maxLen at hm0 hm1
  go_enter Try.func67, Try.ntmps67
  go_wp2
  go_loopw [5, 6] (fun i _ wr => ∃ k : Nat, k ≤ n0 ∧ i = .int .i64 k ∧ Hid (apartUpto x y k) ∧ ∃ m, wr = w.drewN m) (fun i _ _ => n0 - (intOf i).toNat)
  case atStart => exact ⟨0, by omega, rfl, Lib.hid (by simp [apartUpto]), 0, rfl⟩
  case round =>
    obtain ⟨k, hk0, rfl, HL, m, rfl⟩ := hrel
    by_cases hlt : k < n0
    · obtain ⟨b0, o0, rfl, _⟩ := h0.at' (by omega)
      have e0 := h0.cell _ _ rfl k hlt
      go_wp2_with fail
      go_loopw [6] (fun i wr => ∃ j : Nat, j ≤ n1 ∧ i = .int .i64 j ∧ Hid (x[k]?.getD 0 ∉ y.take j) ∧ ∃ m, wr = w.drewN m) (fun i _ => n1 - (intOf i).toNat)
      case atStart => exact ⟨0, by omega, rfl, Lib.hid (by simp), (by first | exact ⟨_, rfl⟩ | exact ⟨_, World.drewN_drewN⟩ | exact ⟨0, rfl⟩ | exact ⟨_, by simp only [World.drewN_drewN]; rfl⟩)⟩
      case round =>
        obtain ⟨j, hj, rfl, HJ, m2, rfl⟩ := hrel
        by_cases hjk : j < n1
        · obtain ⟨b1, o1, rfl, _⟩ := h1.at' (by omega)
          have e1 := h1.cell _ _ rfl j (by omega)
          go_wp2_with (go_quiet (fail))
          · have heq : x[k]?.getD 0 = y[j]?.getD 0 := by rename_i h; simpa using h
            go_ret
            exact ⟨ret_bool (apartL_hit (by rw [hl0.out]; omega) (by rw [hl1.out]; omega) heq).symm, (by first | exact ⟨_, rfl⟩ | exact ⟨_, World.drewN_drewN⟩ | exact ⟨0, rfl⟩ | exact ⟨_, by simp only [World.drewN_drewN]; rfl⟩)⟩
          · have hne : ¬ y[j]?.getD 0 = x[k]?.getD 0 := by rename_i h; intro e; rw [e] at h; simp at h
            go_roundw
            case rel => exact ⟨j + 1, by omega, by go_num, Lib.hid (notin_step (by rw [hl1.out]; omega) HJ.out hne), (by first | exact ⟨_, rfl⟩ | exact ⟨_, World.drewN_drewN⟩ | exact ⟨0, rfl⟩ | exact ⟨_, by simp only [World.drewN_drewN]; rfl⟩)⟩
            case measure => simp [intOf]; omega
        · obtain rfl : j = n1 := by omega
          have hx : x[k]?.getD 0 ∉ y := by have := HJ.out; rwa [List.take_of_length_le (by rw [hl1.out]; omega)] at this
          have HX := Lib.hid hx
          clear hx
          go_wp2_with (go_quiet (fail))
          go_roundw
          case rel => exact ⟨k + 1, by omega, by go_num, Lib.hid (apart_step (by rw [hl0.out]; omega) HL.out HX.out), (by first | exact ⟨_, rfl⟩ | exact ⟨_, World.drewN_drewN⟩ | exact ⟨0, rfl⟩ | exact ⟨_, by simp only [World.drewN_drewN]; rfl⟩)⟩
          case measure => simp [intOf]; omega
    · obtain rfl : k = n0 := by omega
      go_wp2_with (go_quiet (fail))
      go_ret
      exact ⟨ret_bool (apartL_end (by rw [hl0.out]; exact HL.out)).symm, (by first | exact ⟨_, rfl⟩ | exact ⟨_, World.drewN_drewN⟩ | exact ⟨0, rfl⟩ | exact ⟨_, by simp only [World.drewN_drewN]; rfl⟩)⟩
end Go.Proofs.Ytjiacdihfbbfjaa
