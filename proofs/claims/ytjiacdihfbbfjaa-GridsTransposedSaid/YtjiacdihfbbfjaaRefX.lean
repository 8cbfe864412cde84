/- Contracts of the reference functions In, different, Apart, Swap. -/
import Derived.Test.YtjiacdihfbbfjaaRefA
import Derived.WalkKit
import Derived.WalkSpells
import Derived.WalkLawsBesides
import Derived.Deep.LoopGhost
import Derived.Deep.QuietTactic
import Derived.BigQuiet
import Derived.StillTailTactics
import Derived.Lib.Hide
import Derived.Outline
import Derived.Lib.QuietBelow
import Derived.Maps.AppendAt
namespace Go.Proofs.Ytjiacdihfbbfjaa
open Go.RowKit

theorem inL_take {l : List Int} {x : Int} {n : Nat} (hl : l.length = n) (h : x ∉ l.take n) : inL l x = false := by
  rw [List.take_of_length_le (by omega)] at h; unfold inL; simpa using h
theorem inL_get {l : List Int} {x : Int} {k : Nat} (hk : k < l.length) (h : l[k]?.getD 0 = x) : inL l x = true := by
  unfold inL; have := getD_mem l k hk; rw [h] at this; simpa using this
theorem notin_step {l : List Int} {x : Int} {k : Nat} (hk : k < l.length) (h : x ∉ l.take k) (he : ¬ l[k]?.getD 0 = x) : x ∉ l.take (k + 1) := by
  rw [take_getD l k hk]; simp only [List.mem_append, List.mem_singleton]; rintro (h1 | h1)
  · exact h h1
  · exact he h1.symm

set_option maxHeartbeats 400000 in
theorem in13_any (a0 : Option Addr) (n0 c0 : Nat) (l : List Int) (x : Int) (w : World) (h0 : Ints w a0 n0 c0 l) :
    Calls Try.prog 72 #[.slice a0 n0 c0, .int .i64 x] w fun e w' => e = .returned (.bool (inL l x)) ∧ ∃ k, w' = w.drewN k := by
  have hm0 := h0.mx
  have hc0 := h0.cap
  have hl0 := Lib.hid h0.len
  unfold maxLen at hm0
  go_enter Try.func72, Try.ntmps72
  go_wp2
  go_loopw [5] (fun i wr => ∃ k : Nat, k ≤ n0 ∧ i = .int .i64 k ∧ Hid (x ∉ l.take k) ∧ ∃ m, wr = w.drewN m) (fun i _ => n0 - (intOf i).toNat)
  case atStart => exact ⟨0, by omega, rfl, Lib.hid (by simp), 0, rfl⟩
  case round =>
    obtain ⟨k, hk0, rfl, HL, m, rfl⟩ := hrel
    by_cases hlt : k < n0
    · obtain ⟨b0, o0, rfl, _⟩ := h0.at' (by omega)
      have e0 := h0.cell _ _ rfl k hlt
      go_wp2_with (go_quiet (fail))
      · go_ret
        have heq : l[k]?.getD 0 = x := by rename_i h; simpa using h
        exact ⟨ret_bool (inL_get (by rw [hl0.out]; omega) heq).symm, (by first | exact ⟨_, rfl⟩ | exact ⟨_, World.drewN_drewN⟩ | exact ⟨0, rfl⟩ | exact ⟨_, by simp only [World.drewN_drewN]; rfl⟩)⟩
      · have hne : ¬ l[k]?.getD 0 = x := by rename_i h; simpa using h
        go_roundw
        case rel => exact ⟨k + 1, by omega, by go_num, Lib.hid (notin_step (by rw [hl0.out]; omega) HL.out hne), (by first | exact ⟨_, rfl⟩ | exact ⟨_, World.drewN_drewN⟩ | exact ⟨0, rfl⟩ | exact ⟨_, by simp only [World.drewN_drewN]; rfl⟩)⟩
        case measure => simp [intOf]; omega
    · obtain rfl : k = n0 := by omega
      go_wp2_with (go_quiet (fail))
      go_ret
      exact ⟨ret_bool (inL_take hl0.out HL.out).symm, (by first | exact ⟨_, rfl⟩ | exact ⟨_, World.drewN_drewN⟩ | exact ⟨0, rfl⟩ | exact ⟨_, by simp only [World.drewN_drewN]; rfl⟩)⟩

/-- All in 0 .. n-1, and different. -/
def diffL (l : List Int) (n : Int) : Bool := decide (∀ x ∈ l, 0 ≤ x ∧ x < n) && decide l.Nodup
theorem diffL_bad {l : List Int} {n : Int} {k : Nat} (hk : k < l.length) (h : l[k]?.getD 0 < 0 ∨ n ≤ l[k]?.getD 0) : diffL l n = false := by
  unfold diffL; have hm := getD_mem l k hk
  rw [Bool.and_eq_false_iff]; left; rw [decide_eq_false_iff_not]; intro hh; have := hh _ hm; omega
theorem diffL_dup {l : List Int} {n : Int} {j k : Nat} (hk : k < l.length) (hj : j < k) (h : l[j]?.getD 0 = l[k]?.getD 0) : diffL l n = false := by
  unfold diffL; rw [Bool.and_eq_false_iff]; right; rw [decide_eq_false_iff_not]; intro hh
  rw [List.getElem?_eq_getElem (by omega), List.getElem?_eq_getElem (by omega)] at h
  exact List.pairwise_iff_getElem.1 hh j k (by omega) hk hj (by simpa using h)
def diffUpto (l : List Int) (n : Int) (k : Nat) : Prop := (∀ x ∈ l.take k, 0 ≤ x ∧ x < n) ∧ (l.take k).Nodup
theorem diffL_end {l : List Int} {n : Int} (h : diffUpto l n l.length) : diffL l n = true := by
  unfold diffUpto at h; rw [List.take_of_length_le (Nat.le_refl _)] at h
  unfold diffL; rw [Bool.and_eq_true, decide_eq_true_eq, decide_eq_true_eq]; exact h
theorem diff_step {l : List Int} {n : Int} {k : Nat} (hk : k < l.length) (h : diffUpto l n k) (h1 : 0 ≤ l[k]?.getD 0 ∧ l[k]?.getD 0 < n) (h2 : l[k]?.getD 0 ∉ l.take k) : diffUpto l n (k + 1) := by
  unfold diffUpto at *
  rw [take_getD l k hk]
  refine ⟨fun x hx => ?_, ?_⟩
  · rcases List.mem_append.1 hx with hx | hx
    · exact h.1 x hx
    · rw [List.mem_singleton.1 hx]; exact h1
  · rw [List.nodup_append]
    refine ⟨h.2, by simp, fun a ha b hb => ?_⟩
    rw [List.mem_singleton.1 hb]; intro e; rw [e] at ha; exact h2 ha
theorem notin_step' {l : List Int} {k j : Nat} (hj : j < k) (hk : k < l.length) (h : l[k]?.getD 0 ∉ l.take j) (he : ¬ l[j]?.getD 0 = l[k]?.getD 0) : l[k]?.getD 0 ∉ l.take (j + 1) := by
  rw [take_getD l j (by omega)]; simp only [List.mem_append, List.mem_singleton]; rintro (h1 | h1)
  · exact h h1
  · exact he h1.symm

set_option maxHeartbeats 1000000 in
theorem different_any (a0 : Option Addr) (n0 c0 : Nat) (l : List Int) (n : Int) (w : World) (h0 : Ints w a0 n0 c0 l) :
    Calls Try.prog 66 #[.slice a0 n0 c0, .int .i64 n] w fun e w' => e = .returned (.bool (diffL l n)) ∧ ∃ k, w' = w.drewN k := by
  have hm0 := h0.mx
  have hc0 := h0.cap
  have hl0 := Lib.hid h0.len
  unfold maxLen at hm0
  go_enter Try.func66, Try.ntmps66
  go_wp2
  go_loopw [5, 6] (fun i j wr => ∃ k : Nat, k ≤ n0 ∧ i = .int .i64 k ∧ Hid (diffUpto l n k) ∧ ∃ m, wr = w.drewN m) (fun i _ _ => n0 - (intOf i).toNat)
  case atStart => exact ⟨0, by omega, rfl, Lib.hid (by simp [diffUpto]), 0, rfl⟩
  case round =>
    obtain ⟨k, hk0, rfl, HL, m, rfl⟩ := hrel
    by_cases hlt : k < n0
    · obtain ⟨b0, o0, rfl, _⟩ := h0.at' (by omega)
      have e0 := h0.cell _ _ rfl k hlt
      by_cases hneg : l[k]?.getD 0 < 0
      · go_wp2_with fail
        go_ret
        exact ⟨ret_bool (diffL_bad (by rw [hl0.out]; omega) (.inl hneg)).symm, (by first | exact ⟨_, rfl⟩ | exact ⟨_, World.drewN_drewN⟩ | exact ⟨0, rfl⟩ | exact ⟨_, by simp only [World.drewN_drewN]; rfl⟩)⟩
      by_cases hbig : n ≤ l[k]?.getD 0
      · go_wp2_with fail
        go_ret
        exact ⟨ret_bool (diffL_bad (by rw [hl0.out]; omega) (.inr hbig)).symm, (by first | exact ⟨_, rfl⟩ | exact ⟨_, World.drewN_drewN⟩ | exact ⟨0, rfl⟩ | exact ⟨_, by simp only [World.drewN_drewN]; rfl⟩)⟩
      go_wp2_with fail
      go_loopw [6] (fun i wr => ∃ j : Nat, j ≤ k ∧ i = .int .i64 j ∧ Hid (l[k]?.getD 0 ∉ l.take j) ∧ ∃ m, wr = w.drewN m) (fun i _ => k - (intOf i).toNat)
      case atStart => exact ⟨0, by omega, rfl, Lib.hid (by simp), (by first | exact ⟨_, rfl⟩ | exact ⟨_, World.drewN_drewN⟩ | exact ⟨0, rfl⟩ | exact ⟨_, by simp only [World.drewN_drewN]; rfl⟩)⟩
      case round =>
        obtain ⟨j, hj, rfl, HJ, m2, rfl⟩ := hrel
        by_cases hjk : j < k
        · have e1 := h0.cell _ _ rfl j (by omega)
          go_wp2_with (go_quiet (fail))
          · have heq : l[j]?.getD 0 = l[k]?.getD 0 := by rename_i h; simpa using h
            go_ret
            exact ⟨ret_bool (diffL_dup (by rw [hl0.out]; omega) hjk heq).symm, (by first | exact ⟨_, rfl⟩ | exact ⟨_, World.drewN_drewN⟩ | exact ⟨0, rfl⟩ | exact ⟨_, by simp only [World.drewN_drewN]; rfl⟩)⟩
          · have hne : ¬ l[j]?.getD 0 = l[k]?.getD 0 := by rename_i h; simpa using h
            go_roundw
            case rel => exact ⟨j + 1, by omega, by go_num, Lib.hid (notin_step' hjk (by rw [hl0.out]; omega) HJ.out hne), (by first | exact ⟨_, rfl⟩ | exact ⟨_, World.drewN_drewN⟩ | exact ⟨0, rfl⟩ | exact ⟨_, by simp only [World.drewN_drewN]; rfl⟩)⟩
            case measure => simp [intOf]; omega
        · obtain rfl : j = k := by omega
          go_wp2_with (go_quiet (fail))
          go_roundw
          case rel => exact ⟨j + 1, by omega, by go_num, Lib.hid (diff_step (by rw [hl0.out]; omega) HL.out ⟨by omega, by omega⟩ HJ.out), (by first | exact ⟨_, rfl⟩ | exact ⟨_, World.drewN_drewN⟩ | exact ⟨0, rfl⟩ | exact ⟨_, by simp only [World.drewN_drewN]; rfl⟩)⟩
          case measure => simp [intOf]; omega
    · obtain rfl : k = n0 := by omega
      go_wp2_with (go_quiet (fail))
      go_ret
      exact ⟨ret_bool (diffL_end (by rw [hl0.out]; exact HL.out)).symm, (by first | exact ⟨_, rfl⟩ | exact ⟨_, World.drewN_drewN⟩ | exact ⟨0, rfl⟩ | exact ⟨_, by simp only [World.drewN_drewN]; rfl⟩)⟩

/-- No element of a in b. -/
def apartL (a b : List Int) : Bool := decide (∀ x ∈ a, x ∉ b)
theorem apartL_hit {a b : List Int} {i k : Nat} (hi : i < a.length) (hk : k < b.length) (h : a[i]?.getD 0 = b[k]?.getD 0) : apartL a b = false := by
  unfold apartL; rw [decide_eq_false_iff_not]; intro hh
  exact hh _ (getD_mem a i hi) (by rw [h]; exact getD_mem b k hk)
def apartUpto (a b : List Int) (k : Nat) : Prop := ∀ x ∈ a.take k, x ∉ b
theorem apart_step {a b : List Int} {k : Nat} (hk : k < a.length) (h : apartUpto a b k) (h2 : a[k]?.getD 0 ∉ b) : apartUpto a b (k + 1) := by
  unfold apartUpto at *; rw [take_getD a k hk]; intro x hx
  rcases List.mem_append.1 hx with hx | hx
  · exact h x hx
  · rw [List.mem_singleton.1 hx]; exact h2
theorem apartL_end {a b : List Int} (h : apartUpto a b a.length) : apartL a b = true := by
  unfold apartUpto at h; rw [List.take_of_length_le (Nat.le_refl _)] at h
  unfold apartL; rw [decide_eq_true_eq]; exact h

set_option maxHeartbeats 1000000 in
theorem apart_any (a0 a1 : Option Addr) (n0 c0 n1 c1 : Nat) (x y : List Int) (w : World) (h0 : Ints w a0 n0 c0 x) (h1 : Ints w a1 n1 c1 y) :
    Calls Try.prog 67 #[.slice a0 n0 c0, .slice a1 n1 c1] w fun e w' => e = .returned (.bool (apartL x y)) ∧ ∃ k, w' = w.drewN k := by
  have hm0 := h0.mx
  have hm1 := h1.mx
  have hc0 := h0.cap
  have hc1 := h1.cap
  have hl0 := Lib.hid h0.len
  have hl1 := Lib.hid h1.len
  unfold maxLen at hm0 hm1
  go_enter Try.func67, Try.ntmps67
  go_wp2
  go_loopw [5, 6] (fun i _ wr => ∃ k : Nat, k ≤ n0 ∧ i = .int .i64 k ∧ Hid (apartUpto x y k) ∧ ∃ m, wr = w.drewN m) (fun i _ _ => n0 - (intOf i).toNat)
  case atStart => exact ⟨0, by omega, rfl, Lib.hid (by simp [apartUpto]), 0, rfl⟩
  case round =>
    obtain ⟨k, hk0, rfl, HL, m, rfl⟩ := hrel
    by_cases hlt : k < n0
    · obtain ⟨b0, o0, rfl, _⟩ := h0.at' (by omega)
      have e0 := h0.cell _ _ rfl k hlt
      go_wp2_with fail
      go_loopw [6] (fun i wr => ∃ j : Nat, j ≤ n1 ∧ i = .int .i64 j ∧ Hid (x[k]?.getD 0 ∉ y.take j) ∧ ∃ m, wr = w.drewN m) (fun i _ => n1 - (intOf i).toNat)
      case atStart => exact ⟨0, by omega, rfl, Lib.hid (by simp), (by first | exact ⟨_, rfl⟩ | exact ⟨_, World.drewN_drewN⟩ | exact ⟨0, rfl⟩ | exact ⟨_, by simp only [World.drewN_drewN]; rfl⟩)⟩
      case round =>
        obtain ⟨j, hj, rfl, HJ, m2, rfl⟩ := hrel
        by_cases hjk : j < n1
        · obtain ⟨b1, o1, rfl, _⟩ := h1.at' (by omega)
          have e1 := h1.cell _ _ rfl j (by omega)
          go_wp2_with (go_quiet (fail))
          · have heq : x[k]?.getD 0 = y[j]?.getD 0 := by rename_i h; simpa using h
            go_ret
            exact ⟨ret_bool (apartL_hit (by rw [hl0.out]; omega) (by rw [hl1.out]; omega) heq).symm, (by first | exact ⟨_, rfl⟩ | exact ⟨_, World.drewN_drewN⟩ | exact ⟨0, rfl⟩ | exact ⟨_, by simp only [World.drewN_drewN]; rfl⟩)⟩
          · have hne : ¬ y[j]?.getD 0 = x[k]?.getD 0 := by rename_i h; intro e; rw [e] at h; simp at h
            go_roundw
            case rel => exact ⟨j + 1, by omega, by go_num, Lib.hid (notin_step (by rw [hl1.out]; omega) HJ.out hne), (by first | exact ⟨_, rfl⟩ | exact ⟨_, World.drewN_drewN⟩ | exact ⟨0, rfl⟩ | exact ⟨_, by simp only [World.drewN_drewN]; rfl⟩)⟩
            case measure => simp [intOf]; omega
        · obtain rfl : j = n1 := by omega
          have hx : x[k]?.getD 0 ∉ y := by have := HJ.out; rwa [List.take_of_length_le (by rw [hl1.out]; omega)] at this
          have HX := Lib.hid hx
          clear hx
          go_wp2_with (go_quiet (fail))
          go_roundw
          case rel => exact ⟨k + 1, by omega, by go_num, Lib.hid (apart_step (by rw [hl0.out]; omega) HL.out HX.out), (by first | exact ⟨_, rfl⟩ | exact ⟨_, World.drewN_drewN⟩ | exact ⟨0, rfl⟩ | exact ⟨_, by simp only [World.drewN_drewN]; rfl⟩)⟩
          case measure => simp [intOf]; omega
    · obtain rfl : k = n0 := by omega
      go_wp2_with (go_quiet (fail))
      go_ret
      exact ⟨ret_bool (apartL_end (by rw [hl0.out]; exact HL.out)).symm, (by first | exact ⟨_, rfl⟩ | exact ⟨_, World.drewN_drewN⟩ | exact ⟨0, rfl⟩ | exact ⟨_, by simp only [World.drewN_drewN]; rfl⟩)⟩
end Go.Proofs.Ytjiacdihfbbfjaa

/- Contracts of the reference functions Swap, Swaps. -/
namespace Go.Proofs.Ytjiacdihfbbfjaa
open Go.RowKit

theorem info_int : (Try.prog.info? 3).map (fun i => (i.zero, i.size, i.bytes)) = some (some (.int .i64 0), 1, 8) := by kernel_rfl
theorem info_ints : (Try.prog.info? 22).map (fun i => (i.zero, i.size, i.bytes)) = some (some (.slice none 0 0), 1, 24) := by kernel_rfl

def swapStep (a b : List Int) (i to : Int) (k : Nat) : Int := if b[k]?.getD 0 = i then a[k]?.getD 0 else if a[k]?.getD 0 = i then b[k]?.getD 0 else to
def swapAt (a b : List Int) (i : Int) : Nat → Int
  | 0 => i
  | k + 1 => swapStep a b i (swapAt a b i k) k
def swapL (n : Nat) (a b : List Int) : List Int := (List.range n).map fun i => swapAt a b (i : Nat) a.length
theorem swapL_snoc (n : Nat) (a b : List Int) : swapL (n + 1) a b = swapL n a b ++ [swapAt a b n a.length] := by
  unfold swapL; rw [List.range_succ]; simp
theorem swapL_len (n : Nat) (a b : List Int) : (swapL n a b).length = n := by unfold swapL; simp

set_option maxRecDepth 10000 in
set_option maxHeartbeats 1000000 in
theorem swap_any (n : Nat) (a0 a1 : Option Addr) (m c0 c1 : Nat) (x y : List Int) (w : World) (h0 : Ints w a0 m c0 x) (h1 : Ints w a1 m c1 y) (hn : n ≤ 100000) :
    Calls Try.prog 68 #[.int .i64 n, .slice a0 m c0, .slice a1 m c1] w (RetOwn w 3 (swapL n x y)) := by
  have hm0 := h0.mx
  have hm1 := h1.mx
  have hc0 := h0.cap
  have hc1 := h1.cap
  have hl0 := Lib.hid h0.len
  have hl1 := Lib.hid h1.len
  obtain ⟨i3, hi3, hz30, hz31, hz32⟩ := info_parts info_int
  unfold maxLen at hm0 hm1
  go_enter Try.func68, Try.ntmps68
  go_wp2_with fail
  go_loopw [7, 8, 9, 10] (fun v i _ _ wr => ∃ k : Nat, k ≤ n ∧ i = .int .i64 k ∧ OwnInts wr w.heap.size 3 v (swapL k x y) ∧ Below w.heap.size w wr) (fun _ i _ _ _ => n - (intOf i).toNat)
  case atStart => exact ⟨0, by omega, rfl, OwnInts.made0 w _ _ (Nat.le_refl _), (Below.refl _ _).alloc (Nat.le_refl _) _⟩
  case round =>
    obtain ⟨k, hk, rfl, hO, hB⟩ := hrel
    have hsz := hB.size
    by_cases hlt : k < n
    · go_wp2_with fail
      go_loopw [9, 10] (fun t i wr' => ∃ j : Nat, j ≤ m ∧ i = .int .i64 j ∧ t = .int .i64 (swapAt x y k j) ∧ wr' = wr) (fun _ i _ => m - (intOf i).toNat)
      case atStart => exact ⟨0, by omega, rfl, rfl, rfl⟩
      case round =>
        obtain ⟨j, hj, rfl, rfl, rfl⟩ := hrel
        by_cases hjm : j < m
        · obtain ⟨b0, o0, rfl, hb0⟩ := h0.at' (by omega)
          obtain ⟨b1, o1, rfl, hb1⟩ := h1.at' (by omega)
          have e0 := (hB.cell (p := ⟨b0, o0 + j, none⟩) hb0).trans (h0.cell _ _ rfl j hjm)
          have e1 := (hB.cell (p := ⟨b1, o1 + j, none⟩) hb1).trans (h1.cell _ _ rfl j hjm)
          by_cases hxi : x[j]?.getD 0 = k <;> by_cases hyi : y[j]?.getD 0 = k
          all_goals
            have Hx := Lib.hid hxi
            have Hy := Lib.hid hyi
            first
              | (have tx : (x[j]?.getD 0 == (k : Int)) = true := by simpa using hxi)
              | (have tx : (x[j]?.getD 0 == (k : Int)) = false := by simpa using hxi)
            first
              | (have ty : (y[j]?.getD 0 == (k : Int)) = true := by simpa using hyi)
              | (have ty : (y[j]?.getD 0 == (k : Int)) = false := by simpa using hyi)
            clear hxi hyi
            go_wp2_with fail
            go_roundw
            case rel => exact ⟨j + 1, by omega, by go_num, by rw [swapAt, swapStep]; simp [Hx.out, Hy.out], by trivial⟩
            case measure => simp [intOf]; omega
        · obtain rfl : j = m := by omega
          have hlen : (swapL k x y).length = k := swapL_len k x y
          have HL := Lib.hid hlen
          have hOr : wr.ownsRow w.heap.size 3 1 _ (swapL k x y).length ((swapL k x y).map (Value.int .i64)) := hO
          rw [hlen] at hOr
          clear hlen
          go_wp2_with (at_builtin; refine wpList_append_own2 _ rfl _ _ 22 rfl w.heap.size 3 i3 (.int .i64 0) 1 8 Try.underlying22 hi3 hz30 hz31 hz32 rfl (by decide) _ _ _ (hOr.alloc _) rfl ⟨_, 0, none⟩ 1 1 [.int .i64 (swapAt x y k j)] rfl rfl (cell_one_new _ _ _) (by simp [Value.oneCell']) (by unfold maxLen; omega) (by omega) (by first | omega | (simp; omega)) ?_; intro v' w1 hown' hgrow hfr)
          go_roundw
          case rel =>
            refine ⟨k + 1, by omega, by go_num, ?_, (hB.alloc hsz _).grown hgrow (by simp; omega) (fun q e => (hOr.lt q e).1)⟩
            rw [swapL_snoc, hl0.out]
            exact OwnInts.snoc (by rw [HL.out]; exact hown')
          case measure => simp [intOf]; omega
    · obtain rfl : k = n := by omega
      go_wp2_with fail
      go_ret
      exact ⟨_, rfl, hO, hB⟩
end Go.Proofs.Ytjiacdihfbbfjaa

