/- Contracts of ref.SameAll, Few, valid, perms.check, and of Find. -/
import Derived.Test.YtkekkbbdhdamjaaPOrd
import Derived.Test.YtkekkbbdhdamjaaPCmp
import Derived.WalkKit
import Derived.WalkSpells
import Derived.WalkLawsBesides
import Derived.Deep.LoopGhost
import Derived.Deep.QuietTactic
import Derived.BigQuiet
import Derived.StillTailTactics
import Derived.Lib.Hide
import Derived.Outline
import Derived.Lib.QuietBelow
namespace Go.Proofs.Ytkekkbbdhdamjaa
open Go.RowKit

theorem Rows.get {w : World} {b o n c : Nat} {ll : List (List Int)} (h : Rows w (some ⟨b, o, none⟩) n c ll) {i : Nat} {l : List Int} (hl : ll[i]? = some l) : ∃ ai ni ci, w.cell? ⟨b, o + i, none⟩ = some (.slice ai ni ci) ∧ Ints w ai ni ci l := by
  have := h.row b o rfl i (by rw [← h.len]; exact (List.getElem?_eq_some_iff.1 hl).1)
  rw [hl] at this; exact this
theorem Rows.has {w : World} {a : Option Addr} {n c : Nat} {ll : List (List Int)} (h : Rows w a n c ll) {i : Nat} (hi : i < n) : ∃ x, ll[i]? = some x := ⟨_, List.getElem?_eq_getElem (by rw [h.len]; exact hi)⟩
theorem take_step {α : Type} {l m : List α} {k : Nat} {x : α} (h : l.take k = m.take k) (hx : l[k]? = some x) (hy : m[k]? = some x) : l.take (k + 1) = m.take (k + 1) := by rw [List.take_add_one, List.take_add_one, hx, hy, h]
theorem ne_at {α : Type} {l m : List α} {k : Nat} {x y : α} (hx : l[k]? = some x) (hy : m[k]? = some y) (h : x ≠ y) : l ≠ m := by
  rintro rfl; exact h (by have := hx.symm.trans hy; injection this)

set_option maxHeartbeats 4000000 in
theorem sameAll_any (a0 a1 : Option Addr) (n0 c0 n1 c1 : Nat) (x y : List (List Int)) (w : World) (h0 : Rows w a0 n0 c0 x) (h1 : Rows w a1 n1 c1 y) :
    Calls Try.prog 23 #[.slice a0 n0 c0, .slice a1 n1 c1] w fun e w' => e = .returned (.bool (decide (x = y))) ∧ ∃ k, w' = w.drewN k := by
  have hm0 := h0.mx
  have hm1 := h1.mx
  have hc0 := h0.cap
  have hc1 := h1.cap
  have hl0 := Lib.hid h0.len
  have hl1 := Lib.hid h1.len
  unfold maxLen at hm0 hm1
  by_cases hne : n0 = n1
  · subst hne
    go_enter Try.func23, Try.ntmps23
    go_wp2_with fail
    go_loopw [5] (fun i wr => ∃ k m : Nat, k ≤ n0 ∧ i = .int .i64 k ∧ Hid (x.take k = y.take k) ∧ wr = w.drewN m) (fun i _ => n0 - (intOf i).toNat)
    case atStart => exact ⟨0, 0, by omega, rfl, Lib.hid (by simp), rfl⟩
    case round =>
      obtain ⟨k, m, hk0, rfl, HL, rfl⟩ := hrel
      by_cases hlt : k < n0
      · obtain ⟨b0, o0, rfl, _⟩ := h0.at' (by omega)
        obtain ⟨b1, o1, rfl, _⟩ := h1.at' (by omega)
        obtain ⟨u, hu⟩ := h0.has hlt
        obtain ⟨v, hv⟩ := h1.has hlt
        obtain ⟨ai, ni, ci, e0, hI0⟩ := h0.get hu
        obtain ⟨aj, nj, cj, e1, hI1⟩ := h1.get hv
        have s0 : (0 : Int) ≤ (k : Int) := by omega
        have s1 : (k : Int) < (n0 : Int) := by omega
        have HU := Lib.hid hu
        have HV := Lib.hid hv
        have HC := Lib.hid (fun V (h0 : Ints V ai ni ci u) (h1 : Ints V aj nj cj v) => sameI_any ai aj ni ci nj cj u v V h0 h1)
        clear hu hv
        cases hb : decide (u = v)
        · rw [hb] at HC
          have HN := Lib.hid (of_decide_eq_false hb)
          clear hb
          have HF : Hid (decide (x = y) = false) := Lib.hid (decide_eq_false (ne_at HU.out HV.out HN.out))
          go_wp2_with (go_quiet ((go_at_call 17; first | exact quiet_ofY (HC.out _ (by first | exact hI0 | exact hI0.drewN _ | exact (hI0.drewN _).drewN _ | exact hI0.below (by assumption)) (by first | exact hI1 | exact hI1.drewN _ | exact (hI1.drewN _).drewN _ | exact hI1.below (by assumption))) | exact quiet_ofX (HC.out _ (by first | exact hI0 | exact hI0.drewN _ | exact (hI0.drewN _).drewN _ | exact hI0.below (by assumption)) (by first | exact hI1 | exact hI1.drewN _ | exact (hI1.drewN _).drewN _ | exact hI1.below (by assumption))) (by first | exact ⟨_, rfl⟩ | exact ⟨_, World.drewN_drewN.symm⟩ | exact ⟨0, rfl⟩))))
          go_ret
          exact ⟨ret_bool HF.out.symm, (by first | exact ⟨_, rfl⟩ | exact ⟨_, World.drewN_drewN⟩ | exact ⟨0, rfl⟩ | exact ⟨_, by simp only [World.drewN_drewN]; rfl⟩)⟩
        · rw [hb] at HC
          have HE := Lib.hid (of_decide_eq_true hb)
          clear hb
          go_wp2_with (go_quiet ((go_at_call 17; first | exact quiet_ofY (HC.out _ (by first | exact hI0 | exact hI0.drewN _ | exact (hI0.drewN _).drewN _ | exact hI0.below (by assumption)) (by first | exact hI1 | exact hI1.drewN _ | exact (hI1.drewN _).drewN _ | exact hI1.below (by assumption))) | exact quiet_ofX (HC.out _ (by first | exact hI0 | exact hI0.drewN _ | exact (hI0.drewN _).drewN _ | exact hI0.below (by assumption)) (by first | exact hI1 | exact hI1.drewN _ | exact (hI1.drewN _).drewN _ | exact hI1.below (by assumption))) (by first | exact ⟨_, rfl⟩ | exact ⟨_, World.drewN_drewN.symm⟩ | exact ⟨0, rfl⟩))))
          go_roundw
          case rel => exact ⟨k + 1, _, by omega, by go_num, Lib.hid (take_step HL.out HU.out (by rw [HV.out, HE.out])), by first | rfl | exact World.drewN_drewN⟩
          case measure => simp [intOf]; omega
      · obtain rfl : n0 = k := by omega
        have HT : Hid (decide (x = y) = true) := Lib.hid (decide_eq_true (by
          have := HL.out
          rwa [List.take_of_length_le (by rw [hl0.out]; omega), List.take_of_length_le (by rw [hl1.out]; omega)] at this))
        go_wp2_with fail
        go_ret
        exact ⟨ret_bool HT.out.symm, (by first | exact ⟨_, rfl⟩ | exact ⟨_, World.drewN_drewN⟩ | exact ⟨0, rfl⟩ | exact ⟨_, by simp only [World.drewN_drewN]; rfl⟩)⟩
  · have hb : ((n0 : Int) != (n1 : Int)) = true := by simp; omega
    have HF : Hid (decide (x = y) = false) := Lib.hid (decide_eq_false (by intro e; have h1 := hl0.out; have h2 := hl1.out; rw [e] at h1; omega))
    clear hne
    go_enter Try.func23, Try.ntmps23
    go_wp2_with fail
    go_ret
    exact ⟨ret_bool HF.out.symm, 0, rfl⟩

def fewB (n : Int) (gens : List (List Int)) : Bool := (gens.all fun g => decide (g.length ≤ 24)) && ((decide (n ≤ 16) || decide (256 < n)) && decide (gens.length ≤ 6))
theorem all_at {α : Type} {p : α → Bool} {l : List α} {k : Nat} {x : α} (hx : l[k]? = some x) (h : p x = false) : l.all p = false := by
  rw [List.all_eq_false]; exact ⟨x, List.mem_of_getElem? hx, by rw [h]; decide⟩
theorem all_step {α : Type} {p : α → Bool} {l : List α} {k : Nat} {x : α} (h : (l.take k).all p = true) (hx : l[k]? = some x) (hp : p x = true) : (l.take (k + 1)).all p = true := by
  rw [List.take_add_one, hx, List.all_append, h]; simp [hp]
set_option maxHeartbeats 4000000 in
theorem few_any (n : Int) (a0 : Option Addr) (m c : Nat) (gens : List (List Int)) (W : World) (h0 : Rows W a0 m c gens) :
    Calls Try.prog 18 #[.int .i64 n, .slice a0 m c] W fun e w' => e = .returned (.bool (fewB n gens)) ∧ w' = W := by
  have hm0 := h0.mx
  have hc0 := h0.cap
  have hl0 := Lib.hid h0.len
  unfold maxLen at hm0
  go_enter Try.func18, Try.ntmps18
  go_wp2_with fail
  go_loop [5] (fun i => ∃ k : Nat, k ≤ m ∧ i = .int .i64 k ∧ Hid ((gens.take k).all (fun g => decide (g.length ≤ 24)) = true)) (fun i => m - (intOf i).toNat)
  case atStart => exact ⟨0, by omega, rfl, Lib.hid rfl⟩
  case round =>
    obtain ⟨k, hk, rfl, HA⟩ := hrel
    by_cases hlt : k < m
    · obtain ⟨b0, o0, rfl, _⟩ := h0.at' (by omega)
      obtain ⟨u, hu⟩ := h0.has hlt
      obtain ⟨ai, ni, ci, e0, hI0⟩ := h0.get hu
      have s0 : (0 : Int) ≤ (k : Int) := by omega
      have s1 : (k : Int) < (m : Int) := by omega
      have hn := hI0.len
      by_cases h24 : ni ≤ 24
      · have s2 : ¬ (24 : Int) < (ni : Int) := by omega
        have HP : Hid ((gens.take (k + 1)).all (fun g => decide (g.length ≤ 24)) = true) := Lib.hid (all_step HA.out hu (decide_eq_true (by rw [hn]; exact h24)))
        clear hu hn
        go_wp2_with fail
        go_round
        case rel => exact ⟨k + 1, by omega, by go_num, HP⟩
        case measure => simp [intOf]; omega
      · have s2 : (24 : Int) < (ni : Int) := by omega
        have HF : Hid (fewB n gens = false) := Lib.hid (by unfold fewB; rw [all_at hu (decide_eq_false (by rw [hn]; exact h24)), Bool.false_and])
        clear hu hn
        go_wp2_with fail
        go_ret
        exact ⟨ret_bool HF.out.symm, rfl⟩
    · obtain rfl : m = k := by omega
      have HF : Hid (fewB n gens = ((decide (n ≤ 16) || decide (256 < n)) && decide (m ≤ 6))) := Lib.hid (by
        have := HA.out
        rw [List.take_of_length_le (by rw [hl0.out]; omega)] at this
        unfold fewB; rw [this, hl0.out, Bool.true_and])
      by_cases c1 : n ≤ 16
      · go_wp2_with fail
        go_ret
        exact ⟨ret_bool (by rw [HF.out, decide_eq_true c1]; simp; omega), rfl⟩
      · by_cases c2 : 256 < n
        · go_wp2_with fail
          go_ret
          exact ⟨ret_bool (by rw [HF.out, decide_eq_true c2]; simp; omega), rfl⟩
        · go_wp2_with fail
          go_ret
          exact ⟨ret_bool (by rw [HF.out, decide_eq_false (show ¬ n ≤ 16 by omega), decide_eq_false (show ¬ 256 < n by omega)]; rfl), rfl⟩

def validE (n : Int) (gens : List (List Int)) : Int := if n < 0 ∨ 256 < n then 1 else if 1024 < gens.length then 2 else if gens.all (fun g => permB g n.toNat) then 0 else 110
set_option maxHeartbeats 4000000 in
theorem pcheck_any (n : Int) (a0 : Option Addr) (m c : Nat) (gens : List (List Int)) (W : World) (h0 : Rows W a0 m c gens) :
    Calls Try.prog 32 #[.int .i64 n, .slice a0 m c] W (RetB W (.int .i64 (validE n gens))) := by
  have hm0 := h0.mx
  have hc0 := h0.cap
  have hl0 := Lib.hid h0.len
  unfold maxLen at hm0
  by_cases h1 : n < 0
  · have HE : Hid (validE n gens = 1) := Lib.hid (by unfold validE; rw [if_pos (.inl h1)])
    go_enter Try.func32, Try.ntmps32
    go_wp2_with fail
    go_ret
    exact ⟨ret_int HE.out.symm, Below.refl _ _⟩
  · by_cases h2 : 256 < n
    · have HE : Hid (validE n gens = 1) := Lib.hid (by unfold validE; rw [if_pos (.inr h2)])
      go_enter Try.func32, Try.ntmps32
      go_wp2_with fail
      go_ret
      exact ⟨ret_int HE.out.symm, Below.refl _ _⟩
    · obtain ⟨N, rfl⟩ : ∃ N : Nat, n = (N : Int) := ⟨n.toNat, by omega⟩
      have hN : N ≤ 256 := by omega
      have hv : validE (N : Int) gens = if 1024 < m then 2 else if gens.all (fun g => permB g N) then 0 else 110 := by unfold validE; rw [if_neg (by omega), hl0.out]; simp
      by_cases h3 : 1024 < m
      · have s3 : (1024 : Int) < (m : Int) := by omega
        have HE : Hid (validE (N : Int) gens = 2) := Lib.hid (by rw [hv, if_pos h3])
        clear hv
        go_enter Try.func32, Try.ntmps32
        go_wp2_with fail
        go_ret
        exact ⟨ret_int HE.out.symm, Below.refl _ _⟩
      · have s3 : ¬ (1024 : Int) < (m : Int) := by omega
        have HE : Hid (validE (N : Int) gens = if gens.all (fun g => permB g N) then 0 else 110) := Lib.hid (by rw [hv, if_neg h3])
        clear hv
        go_enter Try.func32, Try.ntmps32
        go_wp2_with fail
        go_loopw [18] (fun i wr => ∃ k : Nat, k ≤ m ∧ i = .int .i64 k ∧ Hid ((gens.take k).all (fun g => permB g N) = true) ∧ Below W.heap.size W wr) (fun i _ => m - (intOf i).toNat)
        case atStart => exact ⟨0, by omega, rfl, Lib.hid rfl, Below.refl _ _⟩
        case round =>
          obtain ⟨k, hk, rfl, HA, hB⟩ := hrel
          by_cases hlt : k < m
          · obtain ⟨b0, o0, rfl, _⟩ := h0.at' (by omega)
            obtain ⟨u, hu⟩ := h0.has hlt
            obtain ⟨ai, ni, ci, e0, hI0⟩ := (h0.below hB).get hu
            have s0 : (0 : Int) ≤ (k : Int) := by omega
            have s1 : (k : Int) < (m : Int) := by omega
            have hP := permutes_any ai ni ci u N wr hI0 hN
            cases hb : permB u N
            · rw [hb] at hP
              have HF : Hid (validE (N : Int) gens = 110) := Lib.hid (by rw [HE.out, all_at hu hb]; rfl)
              clear hu hb
              go_wp2_with fail
              refine hP.mono ?_
              rintro e w1 ⟨rfl, hB1⟩
              clear hP
              go_wp2_with fail
              go_ret
              exact ⟨ret_int HF.out.symm, hB.on hB1⟩
            · rw [hb] at hP
              have HP : Hid ((gens.take (k + 1)).all (fun g => permB g N) = true) := Lib.hid (all_step HA.out hu hb)
              clear hu hb
              go_wp2_with fail
              refine hP.mono ?_
              rintro e w1 ⟨rfl, hB1⟩
              clear hP
              go_wp2_with fail
              go_roundw
              case rel => exact ⟨k + 1, by omega, by go_num, HP, hB.on hB1⟩
              case measure => simp [intOf]; omega
          · obtain rfl : m = k := by omega
            have HF : Hid (validE (N : Int) gens = 0) := Lib.hid (by
              have := HA.out
              rw [List.take_of_length_le (by rw [hl0.out]; omega)] at this
              rw [HE.out, this]; rfl)
            go_wp2_with fail
            go_ret
            exact ⟨ret_int HF.out.symm, hB⟩
set_option maxHeartbeats 4000000 in
theorem valid_any (n : Int) (a0 : Option Addr) (m c : Nat) (gens : List (List Int)) (W : World) (h0 : Rows W a0 m c gens) :
    Calls Try.prog 36 #[.int .i64 n, .slice a0 m c] W (RetB W (.int .i64 (validE n gens))) := by
  have hm0 := h0.mx
  have hc0 := h0.cap
  have hl0 := Lib.hid h0.len
  unfold maxLen at hm0
  by_cases h1 : n < 0
  · have HE : Hid (validE n gens = 1) := Lib.hid (by unfold validE; rw [if_pos (.inl h1)])
    go_enter Try.func36, Try.ntmps36
    go_wp2_with fail
    go_ret
    exact ⟨ret_int HE.out.symm, Below.refl _ _⟩
  · by_cases h2 : 256 < n
    · have HE : Hid (validE n gens = 1) := Lib.hid (by unfold validE; rw [if_pos (.inr h2)])
      go_enter Try.func36, Try.ntmps36
      go_wp2_with fail
      go_ret
      exact ⟨ret_int HE.out.symm, Below.refl _ _⟩
    · obtain ⟨N, rfl⟩ : ∃ N : Nat, n = (N : Int) := ⟨n.toNat, by omega⟩
      have hN : N ≤ 256 := by omega
      have hv : validE (N : Int) gens = if 1024 < m then 2 else if gens.all (fun g => permB g N) then 0 else 110 := by unfold validE; rw [if_neg (by omega), hl0.out]; simp
      by_cases h3 : 1024 < m
      · have s3 : (1024 : Int) < (m : Int) := by omega
        have HE : Hid (validE (N : Int) gens = 2) := Lib.hid (by rw [hv, if_pos h3])
        clear hv
        go_enter Try.func36, Try.ntmps36
        go_wp2_with fail
        go_ret
        exact ⟨ret_int HE.out.symm, Below.refl _ _⟩
      · have s3 : ¬ (1024 : Int) < (m : Int) := by omega
        have HE : Hid (validE (N : Int) gens = if gens.all (fun g => permB g N) then 0 else 110) := Lib.hid (by rw [hv, if_neg h3])
        clear hv
        go_enter Try.func36, Try.ntmps36
        go_wp2_with fail
        go_loopw [5] (fun i wr => ∃ k : Nat, k ≤ m ∧ i = .int .i64 k ∧ Hid ((gens.take k).all (fun g => permB g N) = true) ∧ Below W.heap.size W wr) (fun i _ => m - (intOf i).toNat)
        case atStart => exact ⟨0, by omega, rfl, Lib.hid rfl, Below.refl _ _⟩
        case round =>
          obtain ⟨k, hk, rfl, HA, hB⟩ := hrel
          by_cases hlt : k < m
          · obtain ⟨b0, o0, rfl, _⟩ := h0.at' (by omega)
            obtain ⟨u, hu⟩ := h0.has hlt
            obtain ⟨ai, ni, ci, e0, hI0⟩ := (h0.below hB).get hu
            have s0 : (0 : Int) ≤ (k : Int) := by omega
            have s1 : (k : Int) < (m : Int) := by omega
            have hP := is_any ai ni ci u N wr hI0 hN
            cases hb : permB u N
            · rw [hb] at hP
              have HF : Hid (validE (N : Int) gens = 110) := Lib.hid (by rw [HE.out, all_at hu hb]; rfl)
              clear hu hb
              go_wp2_with fail
              refine hP.mono ?_
              rintro e w1 ⟨rfl, hB1⟩
              clear hP
              go_wp2_with fail
              go_ret
              exact ⟨ret_int HF.out.symm, hB.on hB1⟩
            · rw [hb] at hP
              have HP : Hid ((gens.take (k + 1)).all (fun g => permB g N) = true) := Lib.hid (all_step HA.out hu hb)
              clear hu hb
              go_wp2_with fail
              refine hP.mono ?_
              rintro e w1 ⟨rfl, hB1⟩
              clear hP
              go_wp2_with fail
              go_roundw
              case rel => exact ⟨k + 1, by omega, by go_num, HP, hB.on hB1⟩
              case measure => simp [intOf]; omega
          · obtain rfl : m = k := by omega
            have HF : Hid (validE (N : Int) gens = 0) := Lib.hid (by
              have := HA.out
              rw [List.take_of_length_le (by rw [hl0.out]; omega)] at this
              rw [HE.out, this]; rfl)
            go_wp2_with fail
            go_ret
            exact ⟨ret_int HF.out.symm, hB⟩
end Go.Proofs.Ytkekkbbdhdamjaa
