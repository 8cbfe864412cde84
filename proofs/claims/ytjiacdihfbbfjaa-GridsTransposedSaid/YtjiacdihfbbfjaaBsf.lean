/- Contract of slices.BinarySearchFunc at slices of ints compared by moves.order. -/
import Derived.Test.YtjiacdihfbbfjaaCmp
import Derived.WalkKit
import Derived.WalkSpells
import Derived.WalkLawsBesides
import Derived.Deep.LoopGhost
import Derived.Deep.QuietTactic
import Derived.BigQuiet
import Derived.StillTailTactics
import Derived.Lib.Hide
import Derived.Outline
import Derived.Lib.QuietBelow
namespace Go.Proofs.Ytjiacdihfbbfjaa
open Go.RowKit

theorem lessL_trans : ∀ {x y z : List Int}, lessL x y = true → lessL y z = true → lessL x z = true
  | [], [], _, h, _ => by simp [lessL] at h
  | [], _ :: _, [], _, h => by simp [lessL] at h
  | [], _ :: _, _ :: _, _, _ => rfl
  | _ :: _, [], _, h, _ => by simp [lessL] at h
  | _ :: _, _ :: _, [], _, h => by simp [lessL] at h
  | a :: x, b :: y, c :: z, h1, h2 => by
    simp only [lessL] at *
    by_cases hab : a = b
    · subst hab
      rw [if_pos rfl] at h1
      by_cases hac : a = c
      · subst hac; rw [if_pos rfl] at *; exact lessL_trans h1 h2
      · rw [if_neg hac] at *; exact h2
    · rw [if_neg hab] at h1
      by_cases hbc : b = c
      · subst hbc; rw [if_neg hab]; exact h1
      · rw [if_neg hbc] at h2
        simp at h1 h2
        rw [if_neg (by omega)]; simp; omega
/-- Strictly increasing. -/
def incrLL (l : List (List Int)) : Prop := l.Pairwise fun x y => lessL x y = true
/-- Where p is, or would be. -/
def posL (l : List (List Int)) (p : List Int) : Nat := (l.takeWhile fun x => lessL x p).length
def foundL (l : List (List Int)) (p : List Int) : Bool := decide (posL l p < l.length) && eqL (l[posL l p]?.getD []) p
theorem posL_le (l : List (List Int)) (p : List Int) : posL l p ≤ l.length := by
  unfold posL; exact (List.takeWhile_sublist _).length_le
theorem posL_eq : ∀ {l : List (List Int)} {p : List Int} {k : Nat}, k ≤ l.length → (∀ j, j < k → lessL (l[j]?.getD []) p = true) → (k < l.length → lessL (l[k]?.getD []) p = false) → posL l p = k
  | [], p, k, h, _, _ => by simp at h; subst h; rfl
  | x :: l, p, 0, _, _, h3 => by
    have := h3 (by simp); simp at this
    unfold posL; rw [List.takeWhile_cons]; simp [this]
  | x :: l, p, k + 1, h1, h2, h3 => by
    have h0 := h2 0 (by omega); simp at h0
    have ih := posL_eq (l := l) (p := p) (k := k) (by simpa using h1) (fun j hj => by have := h2 (j + 1) (by omega); simpa using this) (fun h => by have := h3 (by simpa using h); simpa using this)
    unfold posL at *
    rw [List.takeWhile_cons, h0]
    simp [ih]
theorem incr_below {l : List (List Int)} (hs : incrLL l) {p : List Int} {m : Nat} (hm : m < l.length) (h : lessL (l[m]?.getD []) p = true) : ∀ j, j < m + 1 → lessL (l[j]?.getD []) p = true := by
  intro j hj
  by_cases e : j = m
  · subst e; exact h
  · have := List.pairwise_iff_getElem.1 hs j m (by omega) hm (by omega)
    rw [List.getElem?_eq_getElem hm] at h
    rw [List.getElem?_eq_getElem (by omega : j < l.length)]
    exact lessL_trans this h

set_option maxRecDepth 10000 in
set_option maxHeartbeats 2000000 in
theorem bsf_any (a0 a1 : Option Addr) (n0 c0 n1 c1 : Nat) (l : List (List Int)) (p : List Int) (w : World) (h0 : Rows w a0 n0 c0 l) (h1 : Ints w a1 n1 c1 p) (hs : incrLL l) (hn : n0 ≤ 1000000) :
    Calls Try.prog 59 #[.slice a0 n0 c0, .slice a1 n1 c1, .func (.func 60) #[] #[]] w fun e w' => e = .returned (.tuple #[.int .i64 (posL l p), .bool (foundL l p)]) ∧ ∃ k, w' = w.drewN k := by
  have hl0 := Lib.hid h0.len
  have HS := Lib.hid hs
  clear hs
  go_enter Try.func59, Try.ntmps59
  go_wp2_with fail
  go_loopw [9, 10, 11] (fun i j _ wr => ∃ lo hi : Nat, lo ≤ hi ∧ hi ≤ n0 ∧ i = .int .i64 lo ∧ j = .int .i64 hi ∧ Hid (∀ t, t < lo → lessL (l[t]?.getD []) p = true) ∧ Hid (hi < n0 → lessL (l[hi]?.getD []) p = false) ∧ ∃ m, wr = w.drewN m) (fun i j _ _ => (intOf j).toNat - (intOf i).toNat)
  case atStart => exact ⟨0, n0, by omega, by omega, rfl, rfl, Lib.hid (fun t h => by omega), Lib.hid (fun h => by omega), 0, rfl⟩
  case round =>
    obtain ⟨lo, hi, hlh, hhn, rfl, rfl, HA, HB, m, rfl⟩ := hrel
    by_cases hlt : lo < hi
    · obtain ⟨b0, o0, rfl, hb0⟩ := h0.at' (by omega)
      obtain ⟨ai, ni, ci, e0, hI⟩ := h0.row _ _ rfl ((lo + hi) / 2) (by omega)
      cases hb : lessL (l[(lo + hi) / 2]?.getD []) p
      · have hge : ¬ cmpL (l[(lo + hi) / 2]?.getD []) p < 0 := by rw [cmpL_less, hb]; simp
        have HH := Lib.hid hb
        clear hb
        go_wp2_with (go_at_call 60; refine (order_any _ _ _ _ _ _ (l[(lo + hi) / 2]?.getD []) p _ (by first | exact hI | exact hI.drewN _ | exact (hI.drewN _).drewN _ | exact hI.below (by assumption)) (by first | exact h1 | exact h1.drewN _ | exact (h1.drewN _).drewN _ | exact h1.below (by assumption))).mono ?_; rintro e w' ⟨rfl, q, rfl⟩)
        go_roundw
        case rel => exact ⟨lo, (lo + hi) / 2, by omega, by omega, by go_num, by go_num, HA, Lib.hid (fun _ => HH.out), (by first | exact ⟨_, rfl⟩ | exact ⟨_, World.drewN_drewN⟩ | exact ⟨0, rfl⟩ | exact ⟨_, by simp only [World.drewN_drewN]; rfl⟩)⟩
        case measure => simp [intOf]; omega
      · have hge : cmpL (l[(lo + hi) / 2]?.getD []) p < 0 := by rw [cmpL_less, hb]
        have HH := Lib.hid hb
        clear hb
        go_wp2_with (go_at_call 60; refine (order_any _ _ _ _ _ _ (l[(lo + hi) / 2]?.getD []) p _ (by first | exact hI | exact hI.drewN _ | exact (hI.drewN _).drewN _ | exact hI.below (by assumption)) (by first | exact h1 | exact h1.drewN _ | exact (h1.drewN _).drewN _ | exact h1.below (by assumption))).mono ?_; rintro e w' ⟨rfl, q, rfl⟩)
        go_roundw
        case rel => exact ⟨(lo + hi) / 2 + 1, hi, by omega, by omega, by go_num, by go_num, Lib.hid (incr_below HS.out (by rw [hl0.out]; omega) HH.out), HB, (by first | exact ⟨_, rfl⟩ | exact ⟨_, World.drewN_drewN⟩ | exact ⟨0, rfl⟩ | exact ⟨_, by simp only [World.drewN_drewN]; rfl⟩)⟩
        case measure => simp [intOf]; omega
    · obtain rfl : lo = hi := by omega
      have HP := Lib.hid (posL_eq (l := l) (p := p) (k := lo) (by rw [hl0.out]; omega) HA.out (by rw [hl0.out]; exact HB.out))
      have HF := Lib.hid (show foundL l p = (decide (lo < n0) && eqL (l[lo]?.getD []) p) by unfold foundL; rw [HP.out, hl0.out])
      by_cases hln : lo < n0
      · obtain ⟨b0, o0, rfl, hb0⟩ := h0.at' (by omega)
        obtain ⟨ai, ni, ci, e0, hI⟩ := h0.row _ _ rfl lo (by omega)
        cases hb : eqL (l[lo]?.getD []) p
        · have HH := Lib.hid hb
          have hne : (cmpL (l[lo]?.getD []) p == 0) = false := by rw [beq_eq_false_iff_ne]; intro e; rw [cmpL_eq] at e; unfold eqL at hb; simp [e] at hb
          clear hb
          go_wp2_with (go_at_call 60; refine (order_any _ _ _ _ _ _ (l[lo]?.getD []) p _ (by first | exact hI | exact hI.drewN _ | exact (hI.drewN _).drewN _ | exact hI.below (by assumption)) (by first | exact h1 | exact h1.drewN _ | exact (h1.drewN _).drewN _ | exact h1.below (by assumption))).mono ?_; rintro e w' ⟨rfl, q, rfl⟩)
          go_ret2
          refine ⟨?_, (by first | exact ⟨_, rfl⟩ | exact ⟨_, World.drewN_drewN⟩ | exact ⟨0, rfl⟩ | exact ⟨_, by simp only [World.drewN_drewN]; rfl⟩)⟩
          rw [HP.out, HF.out, HH.out]; simp
        · have HH := Lib.hid hb
          have hne : (cmpL (l[lo]?.getD []) p == 0) = true := by rw [beq_iff_eq, cmpL_eq]; unfold eqL at hb; simpa using hb
          clear hb
          go_wp2_with (go_at_call 60; refine (order_any _ _ _ _ _ _ (l[lo]?.getD []) p _ (by first | exact hI | exact hI.drewN _ | exact (hI.drewN _).drewN _ | exact hI.below (by assumption)) (by first | exact h1 | exact h1.drewN _ | exact (h1.drewN _).drewN _ | exact h1.below (by assumption))).mono ?_; rintro e w' ⟨rfl, q, rfl⟩)
          go_ret2
          refine ⟨?_, (by first | exact ⟨_, rfl⟩ | exact ⟨_, World.drewN_drewN⟩ | exact ⟨0, rfl⟩ | exact ⟨_, by simp only [World.drewN_drewN]; rfl⟩)⟩
          rw [HP.out, HF.out, HH.out]; simp [hln]
      · go_wp2_with fail
        go_ret2
        refine ⟨?_, (by first | exact ⟨_, rfl⟩ | exact ⟨_, World.drewN_drewN⟩ | exact ⟨0, rfl⟩ | exact ⟨_, by simp only [World.drewN_drewN]; rfl⟩)⟩
        rw [HP.out, HF.out]; simp [hln]
end Go.Proofs.Ytjiacdihfbbfjaa
