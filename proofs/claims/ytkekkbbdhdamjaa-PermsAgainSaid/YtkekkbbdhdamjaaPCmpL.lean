/- Contracts of cmp.Compare and slices.Compare on ints, and of slices.SortFunc on lists of ints. -/
import Derived.Test.YtkekkbbdhdamjaaPSrt
import Derived.WalkKit
import Derived.WalkSpells
import Derived.WalkLawsBesides
import Derived.Deep.LoopGhost
import Derived.Deep.QuietTactic
import Derived.BigQuiet
import Derived.StillTailTactics
import Derived.Lib.Hide
import Derived.Outline
import Derived.Lib.QuietBelow
namespace Go.Proofs.Ytkekkbbdhdamjaa
open Go.RowKit Go.Shelf

def cmpI (a b : Int) : Int := if a < b then -1 else if b < a then 1 else 0
theorem compareI_any (x y : Int) (W : World) : Calls Try.prog 41 #[.int .i64 x, .int .i64 y] W fun e w' => e = .returned (.int .i64 (cmpI x y)) ∧ w' = W := by
  unfold cmpI
  by_cases h1 : x < y
  · rw [if_pos h1]
    go_enter Try.func41, Try.ntmps41
    go_wp2
    go_ret
    exact ⟨rfl, rfl⟩
  · rw [if_neg h1]
    by_cases h2 : y < x
    · rw [if_pos h2]
      go_enter Try.func41, Try.ntmps41
      go_wp2
      go_ret
      exact ⟨rfl, rfl⟩
    · rw [if_neg h2]
      go_enter Try.func41, Try.ntmps41
      go_wp2
      go_ret
      exact ⟨rfl, rfl⟩

set_option maxHeartbeats 4000000 in
theorem compare_any (a0 a1 : Option Addr) (m c n d : Nat) (a b : List Int) (W : World) (h0 : Ints W a0 m c a) (h1 : Ints W a1 n d b) :
    Calls Try.prog 35 #[.slice a0 m c, .slice a1 n d] W fun e w' => e = .returned (.int .i64 (ordL a b)) ∧ w' = W := by
  have HL0 := Lib.hid h0.len
  have HL1 := Lib.hid h1.len
  have hm0 := h0.mx
  have hc0 := h0.cap
  have hm1 := h1.mx
  have hc1 := h1.cap
  unfold maxLen at hm0 hm1
  go_enter Try.func35, Try.ntmps35
  go_wp2_with fail
  go_loop [11] (fun i => ∃ k : Nat, i = .int .i64 k ∧ k ≤ m ∧ k ≤ n ∧ Hid (ordL a b = ordL (a.drop k) (b.drop k))) (fun i => m - (intOf i).toNat)
  case atStart => exact ⟨0, rfl, by omega, by omega, Lib.hid rfl⟩
  case round =>
    obtain ⟨k, rfl, hk, hkn, HO⟩ := hrel
    by_cases hlt : k < m
    · have s0 : (0 : Int) ≤ (k : Int) := by omega
      have s1 : (k : Int) < (m : Int) := by omega
      obtain ⟨b0, o0, rfl, hb0⟩ := h0.at' (by omega)
      obtain ⟨x, hx⟩ := h0.has hlt
      have e0 := h0.get hx
      by_cases hln : k < n
      · have s2 : (k : Int) < (n : Int) := by omega
        obtain ⟨b1, o1, rfl, hb1⟩ := h1.at' (by omega)
        obtain ⟨y, hy⟩ := h1.has hln
        have e1 := h1.get hy
        have hst := ordL_step hx hy
        have hcc := compareI_any x y W
        unfold cmpI at hcc
        by_cases c1 : x < y
        · rw [if_pos c1] at hst hcc
          have HR : Hid (ordL a b = -1) := Lib.hid (by rw [HO.out, hst])
          clear hst hx hy c1
          go_wp2_with fail
          refine hcc.mono ?_
          rintro e w' ⟨rfl, rfl⟩
          clear hcc
          go_wp2_with fail
          go_ret
          exact ⟨ret_int HR.out.symm, rfl⟩
        · rw [if_neg c1] at hst hcc
          by_cases c2 : y < x
          · rw [if_pos c2] at hst hcc
            have HR : Hid (ordL a b = 1) := Lib.hid (by rw [HO.out, hst])
            clear hst hx hy c1 c2
            go_wp2_with fail
            refine hcc.mono ?_
            rintro e w' ⟨rfl, rfl⟩
            clear hcc
            go_wp2_with fail
            go_ret
            exact ⟨ret_int HR.out.symm, rfl⟩
          · rw [if_neg c2] at hst hcc
            have HR : Hid (ordL a b = ordL (a.drop (k + 1)) (b.drop (k + 1))) := Lib.hid (by rw [HO.out, hst])
            clear hst hx hy c1 c2
            go_wp2_with fail
            refine hcc.mono ?_
            rintro e w' ⟨rfl, rfl⟩
            clear hcc
            go_wp2_with fail
            go_round
            case rel => exact ⟨k + 1, by go_num, by omega, by omega, HR⟩
            case measure => simp [intOf]; omega
      · have HR : Hid (ordL a b = 1) := Lib.hid (by rw [HO.out, ordL_endB (by rw [HL1.out]; omega) (by rw [HL0.out]; omega)])
        have s3 : (n : Int) ≤ (k : Int) := by omega
        clear hx
        go_wp2_with fail
        go_ret
        exact ⟨ret_int HR.out.symm, rfl⟩
    · obtain rfl : m = k := by omega
      have hen := ordL_endA (b := b) HL0.out
      rw [HL1.out] at hen
      by_cases hln : m < n
      · rw [if_pos hln] at hen
        have HR : Hid (ordL a b = -1) := Lib.hid (by rw [HO.out, hen])
        have s3 : (m : Int) < (n : Int) := by omega
        clear hen
        go_wp2_with fail
        go_ret
        exact ⟨ret_int HR.out.symm, rfl⟩
      · rw [if_neg hln] at hen
        have HR : Hid (ordL a b = 0) := Lib.hid (by rw [HO.out, hen])
        have s3 : ¬ (m : Int) < (n : Int) := by omega
        clear hen
        go_wp2_with fail
        go_ret
        exact ⟨ret_int HR.out.symm, rfl⟩

/-! ### the sort -/
section
variable {n : Nat} (f : Fin n → List Int)
def cfF (i j : Fin n) : Int := ordL (f i) (f j)
theorem ltOf_cfF (i j : Fin n) : ltOf (cfF f) i j = ltP (f i) (f j) := rfl
theorem swo_cfF : Sort.SWO (ltOf (cfF f)) := by
  refine ⟨fun x => ltP_irrefl _, fun x y z h1 h2 => ltP_trans h1 h2, fun x y z h1 h2 => ?_⟩
  rw [ltOf_cfF] at *
  cases e : ltP (f x) (f z)
  · rfl
  · exfalso
    -- f y is not above f x and not below: by the order's totality
    cases e1 : ltP (f y) (f x)
    · have := ltP_tri h1 e1
      rw [this] at e; rw [e] at h2; cases h2
    · have := ltP_trans e1 e
      rw [this] at h2; cases h2
end
end Go.Proofs.Ytkekkbbdhdamjaa
