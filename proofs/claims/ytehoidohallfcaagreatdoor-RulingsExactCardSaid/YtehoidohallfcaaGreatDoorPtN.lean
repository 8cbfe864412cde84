/- Contracts of the operations of points.Run. -/
import Derived.Test.YtehoidohallfcaaGreatDoorRkC
import Derived.WalkKit
import Derived.WalkSpells
import Derived.WalkLawsBesides
import Derived.Deep.LoopGhost
import Derived.Deep.QuietTactic
import Derived.BigQuiet
import Derived.StillTailTactics
import Derived.Lib.Hide
import Derived.Outline
import Derived.Lib.QuietBelow
namespace Go.Proofs.YtehoidohallfcaaGreatDoor
open Go.RowKit

def Int1 (n : Int) (W : World) (e : Ending) (w' : World) : Prop := e = .returned (.int .i64 n) ∧ W = w'
theorem int1 {a b : Int} {W : World} (h : a = b) : Int1 b W (.returned (.int .i64 a)) W := ⟨by rw [h], rfl⟩
theorem hold_any (n : Int) (W : World) : Calls Tryz.prog 90 #[.int .i64 n] W (Int1 (holdI n) W) := by
  have HE : Hid (holdI n = max (-1099511627776) (min 1099511627776 n)) := Lib.hid rfl
  go_enter Tryz.func90, Tryz.ntmps90
  go_wp2_with fail
  all_goals
    go_ret
    exact int1 (by rw [HE.out]; omega)
theorem less_run (a b : Int) (W : World) : Calls Tryz.prog 96 #[.int .i64 a, .int .i64 b] W (Int1 (opI 9 a b) W) := by
  have HE : Hid (opI 9 a b = if a < b then 1 else 0) := Lib.hid rfl
  by_cases h : a < b
  · go_enter Tryz.func96, Tryz.ntmps96
    go_wp2_with fail
    go_ret
    exact int1 (by rw [HE.out, if_pos h])
  · go_enter Tryz.func96, Tryz.ntmps96
    go_wp2_with fail
    go_ret
    exact int1 (by rw [HE.out, if_neg (Int.not_lt.2 h)])
theorem wrong_any (x : Int) (W : World) : Calls Tryz.prog 88 #[.int .i64 x] W fun e w' => RetB W (.bool (decide (x < 0) || decide (1048576 < x))) e w' := by
  by_cases h : x < 0
  · go_enter Tryz.func88, Tryz.ntmps88
    go_wp2_with fail
    go_ret
    exact ⟨by simp [h], Below.refl _ _⟩
  · have h' : decide (x < 0) = false := decide_eq_false h
    go_enter Tryz.func88, Tryz.ntmps88
    go_wp2_with fail
    all_goals
      go_ret
      exact ⟨by simp [*], Below.refl _ _⟩
def BdX (a : Int) : Prop := -topI ≤ a ∧ a ≤ topI
theorem add_run (a b : Int) (W : World) (ha : BdX a) (hb : BdX b) : Calls Tryz.prog 89 #[.int .i64 a, .int .i64 b] W (Int1 (opI 3 a b) W) := by
  have hw : IntKind.i64.wrap (a + b) = a + b := by rw [IntKind.wrap_i64]; unfold BdX topI at ha hb; omega
  have HE : Hid (opI 3 a b = holdI (a + b)) := Lib.hid rfl
  clear ha hb
  go_enter Tryz.func89, Tryz.ntmps89
  go_wp2_with fail
  refine (hold_any _ _).mono ?_
  rintro e w' ⟨rfl, rfl⟩
  go_wp2_with fail
  go_ret
  exact int1 (by rw [HE.out])
theorem sub_run (a b : Int) (W : World) (ha : BdX a) (hb : BdX b) : Calls Tryz.prog 91 #[.int .i64 a, .int .i64 b] W (Int1 (opI 4 a b) W) := by
  have hw : IntKind.i64.wrap (a - b) = a - b := by rw [IntKind.wrap_i64]; unfold BdX topI at ha hb; omega
  have HE : Hid (opI 4 a b = holdI (a - b)) := Lib.hid rfl
  clear ha hb
  go_enter Tryz.func91, Tryz.ntmps91
  go_wp2_with fail
  refine (hold_any _ _).mono ?_
  rintro e w' ⟨rfl, rfl⟩
  go_wp2_with fail
  go_ret
  exact int1 (by rw [HE.out])
theorem min_run (a b : Int) (W : World) : Calls Tryz.prog 94 #[.int .i64 a, .int .i64 b] W (Int1 (opI 7 a b) W) := by
  have HE : Hid (opI 7 a b = min a b) := Lib.hid rfl
  go_enter Tryz.func94, Tryz.ntmps94
  go_wp2_with fail
  all_goals
    go_ret
    exact int1 (by rw [HE.out]; omega)
theorem max_run (a b : Int) (W : World) : Calls Tryz.prog 95 #[.int .i64 a, .int .i64 b] W (Int1 (opI 8 a b) W) := by
  have HE : Hid (opI 8 a b = max a b) := Lib.hid rfl
  go_enter Tryz.func95, Tryz.ntmps95
  go_wp2_with fail
  all_goals
    go_ret
    exact int1 (by rw [HE.out]; omega)
theorem over_run (a b : Int) (W : World) (ha : BdX a) (hb : BdX b) : Calls Tryz.prog 93 #[.int .i64 a, .int .i64 b] W (Int1 (opI 6 a b) W) := by
  have HE : Hid (opI 6 a b = overI a b) := Lib.hid rfl
  by_cases h0 : b = 0
  · subst h0
    have HV : Hid (overI a 0 = 0) := Lib.hid rfl
    clear ha hb
    go_enter Tryz.func93, Tryz.ntmps93
    go_wp2_with fail
    go_ret
    exact int1 (by rw [HE.out, HV.out])
  have n0 : (b == 0) = false := by simpa using h0
  have h1 : (a.tdiv b).natAbs ≤ a.natAbs := by rw [Int.natAbs_tdiv]; exact Nat.div_le_self _ _
  have h2 : (a.tmod b).natAbs ≤ a.natAbs := by rw [Int.natAbs_tmod]; exact Nat.mod_le _ _
  have hw1 : IntKind.i64.wrap (a.tdiv b) = a.tdiv b := by rw [IntKind.wrap_i64]; unfold BdX topI at ha hb; omega
  have hw2 : IntKind.i64.wrap (a.tmod b) = a.tmod b := by rw [IntKind.wrap_i64]; unfold BdX topI at ha hb; omega
  have hw3 : IntKind.i64.wrap (a.tdiv b - 1) = a.tdiv b - 1 := by rw [IntKind.wrap_i64]; unfold BdX topI at ha hb; omega
  have HV : Hid (overI a b = if a.tmod b ≠ 0 ∧ decide (a < 0) ≠ decide (b < 0) then a.tdiv b - 1 else a.tdiv b) := Lib.hid (by unfold overI; rw [if_neg h0])
  clear h1 h2 ha hb
  by_cases m0 : a.tmod b = 0
  · have n1 : (a.tmod b != 0) = false := by simpa using m0
    have HV2 : Hid (overI a b = a.tdiv b) := Lib.hid (by rw [HV.out, if_neg (fun h => h.1 m0)])
    clear HV
    go_enter Tryz.func93, Tryz.ntmps93
    go_wp2_with fail
    go_ret
    exact int1 (by rw [HE.out, HV2.out])
  · have n1 : (a.tmod b != 0) = true := by simpa using m0
    have HM := Lib.hid m0
    cases sa : decide (a < 0) <;> cases sb : decide (b < 0)
    · have ga : decide (a < 0) = false := sa
      have gb : decide (b < 0) = false := sb
      have HV2 : Hid (overI a b = a.tdiv b) := Lib.hid (by rw [HV.out]; simp [m0, sa, sb])
      clear HV m0 sa sb
      go_enter Tryz.func93, Tryz.ntmps93
      go_wp2_with fail
      
      go_ret
      exact int1 (by rw [HE.out, HV2.out])
    · have ga : decide (a < 0) = false := sa
      have gb : decide (b < 0) = true := sb
      have HV2 : Hid (overI a b = a.tdiv b - 1) := Lib.hid (by rw [HV.out]; simp [m0, sa, sb])
      clear HV m0 sa sb
      go_enter Tryz.func93, Tryz.ntmps93
      go_wp2_with fail
      
      go_ret
      exact int1 (by rw [HE.out, HV2.out])
    · have ga : decide (a < 0) = true := sa
      have gb : decide (b < 0) = false := sb
      have HV2 : Hid (overI a b = a.tdiv b - 1) := Lib.hid (by rw [HV.out]; simp [m0, sa, sb])
      clear HV m0 sa sb
      go_enter Tryz.func93, Tryz.ntmps93
      go_wp2_with fail
      
      go_ret
      exact int1 (by rw [HE.out, HV2.out])
    · have ga : decide (a < 0) = true := sa
      have gb : decide (b < 0) = true := sb
      have HV2 : Hid (overI a b = a.tdiv b) := Lib.hid (by rw [HV.out]; simp [m0, sa, sb])
      clear HV m0 sa sb
      go_enter Tryz.func93, Tryz.ntmps93
      go_wp2_with fail
      
      go_ret
      exact int1 (by rw [HE.out, HV2.out])
theorem times_run (a b : Int) (W : World) (ha : BdX a) (hb : BdX b) : Calls Tryz.prog 92 #[.int .i64 a, .int .i64 b] W (Int1 (opI 5 a b) W) := by
  have HE : Hid (opI 5 a b = timesI a b) := Lib.hid rfl
  have hna : IntKind.i64.wrap (-a) = -a := by rw [IntKind.wrap_i64]; unfold BdX topI at ha hb; omega
  have hnb : IntKind.i64.wrap (-b) = -b := by rw [IntKind.wrap_i64]; unfold BdX topI at ha hb; omega
  by_cases h0 : b = 0
  · subst h0
    have HV : Hid (timesI a 0 = 0) := Lib.hid (by unfold timesI; simp)
    have hm : a * 0 = 0 := Int.mul_zero a
    have hz : IntKind.i64.wrap 0 = 0 := by rw [IntKind.wrap_i64]; omega
    clear ha hb
    go_enter Tryz.func92, Tryz.ntmps92
    go_wp2_with fail
    go_ret
    exact int1 (by rw [HE.out, HV.out])
  have n0 : (b != 0) = true := by simpa using h0
  have hqn : (Int.tdiv 1099511627776 b).natAbs ≤ 1099511627776 := by rw [Int.natAbs_tdiv]; exact Nat.div_le_self _ _
  have HQ : Hid (IntKind.i64.wrap (Int.tdiv 1099511627776 b) = Int.tdiv 1099511627776 b) := Lib.hid (by rw [IntKind.wrap_i64]; omega)
  have HQN : Hid (IntKind.i64.wrap (-Int.tdiv 1099511627776 b) = -Int.tdiv 1099511627776 b) := Lib.hid (by rw [IntKind.wrap_i64]; omega)
  have HD : Hid ((1099511627776 : Int) / max b (-b) = Int.tdiv 1099511627776 (max b (-b))) := Lib.hid (Int.tdiv_eq_ediv_of_nonneg (by omega)).symm
  clear hqn
  have HM : Hid (¬ (topI / max b (-b) < max a (-a)) → IntKind.i64.wrap (a * b) = a * b) := Lib.hid fun h => by
    have h2 := times_bd ha hb
    unfold timesI at h2
    rw [if_neg (fun h3 => h h3.2)] at h2
    rw [IntKind.wrap_i64]; unfold topI at h2; omega
  have HV : Hid (timesI a b = if topI / max b (-b) < max a (-a) then (if decide (a < 0) ≠ decide (b < 0) then -topI else topI) else a * b) := Lib.hid (by unfold timesI; simp only [h0, ne_eq, not_false_eq_true, true_and])
  have HT : Hid (topI = 1099511627776) := Lib.hid rfl
  have HA := Lib.hid ha
  have HB := Lib.hid hb
  clear ha hb
  by_cases sa : a < 0 <;> by_cases sb : b < 0
  · have ga : decide (a < 0) = true := by simpa using sa
    have gb : decide (b < 0) = true := by simpa using sb
    have ma : a < -a := by omega
    have mb : b < -b := by omega
    have hwq := HQN.out
    have HEA : Hid (max a (-a) = -a) := Lib.hid (by omega)
    have HEB : Hid (max b (-b) = -b) := Lib.hid (by omega)
    have HTT : Hid ((topI / max b (-b) < max a (-a)) = (a < Int.tdiv 1099511627776 b)) := Lib.hid (by rw [HT.out, HD.out, HEA.out, HEB.out]; (try rw [Int.tdiv_neg]); all_goals exact propext ⟨fun h => by omega, fun h => by omega⟩)
    cases t0 : decide (a < Int.tdiv 1099511627776 b)
    · have HR : Hid (timesI a b = a * b) := Lib.hid (by rw [HV.out, if_neg]; rw [HTT.out]; simpa using t0)
      have hwm : IntKind.i64.wrap (a * b) = a * b := HM.out (by rw [HTT.out]; simpa using t0)
      have t1 : decide (a < Int.tdiv 1099511627776 b) = false := t0
      clear t0 HM HV sa sb
      go_enter Tryz.func92, Tryz.ntmps92
      go_wp2_with fail
      go_ret
      exact int1 (by rw [HE.out, HR.out])
    · have HR : Hid (timesI a b = 1099511627776) := Lib.hid (by rw [HV.out, if_pos (by rw [HTT.out]; simpa using t0), ga, gb]; rfl)
      have t1 : decide (a < Int.tdiv 1099511627776 b) = true := t0
      clear t0 HM HV sa sb
      go_enter Tryz.func92, Tryz.ntmps92
      go_wp2_with fail
      go_ret
      exact int1 (by rw [HE.out, HR.out])
  · have ga : decide (a < 0) = true := by simpa using sa
    have gb : decide (b < 0) = false := by simpa using sb
    have ma : a < -a := by omega
    have mb : -b ≤ b := by omega
    have hwq := HQ.out
    have HEA : Hid (max a (-a) = -a) := Lib.hid (by omega)
    have HEB : Hid (max b (-b) = b) := Lib.hid (by omega)
    have HTT : Hid ((topI / max b (-b) < max a (-a)) = (Int.tdiv 1099511627776 b < -a)) := Lib.hid (by rw [HT.out, HD.out, HEA.out, HEB.out]; (try rw [Int.tdiv_neg]); all_goals exact propext ⟨fun h => by omega, fun h => by omega⟩)
    cases t0 : decide (Int.tdiv 1099511627776 b < -a)
    · have HR : Hid (timesI a b = a * b) := Lib.hid (by rw [HV.out, if_neg]; rw [HTT.out]; simpa using t0)
      have hwm : IntKind.i64.wrap (a * b) = a * b := HM.out (by rw [HTT.out]; simpa using t0)
      have t1 : decide (Int.tdiv 1099511627776 b < -a) = false := t0
      clear t0 HM HV sa sb
      go_enter Tryz.func92, Tryz.ntmps92
      go_wp2_with fail
      go_ret
      exact int1 (by rw [HE.out, HR.out])
    · have HR : Hid (timesI a b = -1099511627776) := Lib.hid (by rw [HV.out, if_pos (by rw [HTT.out]; simpa using t0), ga, gb]; rfl)
      have t1 : decide (Int.tdiv 1099511627776 b < -a) = true := t0
      clear t0 HM HV sa sb
      go_enter Tryz.func92, Tryz.ntmps92
      go_wp2_with fail
      go_ret
      exact int1 (by rw [HE.out, HR.out])
  · have ga : decide (a < 0) = false := by simpa using sa
    have gb : decide (b < 0) = true := by simpa using sb
    have ma : -a ≤ a := by omega
    have mb : b < -b := by omega
    have hwq := HQN.out
    have HEA : Hid (max a (-a) = a) := Lib.hid (by omega)
    have HEB : Hid (max b (-b) = -b) := Lib.hid (by omega)
    have HTT : Hid ((topI / max b (-b) < max a (-a)) = (-Int.tdiv 1099511627776 b < a)) := Lib.hid (by rw [HT.out, HD.out, HEA.out, HEB.out]; (try rw [Int.tdiv_neg]); all_goals exact propext ⟨fun h => by omega, fun h => by omega⟩)
    cases t0 : decide (-Int.tdiv 1099511627776 b < a)
    · have HR : Hid (timesI a b = a * b) := Lib.hid (by rw [HV.out, if_neg]; rw [HTT.out]; simpa using t0)
      have hwm : IntKind.i64.wrap (a * b) = a * b := HM.out (by rw [HTT.out]; simpa using t0)
      have t1 : decide (-Int.tdiv 1099511627776 b < a) = false := t0
      clear t0 HM HV sa sb
      go_enter Tryz.func92, Tryz.ntmps92
      go_wp2_with fail
      go_ret
      exact int1 (by rw [HE.out, HR.out])
    · have HR : Hid (timesI a b = -1099511627776) := Lib.hid (by rw [HV.out, if_pos (by rw [HTT.out]; simpa using t0), ga, gb]; rfl)
      have t1 : decide (-Int.tdiv 1099511627776 b < a) = true := t0
      clear t0 HM HV sa sb
      go_enter Tryz.func92, Tryz.ntmps92
      go_wp2_with fail
      go_ret
      exact int1 (by rw [HE.out, HR.out])
  · have ga : decide (a < 0) = false := by simpa using sa
    have gb : decide (b < 0) = false := by simpa using sb
    have ma : -a ≤ a := by omega
    have mb : -b ≤ b := by omega
    have hwq := HQ.out
    have HEA : Hid (max a (-a) = a) := Lib.hid (by omega)
    have HEB : Hid (max b (-b) = b) := Lib.hid (by omega)
    have HTT : Hid ((topI / max b (-b) < max a (-a)) = (Int.tdiv 1099511627776 b < a)) := Lib.hid (by rw [HT.out, HD.out, HEA.out, HEB.out]; (try rw [Int.tdiv_neg]); all_goals exact propext ⟨fun h => by omega, fun h => by omega⟩)
    cases t0 : decide (Int.tdiv 1099511627776 b < a)
    · have HR : Hid (timesI a b = a * b) := Lib.hid (by rw [HV.out, if_neg]; rw [HTT.out]; simpa using t0)
      have hwm : IntKind.i64.wrap (a * b) = a * b := HM.out (by rw [HTT.out]; simpa using t0)
      have t1 : decide (Int.tdiv 1099511627776 b < a) = false := t0
      clear t0 HM HV sa sb
      go_enter Tryz.func92, Tryz.ntmps92
      go_wp2_with fail
      go_ret
      exact int1 (by rw [HE.out, HR.out])
    · have HR : Hid (timesI a b = 1099511627776) := Lib.hid (by rw [HV.out, if_pos (by rw [HTT.out]; simpa using t0), ga, gb]; rfl)
      have t1 : decide (Int.tdiv 1099511627776 b < a) = true := t0
      clear t0 HM HV sa sb
      go_enter Tryz.func92, Tryz.ntmps92
      go_wp2_with fail
      go_ret
      exact int1 (by rw [HE.out, HR.out])
end Go.Proofs.YtehoidohallfcaaGreatDoor
