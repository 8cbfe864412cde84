/- The model's == at keys, facts and pairs; contracts of ref.Same, SamePoints, Few. -/
import Derived.Test.YtfhekhjojdhmhaaFChk
import Derived.Laws.StructEq
import Derived.WalkKit
import Derived.WalkSpells
import Derived.WalkLawsBesides
import Derived.Deep.LoopGhost
import Derived.Deep.QuietTactic
import Derived.BigQuiet
import Derived.StillTailTactics
import Derived.Lib.Hide
import Derived.Outline
import Derived.Lib.QuietBelow
namespace Go.Proofs.Ytfhekhjojdhmhaa
open Go.RowKit

theorem eqInD_key (d : Nat) (a b : Key) (w : World) : (Op.equalIn (d + 2) 24 (keyV a) (keyV b)).run Try.prog w = .ok (decide (a = b)) w := by
  have u3 := Try.underlying3
  have a3 := Try.isAgg3
  have z3 := Try.sizeOf3
  have hS : Try.prog.underlying 24 = some (.struct (Try.prog.fieldsOf 24)) := by kernel_rfl
  have hp : Try.prog.stoodInHeld 24 = false := by kernel_rfl
  rw [show d + 2 = (d + 1) + 1 from rfl, run_equalIn_agg w (d + 1) 24 _ _ hS hp]
  simp only [Program.fieldsOf, Try.underlying24]
  rw [← sameK_eq]
  go_simp
  by_cases h1 : a.kd = b.kd <;> by_cases h2 : a.sb = b.sb <;> by_cases h3 : a.ob = b.ob <;> simp [sameK, h1, h2, h3]
theorem eqInD_span (d : Nat) (a b c e : Int) (w : World) : (Op.equalIn (d + 2) 26 (.agg #[.int .i64 a, .int .i64 b]) (.agg #[.int .i64 c, .int .i64 e])).run Try.prog w = .ok (decide (a = c ∧ b = e)) w := by
  have u3 := Try.underlying3
  have a3 := Try.isAgg3
  have z3 := Try.sizeOf3
  have hS : Try.prog.underlying 26 = some (.struct (Try.prog.fieldsOf 26)) := by kernel_rfl
  have hp : Try.prog.stoodInHeld 26 = false := by kernel_rfl
  rw [show d + 2 = (d + 1) + 1 from rfl, run_equalIn_agg w (d + 1) 26 _ _ hS hp]
  simp only [Program.fieldsOf, Try.underlying26]
  go_simp
  by_cases h1 : a = c <;> by_cases h2 : b = e <;> simp [h1, h2]
theorem eqInD_point (d : Nat) (a b c e : Int) (w : World) : (Op.equalIn (d + 2) 60 (.agg #[.int .i64 a, .int .i64 b]) (.agg #[.int .i64 c, .int .i64 e])).run Try.prog w = .ok (decide (a = c ∧ b = e)) w := by
  have u3 := Try.underlying3
  have a3 := Try.isAgg3
  have z3 := Try.sizeOf3
  have hS : Try.prog.underlying 60 = some (.struct (Try.prog.fieldsOf 60)) := by kernel_rfl
  have hp : Try.prog.stoodInHeld 60 = false := by kernel_rfl
  rw [show d + 2 = (d + 1) + 1 from rfl, run_equalIn_agg w (d + 1) 60 _ _ hS hp]
  simp only [Program.fieldsOf, Try.underlying60]
  go_simp
  by_cases h1 : a = c <;> by_cases h2 : b = e <;> simp [h1, h2]
theorem eqIn_fact (a b : Fact) (w : World) : (Op.equalIn 10000 28 (factV a) (factV b)).run Try.prog w = .ok (decide (a = b)) w := by
  have u3 := Try.underlying3
  have a3 := Try.isAgg3
  have z3 := Try.sizeOf3
  have a24 := Try.isAgg24
  have z24 := Try.sizeOf24
  have a26 := Try.isAgg26
  have z26 := Try.sizeOf26
  have hS : Try.prog.underlying 28 = some (.struct (Try.prog.fieldsOf 28)) := by kernel_rfl
  have hp : Try.prog.stoodInHeld 28 = false := by kernel_rfl
  have hk : ∀ w, (Op.equalIn 9999 24 (.agg #[.int .i64 a.kd, .int .i64 a.sb, .int .i64 a.ob]) (.agg #[.int .i64 b.kd, .int .i64 b.sb, .int .i64 b.ob])).run Try.prog w = .ok (decide (a.key = b.key)) w := eqInD_key 9997 a.key b.key
  have hs : ∀ w, (Op.equalIn 9999 26 (.agg #[.int .i64 a.vf, .int .i64 a.vt]) (.agg #[.int .i64 b.vf, .int .i64 b.vt])).run Try.prog w = .ok (decide (a.vf = b.vf ∧ a.vt = b.vt)) w := eqInD_span 9997 a.vf a.vt b.vf b.vt
  rw [show (10000 : Nat) = 9999 + 1 from rfl, run_equalIn_agg w 9999 28 _ _ hS hp]
  simp only [Program.fieldsOf, Try.underlying28]
  go_simp
  rw [← sameF_eq]
  obtain ⟨a1, a2, a3, a4, a5, a6, a7, a8⟩ := a
  obtain ⟨b1, b2, b3, b4, b5, b6, b7, b8⟩ := b
  simp only [Fact.key, sameF, Key.mk.injEq]
  repeat' split
  all_goals first | rw [decide_eq_true (by omega)] | rw [decide_eq_false (by omega)]

/-- What a walk asks of == at facts. -/
theorem guard_fact : Try.prog.eqGuardType Try.prog.depth 28 = false := by kernel_rfl
theorem guard_key : Try.prog.eqGuardType Try.prog.depth 24 = false := by kernel_rfl
theorem guard_point : Try.prog.eqGuardType Try.prog.depth 60 = false := by kernel_rfl
theorem guard_span : Try.prog.eqGuardType Try.prog.depth 26 = false := by kernel_rfl
def sameUpto {α : Type} (l m : List α) (k : Nat) : Prop := l.take k = m.take k
theorem same_step {α : Type} {l m : List α} {k : Nat} {x : α} (h : sameUpto l m k) (hx : l[k]? = some x) (hy : m[k]? = some x) : sameUpto l m (k + 1) := by
  unfold sameUpto at *; rw [takeF hx, takeF hy, h]
theorem same_end {α : Type} {l m : List α} {n : Nat} (h : sameUpto l m n) (hl : l.length ≤ n) (hm : m.length ≤ n) : l = m := by
  unfold sameUpto at h; rwa [List.take_of_length_le hl, List.take_of_length_le hm] at h

set_option maxRecDepth 10000 in
set_option maxHeartbeats 2000000 in
theorem same_any (a0 a1 : Option Addr) (n0 c0 n1 c1 : Nat) (l m : List Fact) (w : World) (h0 : SL encF 8 w a0 n0 c0 l) (h1 : SL encF 8 w a1 n1 c1 m) :
    Calls Try.prog 17 #[.slice a0 n0 c0, .slice a1 n1 c1] w fun e w' => e = .returned (.bool (decide (l = m))) ∧ ∃ q, w' = w.drewN q := by
  have hm0 := h0.mx
  have hc0 := h0.cap
  have hl0 := Lib.hid h0.len
  have hm1 := h1.mx
  have hc1 := h1.cap
  have hl1 := Lib.hid h1.len
  unfold maxLen at hm0 hm1
  by_cases hn : n0 = n1
  · subst hn
    have t0 : ((n0 : Int) != (n0 : Int)) = false := by simp
    have hg := guard_fact
    go_enter Try.func17, Try.ntmps17
    go_wp2_with fail
    go_loopw [5] (fun i wr => ∃ k : Nat, k ≤ n0 ∧ i = .int .i64 k ∧ Hid (sameUpto l m k) ∧ ∃ q, wr = w.drewN q) (fun i _ => n0 - (intOf i).toNat)
    case atStart => exact ⟨0, by omega, rfl, Lib.hid rfl, 0, rfl⟩
    case round =>
      obtain ⟨k, hk, rfl, HM, q, rfl⟩ := hrel
      by_cases hlt : k < n0
      · obtain ⟨b0, o0, rfl, hb0⟩ := h0.at' (by omega)
        obtain ⟨b1, o1, rfl, hb1⟩ := h1.at' (by omega)
        obtain ⟨x, hx⟩ := h0.get hlt
        obtain ⟨y, hy⟩ := h1.get hlt
        obtain ⟨e0, e1, e2, e3, e4, e5, e6, e7⟩ := h0.fact hx
        obtain ⟨f0, f1, f2, f3, f4, f5, f6, f7⟩ := h1.fact hy
        have HX := Lib.hid hx
        have HY := Lib.hid hy
        have hE := eqIn_fact x y
        clear hx hy
        by_cases hxy : x = y
        · have HXY := Lib.hid hxy
          rw [decide_eq_true hxy] at hE
          clear hxy
          go_wp2_with (go_quiet (fail))
          go_roundw
          case rel => exact ⟨k + 1, by omega, by go_num, Lib.hid (same_step HM.out HX.out (by rw [HXY.out]; exact HY.out)), (by first | exact ⟨_, rfl⟩ | exact ⟨_, World.drewN_drewN⟩ | exact ⟨0, rfl⟩ | exact ⟨_, by simp only [World.drewN_drewN]; rfl⟩)⟩
          case measure => simp [intOf]; omega
        · have HXY := Lib.hid hxy
          rw [decide_eq_false hxy] at hE
          clear hxy
          go_wp2_with (go_quiet (fail))
          go_ret
          refine ⟨ret_bool ?_, (by first | exact ⟨_, rfl⟩ | exact ⟨_, World.drewN_drewN⟩ | exact ⟨0, rfl⟩ | exact ⟨_, by simp only [World.drewN_drewN]; rfl⟩)⟩
          symm
          rw [decide_eq_false_iff_not]
          rintro rfl
          exact HXY.out (by have := HX.out.symm.trans HY.out; injection this)
      · obtain rfl : n0 = k := by omega
        go_wp2_with fail
        go_ret
        refine ⟨ret_bool ?_, (by first | exact ⟨_, rfl⟩ | exact ⟨_, World.drewN_drewN⟩ | exact ⟨0, rfl⟩ | exact ⟨_, by simp only [World.drewN_drewN]; rfl⟩)⟩
        symm
        rw [decide_eq_true_eq]
        exact same_end HM.out (by rw [hl0.out]; omega) (by rw [hl1.out]; omega)
  · have t0 : ((n0 : Int) != (n1 : Int)) = true := by simp; omega
    have HN := Lib.hid hn
    clear hn
    go_enter Try.func17, Try.ntmps17
    go_wp2_with fail
    go_ret
    refine ⟨ret_bool ?_, 0, rfl⟩
    symm
    rw [decide_eq_false_iff_not]
    rintro rfl
    exact HN.out (hl0.out.symm.trans hl1.out)
theorem few04_any (a0 : Option Addr) (n0 c0 : Nat) (l : List Fact) (w : World) (h0 : SL encF 8 w a0 n0 c0 l) :
    Calls Try.prog 12 #[.slice a0 n0 c0] w fun e w' => e = .returned (.bool (decide (l.length ≤ 30))) ∧ w' = w := by
  have hl0 := h0.len
  rw [hl0]
  go_enter Try.func12, Try.ntmps12
  go_wp2
  go_ret
  exact ⟨ret_bool (by simp; omega), rfl⟩
end Go.Proofs.Ytfhekhjojdhmhaa
