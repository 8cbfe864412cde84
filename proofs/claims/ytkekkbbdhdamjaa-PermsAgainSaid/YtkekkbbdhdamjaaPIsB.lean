/- ref.Is at any number that memory can hold. -/
import Derived.Test.YtkekkbbdhdamjaaPIs
import Derived.WalkKit
import Derived.WalkSpells
import Derived.WalkLawsBesides
import Derived.Deep.LoopGhost
import Derived.Deep.QuietTactic
import Derived.BigQuiet
import Derived.StillTailTactics
import Derived.Lib.Hide
import Derived.Outline
import Derived.Lib.QuietBelow
namespace Go.Proofs.Ytkekkbbdhdamjaa
open Go.RowKit

theorem make_boolsB (N : Nat) (hN : N ≤ 140737488355328) (w : World) : (Instr.makeSlice 44 (.int .i64 N) (.int .i64 N)).run Try.prog w = .ok (.slice (some ⟨w.heap.size, 0, none⟩) N N) (w.alloc (.cells (flagsP N []) 4)) := by
  obtain ⟨ib, hib, hb0, hb1, hb2⟩ := info_parts info_bool
  have h := run_make (P := Try.prog) w 44 4 ib _ Try.underlying44 hib hb0 .i64 .i64 N N (by omega) (by omega) (by rw [hb2]; omega) (by omega)
  simp only [Int.toNat_natCast, hb1, Nat.mul_one] at h
  rw [flagsP_nil]; exact h
set_option maxHeartbeats 4000000 in
theorem is_big (a : Option Addr) (m c : Nat) (p : List Int) (n : Nat) (W : World) (hI : Ints W a m c p) (hn : Hid (m ≤ 140737488355328)) :
    Calls Try.prog 24 #[.slice a m c, .int .i64 n] W (RetB W (.bool (permB p n))) := by
  have HL := Lib.hid hI.len
  by_cases hl : m = n
  · subst hl
    have hn3 : m ≤ 9223372036854775807 := by have := hn.out; omega
    have hmk := make_boolsB m hn.out
    have hbx := Box.new W (flagsP m []) 4
    have hal : Below W.heap.size W (W.alloc (.cells (flagsP m []) 4)) := (Below.refl _ _).alloc (Nat.le_refl _) _
    go_enter Try.func24, Try.ntmps24
    go_wp2_with fail
    go_loopw [6] (fun i wr => ∃ k : Nat, i = .int .i64 k ∧ k ≤ m ∧ Hid (okPre p m k) ∧ Box wr W.heap.size (flagsP m (p.take k)) 4 ∧ Below W.heap.size W wr) (fun i _ => m - (intOf i).toNat)
    case atStart => exact ⟨0, rfl, by omega, Lib.hid (okPre.zero _ _), by simpa using hbx, hal⟩
    case round =>
      clear hbx hal hmk
      obtain ⟨k, rfl, hk, HP, hbx, hB⟩ := hrel
      by_cases hlt : k < m
      · obtain ⟨b0, o0, rfl, hb0⟩ := hI.at' (by omega)
        obtain ⟨x, hx⟩ := hI.has hlt
        have e0 := (hI.below hB).get hx
        have HX := Lib.hid hx
        have s0 : (0 : Int) ≤ (k : Int) := by omega
        have s1 : (k : Int) < (m : Int) := by omega
        clear hx
        by_cases c1 : x < 0
        · have HF : Hid (permB p m = false) := Lib.hid (permB_out HX.out (.inl c1))
          go_wp2_with fail
          go_ret
          exact ⟨ret_bool HF.out.symm, hB⟩
        · by_cases c2 : (m : Int) ≤ x
          · have HF : Hid (permB p m = false) := Lib.hid (permB_out HX.out (.inr c2))
            go_wp2_with fail
            go_ret
            exact ⟨ret_bool HF.out.symm, hB⟩
          · obtain ⟨X, rfl⟩ : ∃ X : Nat, x = (X : Int) := ⟨x.toNat, by omega⟩
            have c3 : ¬ (m : Int) ≤ (X : Int) := c2
            have c4 : (X : Int) < (m : Int) := by omega
            have c5 : (0 : Int) ≤ (X : Int) := by omega
            have d0 := hbx.cell X
            rw [flagsP_get _ _ (by omega)] at d0
            have gf := hbx.frozen X
            cases t : decide ((X : Int) ∈ p.take k)
            · rw [t] at d0
              have HT := Lib.hid (of_decide_eq_false t)
              clear t
              have hset := hbx.set X (.bool true)
              rw [flagsP_set _ _ (by omega)] at hset
              have HSB := Lib.hid hset
              have hB2 : Below W.heap.size W (wr.setCell ⟨W.heap.size, X, none⟩ (.bool true)) := hB.setCell (Nat.le_refl _) _
              clear hset hbx c1 c2
              go_wp2_with fail
              go_roundw
              case rel => exact ⟨k + 1, by go_num, by omega, Lib.hid (HP.out.succ HX.out c5 c4 HT.out), by rw [List.take_add_one, HX.out]; exact HSB.out, hB2⟩
              case measure => simp [intOf]; omega
            · rw [t] at d0
              have HF : Hid (permB p m = false) := Lib.hid (permB_dup HX.out (of_decide_eq_true t))
              clear t c1 c2
              go_wp2_with fail
              go_ret
              exact ⟨ret_bool HF.out.symm, hB⟩
      · obtain rfl : m = k := by omega
        have HF : Hid (permB p m = true) := Lib.hid (by
          have := HP.out; rw [← HL.out] at this; rw [← HL.out, this.end']; simp)
        go_wp2_with fail
        go_ret
        exact ⟨ret_bool HF.out.symm, hB⟩
  · have hl2 : ¬ (m : Int) = (n : Int) := by omega
    have HF : Hid (permB p n = false) := Lib.hid (permB_len (by rw [HL.out]; exact hl))
    go_enter Try.func24, Try.ntmps24
    go_wp2_with fail
    go_ret
    exact ⟨ret_bool HF.out.symm, Below.refl _ _⟩
end Go.Proofs.Ytkekkbbdhdamjaa
