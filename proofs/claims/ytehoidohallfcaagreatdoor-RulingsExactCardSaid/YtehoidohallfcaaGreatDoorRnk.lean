/- Contracts of ranking.Rank and compare. -/
import Derived.Test.YtehoidohallfcaaGreatDoorRkC
import Derived.WalkKit
import Derived.WalkSpells
import Derived.WalkLawsBesides
import Derived.Deep.LoopGhost
import Derived.Deep.QuietTactic
import Derived.BigQuiet
import Derived.StillTailTactics
import Derived.Lib.Hide
import Derived.Outline
import Derived.Lib.QuietBelow
namespace Go.Proofs.YtehoidohallfcaaGreatDoor
open Go.RowKit

theorem info_int : (Tryz.prog.info? 3).map (fun i => (i.zero, i.size, i.bytes)) = some (some (.int .i64 0), 1, 8) := by kernel_rfl
theorem compare_any (a b : Int) (W : World) : Calls Tryz.prog 53 #[.int .i64 a, .int .i64 b] W fun e w' => e = .returned (.int .i64 (sgnI a b)) ∧ W = w' := by
  by_cases h : a = b
  · subst h
    have HE : Hid (sgnI a a = 0) := Lib.hid (by unfold sgnI; simp)
    go_enter Tryz.func53, Tryz.ntmps53
    go_wp2_with fail
    go_ret
    exact ⟨ret_int HE.out.symm, rfl⟩
  · by_cases h2 : a < b
    · have HE : Hid (sgnI a b = -1) := Lib.hid (by unfold sgnI; rw [if_neg h, if_pos h2])
      have n0 : (a == b) = false := by simpa using h
      go_enter Tryz.func53, Tryz.ntmps53
      go_wp2_with fail
      go_ret
      exact ⟨ret_int HE.out.symm, rfl⟩
    · have HE : Hid (sgnI a b = 1) := Lib.hid (by unfold sgnI; rw [if_neg h, if_neg h2])
      have n0 : (a == b) = false := by simpa using h
      go_enter Tryz.func53, Tryz.ntmps53
      go_wp2_with fail
      go_ret
      exact ⟨ret_int HE.out.symm, rfl⟩
/-- How many of the first k are greater. -/
def grN (x : List Int) (n : Int) (k : Nat) : Nat := ((x.take k).filter fun m => decide (n < m)).length
theorem grN_step {x : List Int} {n m : Int} {k : Nat} (h : x[k]? = some m) : grN x n (k + 1) = grN x n k + if n < m then 1 else 0 := by
  unfold grN; rw [takeF h, List.filter_append, List.length_append]
  by_cases h2 : n < m <;> simp [h2]
theorem grN_le (x : List Int) (n : Int) (k : Nat) : grN x n k ≤ k := by
  unfold grN
  exact Nat.le_trans (List.length_filter_le _ _) (List.length_take_le _ _)
def rankTo (x : List Int) (k : Nat) : List Int := (x.take k).map fun n => ((x.filter fun m => decide (n < m)).length : Int) + 1
theorem rankTo_step {x : List Int} {n : Int} {k : Nat} (h : x[k]? = some n) : rankTo x (k + 1) = rankTo x k ++ [(grN x n x.length : Int) + 1] := by
  unfold rankTo grN; rw [takeF h, List.map_append, List.take_length]; rfl
theorem rankTo_len (x : List Int) {k : Nat} (h : k ≤ x.length) : (rankTo x k).length = k := by unfold rankTo; simp; omega
set_option maxHeartbeats 2000000 in
theorem rank_any (a : Option Addr) (n c : Nat) (x : List Int) (W : World) (h0 : Ints W a n c x) (hn : n ≤ 1000000) :
    Calls Tryz.prog 21 #[.slice a n c] W (RetOwn W 3 (rankL x)) := by
  have HL := Lib.hid h0.len
  obtain ⟨i3, hi3, hz30, hz31, hz32⟩ := info_parts info_int
  go_enter Tryz.func21, Tryz.ntmps21
  go_wp2_with fail
  go_loopw [2, 10] (fun v i wr => ∃ k : Nat, i = .int .i64 k ∧ k ≤ n ∧ OwnInts wr W.heap.size 3 v (rankTo x k) ∧ Below W.heap.size W wr) (fun _ i _ => n - (intOf i).toNat)
  case atStart => exact ⟨0, rfl, by omega, by simpa [rankTo] using OwnInts.nil W 3 W.heap.size, Below.refl _ _⟩
  case round =>
    obtain ⟨k, rfl, hk, hO, hB⟩ := hrel
    by_cases hlt : k < n
    · obtain ⟨b0, o0, rfl, hb0⟩ := h0.at' (by omega)
      obtain ⟨z, hz⟩ := h0.has hlt
      have e0 := (h0.below hB).get hz
      have HZ := Lib.hid hz
      have hll := rankTo_len x (k := k) (by rw [HL.out]; omega)
      have hol := hO.lt
      have hsz := hB.size
      obtain ⟨L, hLe⟩ : ∃ L, rankTo x k = L := ⟨_, rfl⟩
      have HLE := Lib.hid hLe
      rw [hLe] at hO hll
      unfold OwnInts at hO
      rw [hll] at hO
      have HLL := Lib.hid hll
      clear hLe hz hll
      obtain ⟨av, cv, rfl, _, _⟩ := own_slice hO
      have s0 : (0 : Int) ≤ (k : Int) := by omega
      have s1 : (k : Int) < (n : Int) := by omega
      obtain ⟨wo, hwo⟩ : ∃ wo, wo = wr := ⟨_, rfl⟩
      rw [← hwo] at hO hB hol hsz e0 ⊢
      clear hwo
      go_wp2_with fail
      go_loop [5, 16] (fun r i => ∃ j : Nat, i = .int .i64 j ∧ j ≤ n ∧ r = .int .i64 ((grN x z j : Int) + 1)) (fun _ i => n - (intOf i).toNat)
      case atStart => exact ⟨0, rfl, by omega, by simp [grN]⟩
      case round =>
        obtain ⟨j, rfl, hj, rfl⟩ := hrel
        have hgl := grN_le x z j
        by_cases hltj : j < n
        · obtain ⟨m, hm⟩ := h0.has hltj
          have e1 := (h0.below hB).get hm
          have HS := Lib.hid (grN_step (n := z) hm)
          obtain ⟨g, hg⟩ : ∃ g, grN x z j = g := ⟨_, rfl⟩
          rw [hg] at hgl HS ⊢
          have t0 : (0 : Int) ≤ (j : Int) := by omega
          have t1 : (j : Int) < (n : Int) := by omega
          clear hm hg
          by_cases hzm : z < m
          · go_wp2_with fail
            go_round
            case rel => exact ⟨j + 1, by go_num, by omega, by rw [HS.out, if_pos hzm]; simp <;> omega⟩
            case measure => simp [intOf]; omega
          · go_wp2_with fail
            go_round
            case rel => exact ⟨j + 1, by go_num, by omega, by rw [HS.out, if_neg hzm]; simp⟩
            case measure => simp [intOf]; omega
        · obtain rfl : n = j := by omega
          have HR : Hid (rankTo x (k + 1) = L ++ [(grN x z n : Int) + 1]) := Lib.hid (by rw [rankTo_step HZ.out, HLE.out, HL.out])
          obtain ⟨g, hg⟩ : ∃ g, grN x z n = g := ⟨_, rfl⟩
          rw [hg] at HR hgl ⊢
          clear hg
          go_wp2_with (at_builtin; refine wpList_append_own2 _ rfl _ _ 22 rfl W.heap.size 3 i3 (.int .i64 0) 1 8 Tryz.underlying22 hi3 hz30 hz31 hz32 rfl (by decide) _ _ _ (hO.alloc _) rfl ⟨_, 0, none⟩ 1 1 [.int .i64 ((g : Int) + 1)] rfl rfl (cell_one_new _ _ _) (by simp [Value.oneCell']) (by unfold maxLen; omega) (by omega) (by first | omega | (simp; omega)) ?_; intro v' w1 hown' hgrow hfr)
          go_roundw
          case rel =>
            refine ⟨k + 1, by go_num, by omega, ?_, (hB.alloc hsz _).grown hgrow (by simp; omega) (fun q e => (hol q e).1)⟩
            rw [HR.out]
            exact OwnInts.snoc (by rw [HLL.out]; exact hown')
          case measure => simp [intOf]; omega
    · obtain rfl : n = k := by omega
      have HO : Hid (OwnInts wr W.heap.size 3 u2 (rankL x)) := Lib.hid (by
        have : rankTo x n = rankL x := by unfold rankTo rankL; rw [List.take_of_length_le (by rw [HL.out]; exact Nat.le_refl _)]
        rw [← this]; exact hO)
      clear hO
      go_wp2_with fail
      go_ret
      exact ⟨_, rfl, HO.out, hB⟩
end Go.Proofs.YtehoidohallfcaaGreatDoor
