/- Contract of ranking.Ranking. -/
import Derived.Test.YtehoidohallfcaaGreatDoorOrdB
import Derived.Test.YtehoidohallfcaaGreatDoorRgM
import Derived.Test.YtehoidohallfcaaGreatDoorRfX
import Derived.WalkKit
import Derived.WalkSpells
import Derived.WalkLawsBesides
import Derived.Deep.LoopGhost
import Derived.Deep.QuietTactic
import Derived.BigQuiet
import Derived.StillTailTactics
import Derived.Lib.Hide
import Derived.Outline
import Derived.Lib.QuietBelow
namespace Go.Proofs.YtehoidohallfcaaGreatDoor
open Go.RowKit

theorem compareQ (a b : Int) (W : World) : Calls Tryz.prog 53 #[.int .i64 a, .int .i64 b] W fun e w' => e = .returned (.int .i64 (sgnI a b)) ∧ ∃ k, w' = W.drewN k :=
  (compare_any a b W).mono fun e w' h => ⟨h.1, 0, by rw [← h.2]; rfl⟩
theorem rank1_any (ta : Option Addr) (tn tc : Nat) (t : List Int) (a b : Nat) (x y fi : Int) (pa pb pf : Nat) (W : World) (hT : Ints W ta tn tc t) (ha : t[a]? = some x) (hb : t[b]? = some y)
    (d1 : W.cell? ⟨pa, 0, none⟩ = some (.int .i64 (a : Int))) (d2 : W.cell? ⟨pb, 0, none⟩ = some (.int .i64 (b : Int))) (d3 : W.cell? ⟨pf, 0, none⟩ = some (.int .i64 fi)) :
    Calls Tryz.prog 55 #[.slice ta tn tc, .pointer (some ⟨pa, 0, none⟩), .pointer (some ⟨pb, 0, none⟩), .pointer (some ⟨pf, 0, none⟩)] W fun e w' => RetB W (.bool (sgnI x y != fi)) e w' := by
  have la : a < tn := by rw [← hT.len]; exact (List.getElem?_eq_some_iff.1 ha).1
  have lb : b < tn := by rw [← hT.len]; exact (List.getElem?_eq_some_iff.1 hb).1
  obtain ⟨b0, o0, rfl, hl⟩ := hT.at' (by omega)
  have e0 := hT.get ha
  have e1 := hT.get hb
  have hm0 := hT.mx
  have hc0 := hT.cap
  unfold maxLen at hm0
  have s0 : (0 : Int) ≤ (a : Int) := by omega
  have s1 : (a : Int) < (tn : Int) := by omega
  have s2 : (0 : Int) ≤ (b : Int) := by omega
  have s3 : (b : Int) < (tn : Int) := by omega
  clear hT ha hb
  go_enter Tryz.func55, Tryz.ntmps55
  go_wp2_with (go_quiet ((go_at_call 53; first | exact quiet_ofY (compareQ x y _) | exact quiet_ofX (compareQ x y _) (by first | exact ⟨_, rfl⟩ | exact ⟨_, World.drewN_drewN.symm⟩ | exact ⟨0, rfl⟩))))
  go_ret
  exact ⟨rfl, (by first | exact Below.refl _ _ | exact Below.drewN0 _ _ | exact (Below.drewN0 _ _).drew | exact (Below.refl _ _).drew | exact below_drewN (Below.drewN0 _ _) _)⟩
theorem rankR_bad {s : Sh} {l : List Rs} (h : rankE s l ≠ 0) : rankR s l = Rk0 := by
  unfold rankE at h
  unfold rankR
  split
  · rfl
  · rename_i h1
    rw [if_neg h1] at h
    cases e : ordO s l with
    | none => rfl
    | some x => rw [e] at h; exact absurd rfl h
theorem rk_facts0 {s : Sh} {l : List Rs} (h : rkE s l = 0) : l.length ≤ 32 ∧ 1 ≤ s.cs ∧ (∀ x ∈ l, okRs s x = true) ∧ s.cs ≤ 8 ∧ 1 ≤ s.ps ∧ s.ps ≤ 8 := by
  unfold rkE at h
  split at h
  · cases h
  · split at h
    · rename_i h2; exact absurd h h2
    · split at h
      · rename_i h1 _ h3
        rw [Bool.and_eq_true] at h3
        have h4 := h3.1
        unfold okSh at h4
        simp only [Bool.and_eq_true, decide_eq_true_eq] at h4
        exact ⟨by omega, by omega, fun x hx => List.all_eq_true.1 h3.2 x hx, by omega, by omega, by omega⟩
      · cases h
theorem rankR_ok {s : Sh} {l : List Rs} (h : rankE s l = 0) : ∃ x, rkE s l = 0 ∧ ordO s l = some x ∧ ordR s l = x ∧ rankR s l = rkOf s x ∧ x ≠ [] ∧ x.length ≤ 4096 ∧ (∀ t ∈ x, t.length = s.cs.toNat) ∧ 1 ≤ s.cs := by
  unfold rankE at h
  split at h
  · rename_i h1; exact absurd h h1
  · rename_i h1
    have h0 : rkE s l = 0 := Classical.byContradiction fun h3 => h1 h3
    cases e : ordO s l with
    | none => rw [e] at h; cases h
    | some x =>
      obtain ⟨_, h2, h3, _⟩ := rk_facts0 h0
      obtain ⟨h4, h5, h6, _⟩ := ordO_all (List.all_eq_true.2 h3) (by omega) e
      refine ⟨x, h0, rfl, (ordE_some h0 e).2, by unfold rankR; rw [if_neg h1, e], h5, h6, h4, h2⟩
end Go.Proofs.YtehoidohallfcaaGreatDoor

