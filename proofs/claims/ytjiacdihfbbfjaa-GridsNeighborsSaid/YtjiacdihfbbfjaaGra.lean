/- Contract of graphs.Check at a graph. -/
import Derived.Test.YtjiacdihfbbfjaaTou
import Derived.WalkKit
import Derived.WalkSpells
import Derived.WalkLawsBesides
import Derived.Deep.LoopGhost
import Derived.Deep.QuietTactic
import Derived.BigQuiet
import Derived.StillTailTactics
import Derived.Lib.Hide
import Derived.Outline
import Derived.Lib.QuietBelow
namespace Go.Proofs.Ytjiacdihfbbfjaa
open Go.RowKit

set_option maxRecDepth 20000 in
set_option maxHeartbeats 2000000 in
theorem graphCheck_any (a : Option Addr) (n c : Nat) (ll : List (List Int)) (W : World) (h : Rows W a n c ll) (hg : GraphL n ll) :
    Calls Try.prog 56 #[.slice a n c] W fun e w' => e = .returned (.int .i64 0) ∧ w' = W := by
  have hm := h.mx
  have hcp := h.cap
  unfold maxLen at hm
  have hfew := hg.few
  have HG := Lib.hid hg
  have t256 : decide (256 < (n : Int)) = false := by simp; omega
  have t256' : decide (256 < n) = false := by simp; omega
  clear hg
  go_enter Try.func56, Try.ntmps56
  go_wp2_with fail
  go_loop [2, 12] (fun v c => ∃ k : Nat, k ≤ n ∧ v = .int .i64 0 ∧ c = .int .i64 k) (fun _ c => n - (intOf c).toNat)
  case atStart => exact ⟨0, by omega, rfl, rfl⟩
  case round =>
    obtain ⟨k, hk, rfl, rfl⟩ := hrel
    by_cases hlt : k < n
    · obtain ⟨b5, o5, ha, hb5⟩ := h.at' (by omega)
      obtain ⟨ax, nx, cx, e0, hIx⟩ := h.row b5 o5 ha k hlt
      have hok := HG.out.ok k hlt
      have hself := HG.out.self k hlt
      have hback := HG.out.back k hlt
      obtain ⟨x, hx⟩ : ∃ x, ll[k]?.getD [] = x := ⟨_, rfl⟩
      rw [hx] at hok hself hback hIx
      have hnx : nx ≤ 256 := by rw [← hIx.len]; have := hok.len; omega
      have hmx := hIx.mx
      have hcx := hIx.cap
      unfold maxLen at hmx
      have HOK := Lib.hid hok
      have HS := Lib.hid hself
      have HB := Lib.hid hback
      have HXL := Lib.hid hIx.len
      have hrow := fun i hi => h.row b5 o5 ha i hi
      have HR := Lib.hid hrow
      subst ha
      clear hok hself hback hx hrow
      go_wp2_with fail
      go_loop [2, 19] (fun v c => ∃ j : Nat, j ≤ nx ∧ v = .int .i64 0 ∧ c = .int .i64 j) (fun _ c => nx - (intOf c).toNat)
      case atStart => exact ⟨0, by omega, rfl, rfl⟩
      case round =>
        obtain ⟨j, hj, rfl, rfl⟩ := hrel
        by_cases hlt2 : j < nx
        · obtain ⟨b6, o6, hax, hb6⟩ := hIx.at' (by omega)
          have e2 := hIx.cell b6 o6 hax j hlt2
          have hjx : j < x.length := by rw [HXL.out]; exact hlt2
          have hmem := getD_mem x j hjx
          have hcb := HOK.out.2 _ hmem
          have hprev : 0 < j → x[j - 1]?.getD 0 < x[j]?.getD 0 := fun h0 => by
            have := List.pairwise_iff_getElem.1 HOK.out.1 (j - 1) j (by omega) hjx (by omega)
            rw [List.getElem?_eq_getElem hjx, List.getElem?_eq_getElem (by omega)]
            simpa using this
          have e3 := fun h0 : 0 < j => hIx.cell b6 o6 hax (j - 1) (by omega)
          subst hax
          obtain ⟨v, hv⟩ : ∃ v, x[j]?.getD 0 = v := ⟨_, rfl⟩
          rw [hv] at e2 hmem hcb hprev
          have hne : v ≠ (k : Int) := fun e => HS.out (e ▸ hmem)
          obtain ⟨hc0, hc1⟩ := hcb
          have t0 : decide (v < 0) = false := by simp; omega
          have t1 : decide ((n : Int) ≤ v) = false := by simp; omega
          have t2 : (v == (k : Int)) = false := by rw [beq_eq_false_iff_ne]; exact hne
          obtain ⟨ar, nr, cr, e4, hIr⟩ := HR.out v.toNat (by omega)
          have hin := HB.out v hmem
          have hct := contains_any ar nr cr _ k W hIr
          rw [hin] at hct
          have HC := Lib.hid hct
          clear hv hne hin hct hmem
          by_cases h0 : j = 0
          · subst h0
            simp only [Nat.add_zero] at e2
            clear hprev e3
            go_wp2_with fail
            refine HC.out.mono ?_
            rintro e w7 ⟨rfl, rfl⟩
            go_wp2_with fail
            go_round
            case rel => exact ⟨0 + 1, by omega, rfl, by go_num⟩
            case measure => simp [intOf]; omega
          · have h1 : 0 < j := by omega
            have e5 := e3 h1
            have h2 := hprev h1
            obtain ⟨u, hu⟩ : ∃ u, x[j - 1]?.getD 0 = u := ⟨_, rfl⟩
            rw [hu] at e5 h2
            have t3 : decide (v ≤ u) = false := by simp; omega
            have t4 : decide (0 < (j : Int)) = true := by simp; omega
            have t4' : decide (0 < j) = true := by simp; omega
            clear hprev e3 hu
            go_wp2_with fail
            refine HC.out.mono ?_
            rintro e w7 ⟨rfl, rfl⟩
            go_wp2_with fail
            go_round
            case rel => exact ⟨j + 1, by omega, rfl, by go_num⟩
            case measure => simp [intOf]; omega
        · obtain rfl : j = nx := by omega
          go_wp2_with fail
          go_round
          case rel => exact ⟨k + 1, by omega, rfl, by go_num⟩
          case measure => simp [intOf]; omega
    · obtain rfl : k = n := by omega
      go_wp2_with fail
      go_ret
      exact ⟨rfl, rfl⟩
end Go.Proofs.Ytjiacdihfbbfjaa
