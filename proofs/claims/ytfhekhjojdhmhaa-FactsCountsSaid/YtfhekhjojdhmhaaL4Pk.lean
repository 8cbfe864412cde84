/- The key that a law takes out of its list: l[(k.Subject&31)%len(l)]. -/
import Derived.Test.YtfhekhjojdhmhaaSane4
import Derived.Test.YtfhekhjojdhmhaaRow4
import Derived.Test.YtfhekhjojdhmhaaHeadF
import Derived.Laws.BitsLemmas
import Derived.WalkKit
import Derived.WalkSpells
import Derived.WalkLawsBesides
import Derived.Deep.LoopGhost
import Derived.Deep.QuietTactic
import Derived.BigQuiet
import Derived.StillTailTactics
import Derived.Lib.Hide
import Derived.Outline
import Derived.Lib.QuietBelow
namespace Go.Proofs.Ytfhekhjojdhmhaa
open Go.RowKit

theorem i64_and31 (n : Int) : bits .and .i64 n 31 = n % 32 := by
  have h31 : (BitVec.ofInt 64 31).toNat = 2 ^ 5 - 1 := by decide
  have key : (BitVec.ofInt 64 n &&& BitVec.ofInt 64 31).toNat = (n % ((2 ^ 64 : Nat) : Int)).toNat % 2 ^ 5 := by
    rw [BitVec.toNat_and, BitVec.toNat_ofInt, h31, Nat.and_two_pow_sub_one_eq_mod]
  show IntKind.i64.wrap ((BitVec.ofInt 64 n &&& BitVec.ofInt 64 31).toNat : Nat) = n % 32
  rw [key, IntKind.wrap_i64]
  omega
theorem pick_key (sb : Int) {n : Nat} (hn : 0 < n) : ∃ p : Nat, p < n ∧ (bits BinOp.and IntKind.i64 sb 31).tmod (n : Int) = (p : Int) := by
  rw [i64_and31]
  have h0 : (0 : Int) ≤ sb % 32 := by omega
  rw [Int.tmod_eq_emod_of_nonneg h0]
  have h1 := Int.emod_nonneg (sb % 32) (b := (n : Int)) (by omega)
  have h2 := Int.emod_lt_of_pos (sb % 32) (b := (n : Int)) (by omega)
  exact ⟨(sb % 32 % (n : Int)).toNat, by omega, by omega⟩
theorem Box.set3 {w : World} {M : Nat} {t : TypeId} {a b c : Value} (h : Box w M #[a, b, c] t) (x y z : Value) : Box (((w.setCell ⟨M, 0, none⟩ x).setCell ⟨M, 1, none⟩ y).setCell ⟨M, 2, none⟩ z) M #[x, y, z] t := by
  have := ((h.set 0 x).set 1 y).set 2 z
  simpa using this
end Go.Proofs.Ytfhekhjojdhmhaa
