/- The slices of keys that the laws make. -/
import Derived.Test.YtfhekhjojdhmhaaL4Pk
import Derived.Deep.RegionHeld3
import Derived.WalkKit
import Derived.WalkSpells
import Derived.WalkLawsBesides
import Derived.Deep.LoopGhost
import Derived.Deep.QuietTactic
import Derived.BigQuiet
import Derived.StillTailTactics
import Derived.Lib.Hide
import Derived.Outline
import Derived.Lib.QuietBelow
namespace Go.Proofs.Ytfhekhjojdhmhaa
open Go.RowKit

theorem new_any {w : World} {cs : Array Value} {t : TypeId} {news : List Value} (h : news = cs.toList) : ∀ j u, news[j]? = some u → (w.alloc (.cells cs t)).cell? (Addr.add ⟨w.heap.size, 0, none⟩ j) = some u := by
  intro j u hj
  have h2 := (Box.new w cs t).cell (0 + j)
  rw [show (Addr.add ⟨w.heap.size, 0, none⟩ j) = ⟨w.heap.size, 0 + j, none⟩ by (simp [Addr.add]; try omega), h2, Nat.zero_add]
  rw [← hj, h]; simp
theorem new_anyd {w : World} {cs : Array Value} {t : TypeId} {news : List Value} (h : news = cs.toList) : ∀ j u, news[j]? = some u → (w.alloc (.cells cs t)).drew.cell? (Addr.add ⟨w.heap.size, 0, none⟩ j) = some u := new_any h
/-- Three keys in one row. -/
theorem own3 {w : World} {base : Nat} {v : Value} {k x y : Key} (h : w.ownsRow base 24 3 v (1 + 2) (encK k ++ (encK x ++ encK y))) : OwnSL encK 3 w base 24 v [k, x, y] := by
  unfold OwnSL
  have e : [k, x, y].flatMap encK = encK k ++ (encK x ++ encK y) := by simp
  rw [e]; exact h
theorem own1 {w : World} {base : Nat} {v : Value} {k : Key} (h : w.ownsRow base 24 3 v 1 (encK k)) : OwnSL encK 3 w base 24 v [k] := by
  unfold OwnSL
  have e : [k].flatMap encK = encK k := by simp
  rw [e]; exact h
theorem samePts_true (a0 a1 : Option Addr) (n0 c0 n1 c1 : Nat) (l : List (Int × Int)) (w : World) (h0 : SL encP 2 w a0 n0 c0 l) (h1 : SL encP 2 w a1 n1 c1 l) :
    Calls Try.prog 20 #[.slice a0 n0 c0, .slice a1 n1 c1] w fun e w' => e = .returned (.bool true) ∧ ∃ q, w' = w.drewN q := by
  refine (samePoints_any a0 a1 n0 c0 n1 c1 l l w h0 h1).mono ?_
  rintro e w' ⟨rfl, q, rfl⟩
  exact ⟨by simp, q, rfl⟩
theorem keep3K {w0 w w' : World} {b o : Nat} {k : Key} (h : At3 w b o k ∧ Below w0.heap.size w0 w) (hb : Below w.heap.size w w') : At3 w' b o k ∧ Below w0.heap.size w0 w' := ⟨h.1.below hb, h.2.on hb⟩
end Go.Proofs.Ytfhekhjojdhmhaa
