/- Contract of moves.images: it boxes the grid and makes the closure. -/
import Derived.Test.YtjiacdihfbbfjaaBase
import Derived.Test.YtjiacdihfbbfjaaPlc
import Derived.WalkKit
import Derived.WalkSpells
import Derived.WalkLawsBesides
import Derived.Deep.LoopGhost
import Derived.Deep.QuietTactic
import Derived.BigQuiet
import Derived.StillTailTactics
import Derived.Lib.Hide
import Derived.Outline
import Derived.Lib.QuietBelow
namespace Go.Proofs.Ytjiacdihfbbfjaa
open Go.RowKit

theorem images_any (cs : Array Value) (_ : cs.size = 5) (W : World) :
    Calls Try.prog 58 #[.agg cs] W fun e w' => e = .returned (.func (.func 86) #[] #[.pointer (some ⟨W.heap.size, 0, none⟩)]) ∧ w' = W.alloc (.cells cs 24) := by
  go_enter Try.func58, Try.ntmps58
  go_wp2
  go_ret
  exact ⟨rfl, rfl⟩
end Go.Proofs.Ytjiacdihfbbfjaa
