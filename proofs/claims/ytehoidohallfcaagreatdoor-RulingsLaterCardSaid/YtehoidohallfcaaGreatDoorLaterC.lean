/- RulingsLater: its row's closed facts. -/
import Derived.Test.YtehoidohallfcaaGreatDoorLcA
import Derived.Test.YtehoidohallfcaaGreatDoorFact54
import Derived.JoinedOf
namespace Go.Proofs.YtehoidohallfcaaGreatDoor
open Go.ChangeShapes Go.WideShapes Go.ChangeAt Go.RowKit Go.Deep
set_option maxHeartbeats 4000000 in
theorem later_closed : joinedFacts Tryz.prog 6 Tryz.f6 Rows.rulingsLaterSpec Rows.rulingsLaterRow = true := by
  unfold joinedFacts
  refine bt (bt (bt (bt (bt (bt (bt (bt (bt (bt (bt (bt (bt (bt (bt (bt (bt (bt (bt (bt (bt (bt (bt (bt (bt (bt (bt (bt (bt (bt (bt ?a0 ?a1) ?a2) ?a3) ?a4) ?a5) ?a6) ?a7) ?a8) ?a9) ?a10) ?a11) ?a12) ?a13) ?a14) ?a15) ?a16) ?a17) ?a18) ?a19) ?a20) ?a21) ?a22) ?a23) ?a24) ?a25) ?a26) ?a27) ?a28) ?a29) ?a30) ?a31
  case a1 => exact row_laid
  case a2 => exact f_maps
  case a6 => exact f_stops
  case a8 => exact f_knobs
  case a9 => exact later_9
  case a10 => exact later_10
  case a11 => exact later_11
  case a12 => exact later_12
  case a22 => exact f_plain
  case a24 => exact f_heard
  case a25 => exact f_enter
  case a26 => exact f_lifts
  case a27 => exact f_make
  all_goals as_aux_lemma => kernel_rfl
end Go.Proofs.YtehoidohallfcaaGreatDoor
