/-
  The closed facts of the row StoresChanged.
-/
import Derived.Test.YtneaghddjbhbnaaGreatDoorCards
import Derived.JoinedOf
namespace Go.Proofs.YtneaghddjbhbnaaGreatDoor
open Go
theorem changed_both {a b : Bool} (ha : a = true) (hb : b = true) : (a && b) = true := by rw [ha, hb]; rfl
set_option maxRecDepth 1000000 in
set_option maxHeartbeats 4000000 in
theorem changed_facts : joinedFacts Tryz.checked.prog 4 Tryz.f4 Rows.storesChangedSpec Rows.storesChangedRow = true := by
  unfold joinedFacts
  repeat' (with_reducible refine changed_both ?_ ?_)
  all_goals (as_aux_lemma => kernel_rfl)
end Go.Proofs.YtneaghddjbhbnaaGreatDoor
