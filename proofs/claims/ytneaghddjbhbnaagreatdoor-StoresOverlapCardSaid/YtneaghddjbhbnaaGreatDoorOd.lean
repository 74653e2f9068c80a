/-
  P1: the closed facts of the row StoresOverlap.
-/
import Derived.Test.YtneaghddjbhbnaaGreatDoorCards
import Derived.JoinedOf
namespace Go.Proofs.YtneaghddjbhbnaaGreatDoor
open Go
theorem both_true {a b : Bool} (ha : a = true) (hb : b = true) : (a && b) = true := by rw [ha, hb]; rfl
set_option maxRecDepth 1000000 in
set_option maxHeartbeats 4000000 in
theorem overlap_facts : joinedFacts Tryz.checked.prog 3 Tryz.f3 Rows.storesOverlapSpec Rows.storesOverlapRow = true := by
  unfold joinedFacts
  repeat' (with_reducible refine both_true ?_ ?_)
  all_goals (as_aux_lemma => kernel_rfl)
end Go.Proofs.YtneaghddjbhbnaaGreatDoor
