/-
  The closed facts of the row StoresPut.
-/
import Derived.Test.YtneaghddjbhbnaaGreatDoorCards
import Derived.JoinedOf
namespace Go.Proofs.YtneaghddjbhbnaaGreatDoor
open Go
theorem put_both {a b : Bool} (ha : a = true) (hb : b = true) : (a && b) = true := by rw [ha, hb]; rfl
set_option maxRecDepth 1000000 in
set_option maxHeartbeats 4000000 in
theorem put_facts : joinedFacts Tryz.checked.prog 5 Tryz.f5 Rows.storesPutSpec Rows.storesPutRow = true := by
  unfold joinedFacts
  repeat' (with_reducible refine put_both ?_ ?_)
  all_goals (as_aux_lemma => kernel_rfl)
end Go.Proofs.YtneaghddjbhbnaaGreatDoor
