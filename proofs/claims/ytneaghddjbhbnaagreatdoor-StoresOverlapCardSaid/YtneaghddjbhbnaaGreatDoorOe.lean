/-
  P2: the row StoresOverlap.
-/
import Derived.Test.YtneaghddjbhbnaaGreatDoorOc
import Derived.Test.YtneaghddjbhbnaaGreatDoorOd
namespace Go.Proofs.YtneaghddjbhbnaaGreatDoor
open Go
set_option maxRecDepth 1000000 in
set_option maxHeartbeats 4000000 in
theorem overlap_row : Rows.StoresOverlapSaid :=
  OpenClaim.holds_of_wide 3 Tryz.f3 rfl rfl rfl rfl rfl rfl rfl ⟨rfl, rfl, rfl, rfl, rfl⟩ rfl rfl rfl rfl rfl (by as_aux_lemma => kernel_rfl) Tryz.func3 overlap_facts
    (of_decide_eq_true (by as_aux_lemma => kernel_rfl)) (by unfold Func.isWrapper; first | (rw [if_pos (by decide +kernel)]; kernel_rfl) | (rw [if_neg (by decide +kernel)]; exact ⟨rfl, rfl⟩))
    (fun os started H enc _ => overlap_lifted os started H enc)
end Go.Proofs.YtneaghddjbhbnaaGreatDoor
