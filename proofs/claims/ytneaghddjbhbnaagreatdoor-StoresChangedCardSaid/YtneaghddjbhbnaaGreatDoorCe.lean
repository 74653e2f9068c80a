/-
  The row StoresChanged.
-/
import Derived.Test.YtneaghddjbhbnaaGreatDoorCc
import Derived.Test.YtneaghddjbhbnaaGreatDoorCd
namespace Go.Proofs.YtneaghddjbhbnaaGreatDoor
open Go Go.Proofs Go.RowKit Go.ChangeShapes Go.WideShapes Go.ChangeAt Go.Joins
set_option maxRecDepth 1000000 in
set_option maxHeartbeats 4000000 in
theorem changed_row : Rows.StoresChangedSaid :=
  OpenClaim.holds_of_wide 4 Tryz.f4 rfl rfl rfl rfl rfl rfl rfl ⟨rfl, rfl, rfl, rfl, rfl⟩ rfl rfl rfl rfl rfl (by as_aux_lemma => kernel_rfl) Tryz.func4 changed_facts
    (of_decide_eq_true (by as_aux_lemma => kernel_rfl)) (by unfold Func.isWrapper; first | (rw [if_pos (by decide +kernel)]; kernel_rfl) | (rw [if_neg (by decide +kernel)]; exact ⟨rfl, rfl⟩))
    (fun os started H enc _ => changed_lifted os started H enc)
end Go.Proofs.YtneaghddjbhbnaaGreatDoor
