/-
  The row StoresPut.
-/
import Derived.Test.YtneaghddjbhbnaaGreatDoorSe
import Derived.Test.YtneaghddjbhbnaaGreatDoorSf
namespace Go.Proofs.YtneaghddjbhbnaaGreatDoor
open Go Go.Proofs Go.RowKit Go.ChangeShapes Go.WideShapes Go.ChangeAt Go.Joins
set_option maxRecDepth 1000000 in
set_option maxHeartbeats 4000000 in
theorem put_row : Rows.StoresPutSaid :=
  OpenClaim.holds_of_wide 5 Tryz.f5 rfl rfl rfl rfl rfl rfl rfl ⟨rfl, rfl, rfl, rfl, rfl⟩ rfl rfl rfl rfl rfl (by as_aux_lemma => kernel_rfl) Tryz.func5 put_facts
    (of_decide_eq_true (by as_aux_lemma => kernel_rfl)) (by unfold Func.isWrapper; first | (rw [if_pos (by decide +kernel)]; kernel_rfl) | (rw [if_neg (by decide +kernel)]; exact ⟨rfl, rfl⟩))
    (fun os started H enc _ => put_lifted os started H enc)
end Go.Proofs.YtneaghddjbhbnaaGreatDoor
