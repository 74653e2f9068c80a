/-
  StoresPut: for any two byte slices and any place, columnsevenlaw11.StoresPut returns true and changes nothing that was there; the row lists package-level variables, tied to the program's text by the card.
-/
import Derived.Test.YtneaghddjbhbnaaGreatDoorSg
import Derived.Test.YtneaghddjbhbnaaGreatDoorTie
namespace Go.Proofs.YtneaghddjbhbnaaGreatDoor
open Go Go.Proofs Go.RowKit Go.ChangeShapes Go.WideShapes Go.ChangeAt Go.Joins
set_option maxRecDepth 1000000 in
set_option maxHeartbeats 4000000 in
theorem put_holds : Rows.StoresPutCardSaid :=
  Claim7.holds_tied_plain_at .later [] [.data, .data, .data, .data, .sentinel, .sentinel, .listed, .data, .data, .pinned] true (true, "2631740dc3a912ab9e532102ecdb007199151495f13228ffc1e5ab9155d8e6f9") true
    put_row (fun _ h => by cases h) (by as_aux_lemma => kernel_rfl) (fun _ h => by cases h) storesPut_row_tie rfl ⟨rfl, rfl⟩ (by as_aux_lemma => kernel_rfl) rfl
    (fun f fn hf hfn => by
      obtain rfl : f = 5 := Option.some.inj ((show Tryz.prog.funcNamed "columnseven/columnsevenlaw11.StoresPut" = some 5 by kernel_rfl).symm.trans hf) |>.symm
      obtain rfl : fn = Tryz.f5 := (Option.some.inj (Tryz.func5.symm.trans hfn)).symm
      exact ⟨by kernel_rfl, fun j t ht => by
        rw [Tryz.params5] at ht
        have hm : t ∈ [27, 23, 27] := by simpa using Array.mem_of_getElem? ht
        have hall : ([27, 23, 27].all fun u => !Tryz.prog.wantsStandIn u) = true := by kernel_rfl
        exact (show Tryz.prog.wantsStandIn t = false by simpa using List.all_eq_true.1 hall t hm)⟩)
    (by as_aux_lemma => kernel_rfl)
end Go.Proofs.YtneaghddjbhbnaaGreatDoor
#print axioms Go.Proofs.YtneaghddjbhbnaaGreatDoor.put_holds
