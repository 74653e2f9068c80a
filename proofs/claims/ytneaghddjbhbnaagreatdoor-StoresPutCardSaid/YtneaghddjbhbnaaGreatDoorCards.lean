/-
  DERIVED. GIVEN WITH THE SEED: THE CARDS: each row of YtneaghddjbhbnaaGreatDoorRows.lean that lists a variable, with what it lists TIED to the program's text (the seventh form; the later family's looks); each row that meets fmt, with fmt's text TOLD by the authors' own Lean function (tested against real Go, not proved from fmt's source: count such statements apart). THE CARD IS WHAT COUNTS. Prove the row's statement (the work); the ties are given (YtneaghddjbhbnaaGreatDoorTie.lean); close each card by the builder's one call (the guide's Derived/Test/ToyasCard.lean, 'card_holds'). Laid BY PROGRAM, IN A SANDBOX (cutbox-door.mjs). By AI agents, Wed Nov 11 2026. No macro, syntax, notation, axiom, sorry.
-/
import Derived.Test.YtneaghddjbhbnaaGreatDoorRows
import GoSem.ClaimSeven
namespace Go.Proofs.YtneaghddjbhbnaaGreatDoor
namespace Rows

/-- THE TIED CARD OF 'columnsevenlaw11.StoresOverlap'. -/
def storesOverlapCard : Claim7 := { stood := { row := storesOverlapRow, standIns := [], harness := (true, "2631740dc3a912ab9e532102ecdb007199151495f13228ffc1e5ab9155d8e6f9"), looks := true }, kinds := [], alts := [], laidByText := true, laidKinds := [.data, .data, .data, .data, .sentinel, .sentinel, .listed, .data, .data, .pinned], laidTests := true, laidLooks := .later }
def StoresOverlapCardSaid : Prop := Claim7.holds Tryz.pinned (.plain (OpenSpec.ofChange storesOverlapSpec)) storesOverlapCard

/-- THE TIED CARD OF 'columnsevenlaw11.StoresChanged'. -/
def storesChangedCard : Claim7 := { stood := { row := storesChangedRow, standIns := [], harness := (true, "2631740dc3a912ab9e532102ecdb007199151495f13228ffc1e5ab9155d8e6f9"), looks := true }, kinds := [], alts := [], laidByText := true, laidKinds := [.data, .data, .data, .data, .sentinel, .sentinel, .listed, .data, .data, .pinned], laidTests := true, laidLooks := .later }
def StoresChangedCardSaid : Prop := Claim7.holds Tryz.pinned (.plain (OpenSpec.ofChange storesChangedSpec)) storesChangedCard

/-- THE TIED CARD OF 'columnsevenlaw11.StoresPut'. -/
def storesPutCard : Claim7 := { stood := { row := storesPutRow, standIns := [], harness := (true, "2631740dc3a912ab9e532102ecdb007199151495f13228ffc1e5ab9155d8e6f9"), looks := true }, kinds := [], alts := [], laidByText := true, laidKinds := [.data, .data, .data, .data, .sentinel, .sentinel, .listed, .data, .data, .pinned], laidTests := true, laidLooks := .later }
def StoresPutCardSaid : Prop := Claim7.holds Tryz.pinned (.plain (OpenSpec.ofChange storesPutSpec)) storesPutCard

/-- THE SECOND FORM's CARD OF 'columnsevenlaw11.StoresOverlap'. -/
def storesOverlapUptoCard : Claim7 := { stood := { row := storesOverlapUptoRow, standIns := [], harness := (true, "2631740dc3a912ab9e532102ecdb007199151495f13228ffc1e5ab9155d8e6f9"), looks := true }, kinds := [], alts := [], laidByText := true, laidKinds := [.data, .data, .data, .data, .sentinel, .sentinel, .listed, .data, .data, .pinned], laidTests := true, laidLooks := .later }
def StoresOverlapUptoCardSaid : Prop := Claim7.holds Tryz.pinned (.plain (OpenSpec.upto storesOverlapSpec)) storesOverlapUptoCard

/-- THE SECOND FORM's CARD OF 'columnsevenlaw11.StoresChanged'. -/
def storesChangedUptoCard : Claim7 := { stood := { row := storesChangedUptoRow, standIns := [], harness := (true, "2631740dc3a912ab9e532102ecdb007199151495f13228ffc1e5ab9155d8e6f9"), looks := true }, kinds := [], alts := [], laidByText := true, laidKinds := [.data, .data, .data, .data, .sentinel, .sentinel, .listed, .data, .data, .pinned], laidTests := true, laidLooks := .later }
def StoresChangedUptoCardSaid : Prop := Claim7.holds Tryz.pinned (.plain (OpenSpec.upto storesChangedSpec)) storesChangedUptoCard

/-- THE SECOND FORM's CARD OF 'columnsevenlaw11.StoresPut'. -/
def storesPutUptoCard : Claim7 := { stood := { row := storesPutUptoRow, standIns := [], harness := (true, "2631740dc3a912ab9e532102ecdb007199151495f13228ffc1e5ab9155d8e6f9"), looks := true }, kinds := [], alts := [], laidByText := true, laidKinds := [.data, .data, .data, .data, .sentinel, .sentinel, .listed, .data, .data, .pinned], laidTests := true, laidLooks := .later }
def StoresPutUptoCardSaid : Prop := Claim7.holds Tryz.pinned (.plain (OpenSpec.upto storesPutSpec)) storesPutUptoCard
end Rows
end Go.Proofs.YtneaghddjbhbnaaGreatDoor
