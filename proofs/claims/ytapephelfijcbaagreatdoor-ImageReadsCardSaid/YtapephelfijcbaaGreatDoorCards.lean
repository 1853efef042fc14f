/-
  DERIVED. GIVEN WITH THE SEED: THE CARDS: each row of YtapephelfijcbaaGreatDoorRows.lean that lists a variable, with what it lists TIED to the program's text (the seventh form; the later family's looks); each row that meets fmt, with fmt's text TOLD by the authors' own Lean function (tested against real Go, not proved from fmt's source: count such statements apart). THE CARD IS WHAT COUNTS. Prove the row's statement (the work); the ties are given (YtapephelfijcbaaGreatDoorTie.lean); close each card by the builder's one call (the guide's Derived/Test/ToyasCard.lean, 'card_holds'). Laid BY PROGRAM, IN A SANDBOX (cutbox-door.mjs). By AI agents, Wed Nov 11 2026. No macro, syntax, notation, axiom, sorry.
-/
import Derived.Test.YtapephelfijcbaaGreatDoorRows
import GoSem.ClaimSeven
namespace Go.Proofs.YtapephelfijcbaaGreatDoor
namespace Rows

/-- THE TIED CARD OF 'taciturnlaw4.ImageLays'. -/
def imageLaysCard : Claim7 := { stood := { row := imageLaysRow, standIns := [], harness := (true, "93c9c524abd719b35033a85fc9c30c8bda1dd9216ddff8c02c27da854ebb36d8"), looks := false }, kinds := [], alts := [], laidByText := true, laidKinds := [.data, .data, .pinned], laidTests := true, laidLooks := .later }
def ImageLaysCardSaid : Prop := Claim7.holds Tryz.pinned (.plain (OpenSpec.ofChange imageLaysSpec)) imageLaysCard

/-- THE TIED CARD OF 'taciturnlaw4.ImageReads'. -/
def imageReadsCard : Claim7 := { stood := { row := imageReadsRow, standIns := [], harness := (true, "93c9c524abd719b35033a85fc9c30c8bda1dd9216ddff8c02c27da854ebb36d8"), looks := false }, kinds := [], alts := [], laidByText := true, laidKinds := [.data, .data, .pinned], laidTests := true, laidLooks := .later }
def ImageReadsCardSaid : Prop := Claim7.holds Tryz.pinned (.plain (OpenSpec.ofChange imageReadsSpec)) imageReadsCard

/-- THE SECOND FORM's CARD OF 'taciturnlaw4.ImageLays'. -/
def imageLaysUptoCard : Claim7 := { stood := { row := imageLaysUptoRow, standIns := [], harness := (true, "93c9c524abd719b35033a85fc9c30c8bda1dd9216ddff8c02c27da854ebb36d8"), looks := false }, kinds := [], alts := [], laidByText := true, laidKinds := [.data, .data, .pinned], laidTests := true, laidLooks := .later }
def ImageLaysUptoCardSaid : Prop := Claim7.holds Tryz.pinned (.plain (OpenSpec.upto imageLaysSpec)) imageLaysUptoCard

/-- THE SECOND FORM's CARD OF 'taciturnlaw4.ImageReads'. -/
def imageReadsUptoCard : Claim7 := { stood := { row := imageReadsUptoRow, standIns := [], harness := (true, "93c9c524abd719b35033a85fc9c30c8bda1dd9216ddff8c02c27da854ebb36d8"), looks := false }, kinds := [], alts := [], laidByText := true, laidKinds := [.data, .data, .pinned], laidTests := true, laidLooks := .later }
def ImageReadsUptoCardSaid : Prop := Claim7.holds Tryz.pinned (.plain (OpenSpec.upto imageReadsSpec)) imageReadsUptoCard
end Rows
end Go.Proofs.YtapephelfijcbaaGreatDoor
