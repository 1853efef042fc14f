/-
  DERIVED. GIVEN WITH THE SEED: THE CARDS: each row of YtapephelfijcbaaDoorRows.lean that lists a variable, with what it lists TIED to the program's text (the seventh form; the later family's looks); each row that meets fmt, with fmt's text TOLD by the authors' own Lean function (tested against real Go, not proved from fmt's source: count such statements apart). THE CARD IS WHAT COUNTS. Prove the row's statement (the work); the ties are given (YtapephelfijcbaaDoorTie.lean); close each card by the builder's one call (the guide's Derived/Test/ToyasCard.lean, 'card_holds'). Laid BY PROGRAM, IN A SANDBOX (cutbox-door.mjs). By AI agents, Wed Nov 11 2026. No macro, syntax, notation, axiom, sorry.
-/
import Derived.Test.YtapephelfijcbaaDoorRows
import GoSem.ClaimSeven
namespace Go.Proofs.YtapephelfijcbaaDoor
namespace Rows

/-- THE TIED CARD OF 'taciturnlaw4.ImageKnown'. -/
def imageKnownCard : Claim7 := { stood := { row := imageKnownRow, standIns := [], harness := (true, "fd1cee7832732002dd1daf2de8e08e164cec44e56152f0d0792bde29cdb619b6"), looks := false }, kinds := [], alts := [], laidByText := true, laidKinds := [.data, .pinned], laidTests := true, laidLooks := .later }
def ImageKnownCardSaid : Prop := Claim7.holds Tryd.pinned (.plain (OpenSpec.ofChange imageKnownSpec)) imageKnownCard

/-- THE TIED CARD OF 'taciturnlaw4.ImageBack'. -/
def imageBackCard : Claim7 := { stood := { row := imageBackRow, standIns := [], harness := (true, "fd1cee7832732002dd1daf2de8e08e164cec44e56152f0d0792bde29cdb619b6"), looks := false }, kinds := [], alts := [], laidByText := true, laidKinds := [.data, .data, .pinned], laidTests := true, laidLooks := .later }
def ImageBackCardSaid : Prop := Claim7.holds Tryd.pinned (.plain (OpenSpec.ofChange imageBackSpec)) imageBackCard

/-- THE TIED CARD OF 'taciturnlaw4.ImageCuts'. -/
def imageCutsCard : Claim7 := { stood := { row := imageCutsRow, standIns := [], harness := (true, "fd1cee7832732002dd1daf2de8e08e164cec44e56152f0d0792bde29cdb619b6"), looks := false }, kinds := [], alts := [], laidByText := true, laidKinds := [.data, .data, .pinned], laidTests := true, laidLooks := .later }
def ImageCutsCardSaid : Prop := Claim7.holds Tryd.pinned (.plain (OpenSpec.ofChange imageCutsSpec)) imageCutsCard

/-- THE TIED CARD OF 'taciturnlaw4.ImageNames'. -/
def imageNamesCard : Claim7 := { stood := { row := imageNamesRow, standIns := [], harness := (true, "fd1cee7832732002dd1daf2de8e08e164cec44e56152f0d0792bde29cdb619b6"), looks := false }, kinds := [], alts := [], laidByText := true, laidKinds := [.data, .pinned], laidTests := true, laidLooks := .later }
def ImageNamesCardSaid : Prop := Claim7.holds Tryd.pinned (.plain (OpenSpec.ofChange imageNamesSpec)) imageNamesCard

/-- THE TIED CARD OF 'taciturnlaw4.ImageSame'. -/
def imageSameCard : Claim7 := { stood := { row := imageSameRow, standIns := [], harness := (true, "fd1cee7832732002dd1daf2de8e08e164cec44e56152f0d0792bde29cdb619b6"), looks := false }, kinds := [], alts := [], laidByText := true, laidKinds := [.data, .data, .pinned], laidTests := true, laidLooks := .later }
def ImageSameCardSaid : Prop := Claim7.holds Tryd.pinned (.plain (OpenSpec.ofChange imageSameSpec)) imageSameCard

/-- THE SECOND FORM's CARD OF 'taciturnlaw4.ImageKnown'. -/
def imageKnownUptoCard : Claim7 := { stood := { row := imageKnownUptoRow, standIns := [], harness := (true, "fd1cee7832732002dd1daf2de8e08e164cec44e56152f0d0792bde29cdb619b6"), looks := false }, kinds := [], alts := [], laidByText := true, laidKinds := [.data, .pinned], laidTests := true, laidLooks := .later }
def ImageKnownUptoCardSaid : Prop := Claim7.holds Tryd.pinned (.plain (OpenSpec.upto imageKnownSpec)) imageKnownUptoCard

/-- THE SECOND FORM's CARD OF 'taciturnlaw4.ImageBack'. -/
def imageBackUptoCard : Claim7 := { stood := { row := imageBackUptoRow, standIns := [], harness := (true, "fd1cee7832732002dd1daf2de8e08e164cec44e56152f0d0792bde29cdb619b6"), looks := false }, kinds := [], alts := [], laidByText := true, laidKinds := [.data, .data, .pinned], laidTests := true, laidLooks := .later }
def ImageBackUptoCardSaid : Prop := Claim7.holds Tryd.pinned (.plain (OpenSpec.upto imageBackSpec)) imageBackUptoCard

/-- THE SECOND FORM's CARD OF 'taciturnlaw4.ImageCuts'. -/
def imageCutsUptoCard : Claim7 := { stood := { row := imageCutsUptoRow, standIns := [], harness := (true, "fd1cee7832732002dd1daf2de8e08e164cec44e56152f0d0792bde29cdb619b6"), looks := false }, kinds := [], alts := [], laidByText := true, laidKinds := [.data, .data, .pinned], laidTests := true, laidLooks := .later }
def ImageCutsUptoCardSaid : Prop := Claim7.holds Tryd.pinned (.plain (OpenSpec.upto imageCutsSpec)) imageCutsUptoCard

/-- THE SECOND FORM's CARD OF 'taciturnlaw4.ImageNames'. -/
def imageNamesUptoCard : Claim7 := { stood := { row := imageNamesUptoRow, standIns := [], harness := (true, "fd1cee7832732002dd1daf2de8e08e164cec44e56152f0d0792bde29cdb619b6"), looks := false }, kinds := [], alts := [], laidByText := true, laidKinds := [.data, .pinned], laidTests := true, laidLooks := .later }
def ImageNamesUptoCardSaid : Prop := Claim7.holds Tryd.pinned (.plain (OpenSpec.upto imageNamesSpec)) imageNamesUptoCard

/-- THE SECOND FORM's CARD OF 'taciturnlaw4.ImageSame'. -/
def imageSameUptoCard : Claim7 := { stood := { row := imageSameUptoRow, standIns := [], harness := (true, "fd1cee7832732002dd1daf2de8e08e164cec44e56152f0d0792bde29cdb619b6"), looks := false }, kinds := [], alts := [], laidByText := true, laidKinds := [.data, .data, .pinned], laidTests := true, laidLooks := .later }
def ImageSameUptoCardSaid : Prop := Claim7.holds Tryd.pinned (.plain (OpenSpec.upto imageSameSpec)) imageSameUptoCard
end Rows
end Go.Proofs.YtapephelfijcbaaDoor
