/-
  DERIVED. GIVEN WITH THE SEED: THE CARDS: each row of YtpabkjjonbhdeaaDoorRows.lean that lists a variable, with what it lists TIED to the program's text (the seventh form; the later family's looks); each row that meets fmt, with fmt's text TOLD by the authors' own Lean function (tested against real Go, not proved from fmt's source: count such statements apart). THE CARD IS WHAT COUNTS. Prove the row's statement (the work); the ties are given (YtpabkjjonbhdeaaDoorTie.lean); close each card by the builder's one call (the guide's Derived/Test/ToyasCard.lean, 'card_holds'). Laid BY PROGRAM, IN A SANDBOX (cutbox-door.mjs). By AI agents, Wed Nov 11 2026. No macro, syntax, notation, axiom, sorry.
-/
import Derived.Test.YtpabkjjonbhdeaaDoorRows
import GoSem.ClaimSeven
namespace Go.Proofs.YtpabkjjonbhdeaaDoor
namespace Rows

/-- THE TIED CARD OF 'taciturnlaw7.VerifyLeaks'. -/
def verifyLeaksCard : Claim7 := { stood := { row := verifyLeaksRow, standIns := [], harness := (true, "34840912b4ef37de9b949ec8e0d02f93ec56525f3266b1e9d485f1c3fda42482"), looks := false }, kinds := [], alts := [], laidByText := true, laidKinds := [.data, .pinned], laidTests := true, laidLooks := .later }
def VerifyLeaksCardSaid : Prop := Claim7.holds Tryd.pinned (.plain (OpenSpec.ofChange verifyLeaksSpec)) verifyLeaksCard

/-- THE TIED CARD OF 'taciturnlaw7.VerifyJoins'. -/
def verifyJoinsCard : Claim7 := { stood := { row := verifyJoinsRow, standIns := [], harness := (true, "34840912b4ef37de9b949ec8e0d02f93ec56525f3266b1e9d485f1c3fda42482"), looks := false }, kinds := [], alts := [], laidByText := true, laidKinds := [.data, .pinned], laidTests := true, laidLooks := .later }
def VerifyJoinsCardSaid : Prop := Claim7.holds Tryd.pinned (.plain (OpenSpec.ofChange verifyJoinsSpec)) verifyJoinsCard

/-- THE TIED CARD OF 'taciturnlaw7.VerifyKnown'. -/
def verifyKnownCard : Claim7 := { stood := { row := verifyKnownRow, standIns := [], harness := (true, "34840912b4ef37de9b949ec8e0d02f93ec56525f3266b1e9d485f1c3fda42482"), looks := false }, kinds := [], alts := [], laidByText := true, laidKinds := [.data, .pinned], laidTests := true, laidLooks := .later }
def VerifyKnownCardSaid : Prop := Claim7.holds Tryd.pinned (.plain (OpenSpec.ofChange verifyKnownSpec)) verifyKnownCard

/-- THE SECOND FORM's CARD OF 'taciturnlaw7.VerifyLeaks'. -/
def verifyLeaksUptoCard : Claim7 := { stood := { row := verifyLeaksUptoRow, standIns := [], harness := (true, "34840912b4ef37de9b949ec8e0d02f93ec56525f3266b1e9d485f1c3fda42482"), looks := false }, kinds := [], alts := [], laidByText := true, laidKinds := [.data, .pinned], laidTests := true, laidLooks := .later }
def VerifyLeaksUptoCardSaid : Prop := Claim7.holds Tryd.pinned (.plain (OpenSpec.upto verifyLeaksSpec)) verifyLeaksUptoCard

/-- THE SECOND FORM's CARD OF 'taciturnlaw7.VerifyJoins'. -/
def verifyJoinsUptoCard : Claim7 := { stood := { row := verifyJoinsUptoRow, standIns := [], harness := (true, "34840912b4ef37de9b949ec8e0d02f93ec56525f3266b1e9d485f1c3fda42482"), looks := false }, kinds := [], alts := [], laidByText := true, laidKinds := [.data, .pinned], laidTests := true, laidLooks := .later }
def VerifyJoinsUptoCardSaid : Prop := Claim7.holds Tryd.pinned (.plain (OpenSpec.upto verifyJoinsSpec)) verifyJoinsUptoCard

/-- THE SECOND FORM's CARD OF 'taciturnlaw7.VerifyKnown'. -/
def verifyKnownUptoCard : Claim7 := { stood := { row := verifyKnownUptoRow, standIns := [], harness := (true, "34840912b4ef37de9b949ec8e0d02f93ec56525f3266b1e9d485f1c3fda42482"), looks := false }, kinds := [], alts := [], laidByText := true, laidKinds := [.data, .pinned], laidTests := true, laidLooks := .later }
def VerifyKnownUptoCardSaid : Prop := Claim7.holds Tryd.pinned (.plain (OpenSpec.upto verifyKnownSpec)) verifyKnownUptoCard
end Rows
end Go.Proofs.YtpabkjjonbhdeaaDoor
