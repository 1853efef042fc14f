/-
  WHAT THE BOUND ON BULK GIVES: after the seed's own page on '..UptoSaid'. Conditions: none.
-/
import Derived.Test.YteebapopeaafhaaGreatDoorHValT
namespace Go.Proofs.YteebapopeaafhaaGreatDoor
set_option linter.unusedVariables false
set_option linter.unusedSimpArgs false
open Go.Tcn
theorem bulk_bound {H : Type} {l : List (DataW H)} (hk : Rows.uptoSmall H l = true) : Rows.uptoBulkAll l ≤ 1048576 := of_decide_eq_true hk
end Go.Proofs.YteebapopeaafhaaGreatDoor
