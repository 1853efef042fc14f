/-
  CONTRACTS: the document's text: kinds and their names, words, a line's words, a number. Conditions: lines are shorter than 2^40 bytes.
  CONTRACTS: the document's digits (Digits, below). Conditions: none.
-/
import Derived.Test.YteebapopeaafhaaDoorHTx2
import Derived.Test.YteebapopeaafhaaDoorHTxR
namespace Go.Tcn
open Go.RowKit
set_option linter.unusedVariables false
set_option linter.unusedSimpArgs false
end Go.Tcn
namespace Go.Proofs.YteebapopeaafhaaDoor
open Go.RowKit Go.Tcn
set_option linter.unusedVariables false
set_option linter.unusedSimpArgs false
end Go.Proofs.YteebapopeaafhaaDoor
namespace Go.Tcn
open Go.RowKit
/-- One more byte behind a text. -/
theorem str_app (a b : Wd) : (⟨a.toArray⟩ : ByteArray) ++ ⟨b.toArray⟩ = ⟨(a ++ b).toArray⟩ := by
  apply ByteArray.ext
  simp
end Go.Tcn
namespace Go.Proofs.YteebapopeaafhaaDoor
open Go.RowKit Go.Tcn
set_option linter.unusedVariables false
set_option linter.unusedSimpArgs false
end Go.Proofs.YteebapopeaafhaaDoor
