/-
  CONTRACTS: octet.Writer and taciturnref1.Writer lay bytes. Conditions: the writer is owned, its bytes fit.
  CONTRACTS: octet.Reader and taciturnref1.Reader take bytes. Conditions: the reader's bytes lie in blocks that nobody turns.
  CONTRACTS: taciturnhand.Pick and Few. Conditions: the modulus is above 0; the bytes fit.
-/
import Derived.Test.YteebapopeaafhaaDoorRows
import Derived.Test.YteebapopeaafhaaDoorHCodeP
import Derived.Laws.BitsAllLaws
namespace Go.Proofs.YteebapopeaafhaaDoor
open Go.RowKit Go.Tcn
set_option linter.unusedVariables false
set_option linter.unusedSimpArgs false
end Go.Proofs.YteebapopeaafhaaDoor
namespace Go.Proofs.YteebapopeaafhaaDoor
open Go.RowKit Go.Tcn
set_option linter.unusedVariables false
set_option linter.unusedSimpArgs false
end Go.Proofs.YteebapopeaafhaaDoor
namespace Go.Proofs.YteebapopeaafhaaDoor
open Go.RowKit Go.Tcn
set_option linter.unusedVariables false
set_option linter.unusedSimpArgs false
end Go.Proofs.YteebapopeaafhaaDoor
