/-
  CONTRACTS: octet.Writer and taciturnref1.Writer lay bytes. Conditions: the writer is owned, its bytes fit.
-/
import Derived.Test.YteebapopeaafhaaDoorRows
import Derived.Test.YteebapopeaafhaaDoorHCodeP
namespace Go.Proofs.YteebapopeaafhaaDoor
open Go.RowKit Go.Tcn
set_option linter.unusedVariables false
set_option linter.unusedSimpArgs false
end Go.Proofs.YteebapopeaafhaaDoor
