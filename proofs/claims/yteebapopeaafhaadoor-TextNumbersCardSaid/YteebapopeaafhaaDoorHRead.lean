/-
  CONTRACTS: Read of code and taciturnref1. Conditions: the reader's bytes lie in blocks that nobody turns.
-/
import Derived.Test.YteebapopeaafhaaDoorHLay
import Derived.Test.YteebapopeaafhaaDoorHCodeP
namespace Go.Proofs.YteebapopeaafhaaDoor
open Go.RowKit Go.Tcn
set_option linter.unusedVariables false
set_option linter.unusedSimpArgs false
end Go.Proofs.YteebapopeaafhaaDoor
