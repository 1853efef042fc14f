/-
  CONTRACTS: Right of taciturnref1, all of it. Conditions: none.
-/
import Derived.Test.YtapephelfijcbaaDoorCode4
namespace Go.Proofs.YtapephelfijcbaaDoor
open Go.RowKit Go.Tcn
set_option linter.unusedVariables false
set_option linter.unusedSimpArgs false

end Go.Proofs.YtapephelfijcbaaDoor
