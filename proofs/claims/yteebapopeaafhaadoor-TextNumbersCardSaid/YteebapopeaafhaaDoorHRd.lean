/-
  CONTRACTS: octet.Reader and taciturnref1.Reader take bytes. Conditions: the reader's bytes lie in blocks that nobody turns.
-/
import Derived.Test.YteebapopeaafhaaDoorHOct
import Derived.Laws.BitsAllLaws
namespace Go.Proofs.YteebapopeaafhaaDoor
open Go.RowKit Go.Tcn
set_option linter.unusedVariables false
set_option linter.unusedSimpArgs false
end Go.Proofs.YteebapopeaafhaaDoor
