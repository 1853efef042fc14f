/-
  CONTRACTS: the kinds' lattice, label and taciturnref4. Conditions: none.
-/
import Derived.Test.YtkakoefdfjooeaaDoorHand
namespace Go.Proofs.YtkakoefdfjooeaaDoor
open Go.RowKit Go.Tcn
set_option linter.unusedVariables false
set_option linter.unusedSimpArgs false
def isIntB (k : Int) : Bool := k == 1 || k == 2
def isArrB (k : Int) : Bool := k == 3 || k == 4
def isSecB (k : Int) : Bool := k == 2 || k == 4
def ofV (k : Int) : Int := if k = 3 then 1 else if k = 4 then 2 else 0
def bothV (a b : Int) : Int := if a == 2 || b == 2 then 2 else 1
def joinV (a b : Int) : Int := if isIntB a && isIntB b then bothV a b else if isArrB a && a == b then a else 0
def joinB (a b : Int) : Bool := isIntB a && isIntB b || isArrB a && a == b
def fitsB (a b : Int) : Bool := (isIntB a || isArrB a) && a == b || a == 1 && b == 2

end Go.Proofs.YtkakoefdfjooeaaDoor
