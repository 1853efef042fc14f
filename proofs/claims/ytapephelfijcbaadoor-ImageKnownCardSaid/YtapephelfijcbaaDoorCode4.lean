/-
  CONTRACTS: Right of taciturnref1. Conditions: none.
-/
import Derived.Test.YtapephelfijcbaaDoorCode3
namespace Go.Proofs.YtapephelfijcbaaDoor
open Go.RowKit Go.Tcn
set_option linter.unusedVariables false
set_option linter.unusedSimpArgs false
/-- Reads what was laid in a new block. -/
theorem tch_cell {w w' : World} {p : Addr} {v : Value} (t : Tch [] w w') (h : w.cell? p = some v) : w'.cell? p = some v := by rw [t.cell (cell_lt h) (by simp)]; exact h

end Go.Proofs.YtapephelfijcbaaDoor
