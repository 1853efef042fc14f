/-
  CONTRACT: chapter 6's example. Conditions: none.
-/
import Derived.Test.YtkakoefdfjooeaaLabel
namespace Go.Proofs.Ytkakoefdfjooeaa
open Go.RowKit Go.Tcn
set_option linter.unusedVariables false
set_option linter.unusedSimpArgs false
section
attribute [local go_sem] isIntB isArrB bothV joinV joinB fitsB
theorem lab_known6 (w : World) : Calls Try.prog 26 #[] w fun e w' => e = .returned (.bool true) ∧ w = w' := by
  go_enter Try.func26, Try.ntmps26
  go_wp2_with (go_at_call 25; refine (lab_Join _ _ _).mono ?_; rintro e w' ⟨rfl, rfl⟩)
  go_ret
  exact ⟨rfl, rfl⟩
end
end Go.Proofs.Ytkakoefdfjooeaa
