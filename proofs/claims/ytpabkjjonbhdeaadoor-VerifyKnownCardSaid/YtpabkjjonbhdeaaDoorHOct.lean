/-
  CONTRACTS: octet.Writer and taciturnref1.Writer lay bytes. Conditions: the writer is owned, its bytes fit.
-/
import Derived.Test.YtpabkjjonbhdeaaDoorRows
import Derived.Test.YtpabkjjonbhdeaaDoorHCodeP
namespace Go.Proofs.YtpabkjjonbhdeaaDoor
open Go.RowKit Go.Tcn
set_option linter.unusedVariables false
set_option linter.unusedSimpArgs false
theorem info_u8 : (Tryd.prog.info? 5).map (fun i => (i.zero, i.size, i.bytes)) = some (some (.int .u8 0), 1, 1) := by kernel_rfl

end Go.Proofs.YtpabkjjonbhdeaaDoor
