/-
  CONTRACTS: the kinds' lattice, label and taciturnref4. Conditions: none.
-/
import Derived.Test.YtpabkjjonbhdeaaDoorHHand
namespace Go.Proofs.YtpabkjjonbhdeaaDoor
open Go.RowKit Go.Tcn
set_option linter.unusedVariables false
set_option linter.unusedSimpArgs false
def isIntB (k : Int) : Bool := k == 1 || k == 2
def isArrB (k : Int) : Bool := k == 3 || k == 4
def isSecB (k : Int) : Bool := k == 2 || k == 4
def ofV (k : Int) : Int := if k = 3 then 1 else if k = 4 then 2 else 0
def bothV (a b : Int) : Int := if a == 2 || b == 2 then 2 else 1
def joinV (a b : Int) : Int := if isIntB a && isIntB b then bothV a b else if isArrB a && a == b then a else 0
def joinB (a b : Int) : Bool := isIntB a && isIntB b || isArrB a && a == b
def fitsB (a b : Int) : Bool := (isIntB a || isArrB a) && a == b || a == 1 && b == 2

set_option maxHeartbeats 4000000 in
theorem lab_IsInt (a : Int) (w : World) : Calls Tryd.prog 64 #[.int .i64 a] w fun e w' => e = .returned (.bool (isIntB a)) ∧ w = w' := by
  go_enter Tryd.func64, Tryd.ntmps64
  go_wp2
  all_goals
    go_ret
    refine ⟨?_, rfl⟩
    first | (simp_all [isIntB]; done) | (simp_all [isIntB]; omega) | (congr 2; simp_all [isIntB]; omega)

set_option maxHeartbeats 4000000 in
theorem lab_IsArr (a : Int) (w : World) : Calls Tryd.prog 65 #[.int .i64 a] w fun e w' => e = .returned (.bool (isArrB a)) ∧ w = w' := by
  go_enter Tryd.func65, Tryd.ntmps65
  go_wp2
  all_goals
    go_ret
    refine ⟨?_, rfl⟩
    first | (simp_all [isArrB]; done) | (simp_all [isArrB]; omega) | (congr 2; simp_all [isArrB]; omega)

set_option maxHeartbeats 4000000 in
theorem lab_Of (a : Int) (w : World) : Calls Tryd.prog 69 #[.int .i64 a] w fun e w' => e = .returned (.int .i64 (ofV a)) ∧ w = w' := by
  go_enter Tryd.func69, Tryd.ntmps69
  go_wp2
  all_goals
    go_ret
    refine ⟨?_, rfl⟩
    first | (simp_all [ofV]; done) | (simp_all [ofV]; omega) | (congr 2; simp_all [ofV]; omega)

set_option maxHeartbeats 4000000 in
theorem lab_Both (a b : Int) (w : World) : Calls Tryd.prog 67 #[.int .i64 a, .int .i64 b] w fun e w' => e = .returned (.int .i64 (bothV a b)) ∧ w = w' := by
  go_enter Tryd.func67, Tryd.ntmps67
  go_wp2
  all_goals
    go_ret
    refine ⟨?_, rfl⟩
    first | (simp_all [bothV]; done) | (simp_all [bothV]; omega) | (congr 2; simp_all [bothV]; omega)

set_option maxHeartbeats 4000000 in
theorem lab_Join (a b : Int) (w : World) : Calls Tryd.prog 60 #[.int .i64 a, .int .i64 b] w fun e w' => e = .returned (.tuple #[.int .i64 (joinV a b), .bool (joinB a b)]) ∧ w = w' := by
  go_enter Tryd.func60, Tryd.ntmps60
  go_wp2
  all_goals
    go_ret2
    refine ⟨?_, rfl⟩
    first | (simp_all [joinV, joinB, isIntB, isArrB, bothV]; done) | (simp_all [joinV, joinB, isIntB, isArrB, bothV]; omega) | (congr 2; simp_all [joinV, joinB, isIntB, isArrB, bothV]; omega)

end Go.Proofs.YtpabkjjonbhdeaaDoor
