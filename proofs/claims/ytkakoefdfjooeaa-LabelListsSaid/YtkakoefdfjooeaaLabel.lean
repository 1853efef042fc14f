/-
  CONTRACTS: the kinds' lattice, label and taciturnref4. Conditions: none.
-/
import Derived.Test.YtkakoefdfjooeaaHand
namespace Go.Proofs.Ytkakoefdfjooeaa
open Go.RowKit Go.Tcn
set_option linter.unusedVariables false
set_option linter.unusedSimpArgs false
def isIntB (k : Int) : Bool := k == 1 || k == 2
def isArrB (k : Int) : Bool := k == 3 || k == 4
def isSecB (k : Int) : Bool := k == 2 || k == 4
def ofV (k : Int) : Int := if k = 3 then 1 else if k = 4 then 2 else 0
def bothV (a b : Int) : Int := if a == 2 || b == 2 then 2 else 1
def joinV (a b : Int) : Int := if isIntB a && isIntB b then bothV a b else if isArrB a && a == b then a else 0
def joinB (a b : Int) : Bool := isIntB a && isIntB b || isArrB a && a == b
def fitsB (a b : Int) : Bool := (isIntB a || isArrB a) && a == b || a == 1 && b == 2

set_option maxHeartbeats 4000000 in
theorem lab_IsInt (a : Int) (w : World) : Calls Try.prog 28 #[.int .i64 a] w fun e w' => e = .returned (.bool (isIntB a)) ∧ w = w' := by
  go_enter Try.func28, Try.ntmps28
  go_wp2
  all_goals
    go_ret
    refine ⟨?_, rfl⟩
    first | (simp_all [isIntB]; done) | (simp_all [isIntB]; omega) | (congr 2; simp_all [isIntB]; omega)

set_option maxHeartbeats 4000000 in
theorem lab_IsArr (a : Int) (w : World) : Calls Try.prog 30 #[.int .i64 a] w fun e w' => e = .returned (.bool (isArrB a)) ∧ w = w' := by
  go_enter Try.func30, Try.ntmps30
  go_wp2
  all_goals
    go_ret
    refine ⟨?_, rfl⟩
    first | (simp_all [isArrB]; done) | (simp_all [isArrB]; omega) | (congr 2; simp_all [isArrB]; omega)

set_option maxHeartbeats 4000000 in
theorem lab_IsSecret (a : Int) (w : World) : Calls Try.prog 32 #[.int .i64 a] w fun e w' => e = .returned (.bool (isSecB a)) ∧ w = w' := by
  go_enter Try.func32, Try.ntmps32
  go_wp2
  all_goals
    go_ret
    refine ⟨?_, rfl⟩
    first | (simp_all [isSecB]; done) | (simp_all [isSecB]; omega) | (congr 2; simp_all [isSecB]; omega)

set_option maxHeartbeats 4000000 in
theorem lab_Of (a : Int) (w : World) : Calls Try.prog 34 #[.int .i64 a] w fun e w' => e = .returned (.int .i64 (ofV a)) ∧ w = w' := by
  go_enter Try.func34, Try.ntmps34
  go_wp2
  all_goals
    go_ret
    refine ⟨?_, rfl⟩
    first | (simp_all [ofV]; done) | (simp_all [ofV]; omega) | (congr 2; simp_all [ofV]; omega)

set_option maxHeartbeats 4000000 in
theorem lab_Both (a b : Int) (w : World) : Calls Try.prog 38 #[.int .i64 a, .int .i64 b] w fun e w' => e = .returned (.int .i64 (bothV a b)) ∧ w = w' := by
  go_enter Try.func38, Try.ntmps38
  go_wp2
  all_goals
    go_ret
    refine ⟨?_, rfl⟩
    first | (simp_all [bothV]; done) | (simp_all [bothV]; omega) | (congr 2; simp_all [bothV]; omega)

set_option maxHeartbeats 4000000 in
theorem lab_Join (a b : Int) (w : World) : Calls Try.prog 25 #[.int .i64 a, .int .i64 b] w fun e w' => e = .returned (.tuple #[.int .i64 (joinV a b), .bool (joinB a b)]) ∧ w = w' := by
  go_enter Try.func25, Try.ntmps25
  go_wp2
  all_goals
    go_ret2
    refine ⟨?_, rfl⟩
    first | (simp_all [joinV, joinB, isIntB, isArrB, bothV]; done) | (simp_all [joinV, joinB, isIntB, isArrB, bothV]; omega) | (congr 2; simp_all [joinV, joinB, isIntB, isArrB, bothV]; omega)

set_option maxHeartbeats 4000000 in
theorem lab_Fits (a b : Int) (w : World) : Calls Try.prog 27 #[.int .i64 a, .int .i64 b] w fun e w' => e = .returned (.bool (fitsB a b)) ∧ w = w' := by
  go_enter Try.func27, Try.ntmps27
  go_wp2
  all_goals
    go_ret
    refine ⟨?_, rfl⟩
    first | (simp_all [fitsB, isIntB, isArrB]; done) | (simp_all [fitsB, isIntB, isArrB]; omega) | (congr 2; simp_all [fitsB, isIntB, isArrB]; omega)

set_option maxHeartbeats 4000000 in
theorem ref_IsInt (a : Int) (w : World) : Calls Try.prog 29 #[.int .i64 a] w fun e w' => e = .returned (.bool (isIntB a)) ∧ w = w' := by
  go_enter Try.func29, Try.ntmps29
  go_wp2
  all_goals
    go_ret
    refine ⟨?_, rfl⟩
    first | (simp_all [isIntB]; done) | (simp_all [isIntB]; omega) | (congr 2; simp_all [isIntB]; omega)

set_option maxHeartbeats 4000000 in
theorem ref_IsArr (a : Int) (w : World) : Calls Try.prog 31 #[.int .i64 a] w fun e w' => e = .returned (.bool (isArrB a)) ∧ w = w' := by
  go_enter Try.func31, Try.ntmps31
  go_wp2
  all_goals
    go_ret
    refine ⟨?_, rfl⟩
    first | (simp_all [isArrB]; done) | (simp_all [isArrB]; omega) | (congr 2; simp_all [isArrB]; omega)

set_option maxHeartbeats 4000000 in
theorem ref_IsSecret (a : Int) (w : World) : Calls Try.prog 33 #[.int .i64 a] w fun e w' => e = .returned (.bool (isSecB a)) ∧ w = w' := by
  go_enter Try.func33, Try.ntmps33
  go_wp2
  all_goals
    go_ret
    refine ⟨?_, rfl⟩
    first | (simp_all [isSecB]; done) | (simp_all [isSecB]; omega) | (congr 2; simp_all [isSecB]; omega)

set_option maxHeartbeats 4000000 in
theorem ref_Of (a : Int) (w : World) : Calls Try.prog 35 #[.int .i64 a] w fun e w' => e = .returned (.int .i64 (ofV a)) ∧ w = w' := by
  go_enter Try.func35, Try.ntmps35
  go_wp2
  all_goals
    go_ret
    refine ⟨?_, rfl⟩
    first | (simp_all [ofV]; done) | (simp_all [ofV]; omega) | (congr 2; simp_all [ofV]; omega)

set_option maxHeartbeats 4000000 in
theorem ref_Both (a b : Int) (w : World) : Calls Try.prog 39 #[.int .i64 a, .int .i64 b] w fun e w' => e = .returned (.int .i64 (bothV a b)) ∧ w = w' := by
  go_enter Try.func39, Try.ntmps39
  go_wp2
  all_goals
    go_ret
    refine ⟨?_, rfl⟩
    first | (simp_all [bothV]; done) | (simp_all [bothV]; omega) | (congr 2; simp_all [bothV]; omega)

set_option maxHeartbeats 4000000 in
theorem ref_Join (a b : Int) (w : World) : Calls Try.prog 36 #[.int .i64 a, .int .i64 b] w fun e w' => e = .returned (.tuple #[.int .i64 (joinV a b), .bool (joinB a b)]) ∧ w = w' := by
  go_enter Try.func36, Try.ntmps36
  go_wp2
  all_goals
    go_ret2
    refine ⟨?_, rfl⟩
    first | (simp_all [joinV, joinB, isIntB, isArrB, bothV]; done) | (simp_all [joinV, joinB, isIntB, isArrB, bothV]; omega) | (congr 2; simp_all [joinV, joinB, isIntB, isArrB, bothV]; omega)

set_option maxHeartbeats 4000000 in
theorem ref_Fits (a b : Int) (w : World) : Calls Try.prog 37 #[.int .i64 a, .int .i64 b] w fun e w' => e = .returned (.bool (fitsB a b)) ∧ w = w' := by
  go_enter Try.func37, Try.ntmps37
  go_wp2
  all_goals
    go_ret
    refine ⟨?_, rfl⟩
    first | (simp_all [fitsB, isIntB, isArrB]; done) | (simp_all [fitsB, isIntB, isArrB]; omega) | (congr 2; simp_all [fitsB, isIntB, isArrB]; omega)
end Go.Proofs.Ytkakoefdfjooeaa
