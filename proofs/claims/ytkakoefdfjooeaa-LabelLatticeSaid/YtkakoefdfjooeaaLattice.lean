/-
  STATEMENT: LabelLattice: what two join to both fit, and it fits all that both fit: the walk, kind by kind. Conditions: none.
-/
import Derived.Test.YtkakoefdfjooeaaLabel
namespace Go.Proofs.Ytkakoefdfjooeaa
open Go.RowKit Go.Tcn
set_option linter.unusedVariables false
set_option linter.unusedSimpArgs false
section
attribute [local go_sem] isIntB isArrB bothV joinV joinB fitsB
theorem lab_known (w : World) : Calls Try.prog 26 #[] w fun e w' => e = .returned (.bool true) ∧ w = w' := by
  go_enter Try.func26, Try.ntmps26
  go_wp2_with (go_at_call 25; refine (lab_Join _ _ _).mono ?_; rintro e w' ⟨rfl, rfl⟩)
  go_ret
  exact ⟨rfl, rfl⟩

set_option maxRecDepth 100000 in
set_option maxHeartbeats 8000000 in
theorem lattice_0 (a0 a1 a2 : Int) (w : World) (w0 : -9223372036854775808 ≤ a0 ∧ a0 ≤ 9223372036854775807) (w1 : -9223372036854775808 ≤ a1 ∧ a1 ≤ 9223372036854775807) (w2 : -9223372036854775808 ≤ a2 ∧ a2 ≤ 9223372036854775807) (h0 : a0 % 4 = 0) :
    Calls Try.prog 4 #[.int .i64 a0, .int .i64 a1, .int .i64 a2] w fun e w' => e = .returned (.bool true) ∧ w = w' := by
  have p0 := hand_Pick a0 4 w0 (by omega) (by omega)
  have p1 := hand_Pick a1 4 w1 (by omega) (by omega)
  have p2 := hand_Pick a2 4 w2 (by omega) (by omega)
  have h1 : a1 % 4 = 0 ∨ a1 % 4 = 1 ∨ a1 % 4 = 2 ∨ a1 % 4 = 3 := by omega
  have h2 : a2 % 4 = 0 ∨ a2 % 4 = 1 ∨ a2 % 4 = 2 ∨ a2 % 4 = 3 := by omega
  rw [h0] at p0
  clear w0 w1 w2
  rcases h1 with h1 | h1 | h1 | h1
  all_goals
    rw [h1] at p1
    clear h1
    rcases h2 with h2 | h2 | h2 | h2
    all_goals
      rw [h2] at p2
      clear h2
      have q0 := Lib.hid p0
      have q1 := Lib.hid p1
      have q2 := Lib.hid p2
      clear p0 p1 p2
      go_enter Try.func4, Try.ntmps4
      go_wp2_with fail
      refine (q0.out _).mono ?_
      rintro e w' ⟨rfl, rfl⟩
      go_wp2_with fail
      refine (q1.out _).mono ?_
      rintro e w' ⟨rfl, rfl⟩
      go_wp2_with fail
      refine (q2.out _).mono ?_
      rintro e w' ⟨rfl, rfl⟩
      clear q0 q1 q2
      go_wp2_with (first | (go_at_call 25; refine (lab_Join _ _ _).mono ?_; rintro e w' ⟨rfl, rfl⟩) | (go_at_call 27; refine (lab_Fits _ _ _).mono ?_; rintro e w' ⟨rfl, rfl⟩) | (go_at_call 26; refine (lab_known _).mono ?_; rintro e w' ⟨rfl, rfl⟩))
      go_ret
      exact ⟨rfl, rfl⟩

set_option maxRecDepth 100000 in
set_option maxHeartbeats 8000000 in
theorem lattice_1 (a0 a1 a2 : Int) (w : World) (w0 : -9223372036854775808 ≤ a0 ∧ a0 ≤ 9223372036854775807) (w1 : -9223372036854775808 ≤ a1 ∧ a1 ≤ 9223372036854775807) (w2 : -9223372036854775808 ≤ a2 ∧ a2 ≤ 9223372036854775807) (h0 : a0 % 4 = 1) :
    Calls Try.prog 4 #[.int .i64 a0, .int .i64 a1, .int .i64 a2] w fun e w' => e = .returned (.bool true) ∧ w = w' := by
  have p0 := hand_Pick a0 4 w0 (by omega) (by omega)
  have p1 := hand_Pick a1 4 w1 (by omega) (by omega)
  have p2 := hand_Pick a2 4 w2 (by omega) (by omega)
  have h1 : a1 % 4 = 0 ∨ a1 % 4 = 1 ∨ a1 % 4 = 2 ∨ a1 % 4 = 3 := by omega
  have h2 : a2 % 4 = 0 ∨ a2 % 4 = 1 ∨ a2 % 4 = 2 ∨ a2 % 4 = 3 := by omega
  rw [h0] at p0
  clear w0 w1 w2
  rcases h1 with h1 | h1 | h1 | h1
  all_goals
    rw [h1] at p1
    clear h1
    rcases h2 with h2 | h2 | h2 | h2
    all_goals
      rw [h2] at p2
      clear h2
      have q0 := Lib.hid p0
      have q1 := Lib.hid p1
      have q2 := Lib.hid p2
      clear p0 p1 p2
      go_enter Try.func4, Try.ntmps4
      go_wp2_with fail
      refine (q0.out _).mono ?_
      rintro e w' ⟨rfl, rfl⟩
      go_wp2_with fail
      refine (q1.out _).mono ?_
      rintro e w' ⟨rfl, rfl⟩
      go_wp2_with fail
      refine (q2.out _).mono ?_
      rintro e w' ⟨rfl, rfl⟩
      clear q0 q1 q2
      go_wp2_with (first | (go_at_call 25; refine (lab_Join _ _ _).mono ?_; rintro e w' ⟨rfl, rfl⟩) | (go_at_call 27; refine (lab_Fits _ _ _).mono ?_; rintro e w' ⟨rfl, rfl⟩) | (go_at_call 26; refine (lab_known _).mono ?_; rintro e w' ⟨rfl, rfl⟩))
      go_ret
      exact ⟨rfl, rfl⟩

set_option maxRecDepth 100000 in
set_option maxHeartbeats 8000000 in
theorem lattice_2 (a0 a1 a2 : Int) (w : World) (w0 : -9223372036854775808 ≤ a0 ∧ a0 ≤ 9223372036854775807) (w1 : -9223372036854775808 ≤ a1 ∧ a1 ≤ 9223372036854775807) (w2 : -9223372036854775808 ≤ a2 ∧ a2 ≤ 9223372036854775807) (h0 : a0 % 4 = 2) :
    Calls Try.prog 4 #[.int .i64 a0, .int .i64 a1, .int .i64 a2] w fun e w' => e = .returned (.bool true) ∧ w = w' := by
  have p0 := hand_Pick a0 4 w0 (by omega) (by omega)
  have p1 := hand_Pick a1 4 w1 (by omega) (by omega)
  have p2 := hand_Pick a2 4 w2 (by omega) (by omega)
  have h1 : a1 % 4 = 0 ∨ a1 % 4 = 1 ∨ a1 % 4 = 2 ∨ a1 % 4 = 3 := by omega
  have h2 : a2 % 4 = 0 ∨ a2 % 4 = 1 ∨ a2 % 4 = 2 ∨ a2 % 4 = 3 := by omega
  rw [h0] at p0
  clear w0 w1 w2
  rcases h1 with h1 | h1 | h1 | h1
  all_goals
    rw [h1] at p1
    clear h1
    rcases h2 with h2 | h2 | h2 | h2
    all_goals
      rw [h2] at p2
      clear h2
      have q0 := Lib.hid p0
      have q1 := Lib.hid p1
      have q2 := Lib.hid p2
      clear p0 p1 p2
      go_enter Try.func4, Try.ntmps4
      go_wp2_with fail
      refine (q0.out _).mono ?_
      rintro e w' ⟨rfl, rfl⟩
      go_wp2_with fail
      refine (q1.out _).mono ?_
      rintro e w' ⟨rfl, rfl⟩
      go_wp2_with fail
      refine (q2.out _).mono ?_
      rintro e w' ⟨rfl, rfl⟩
      clear q0 q1 q2
      go_wp2_with (first | (go_at_call 25; refine (lab_Join _ _ _).mono ?_; rintro e w' ⟨rfl, rfl⟩) | (go_at_call 27; refine (lab_Fits _ _ _).mono ?_; rintro e w' ⟨rfl, rfl⟩) | (go_at_call 26; refine (lab_known _).mono ?_; rintro e w' ⟨rfl, rfl⟩))
      go_ret
      exact ⟨rfl, rfl⟩

set_option maxRecDepth 100000 in
set_option maxHeartbeats 8000000 in
theorem lattice_3 (a0 a1 a2 : Int) (w : World) (w0 : -9223372036854775808 ≤ a0 ∧ a0 ≤ 9223372036854775807) (w1 : -9223372036854775808 ≤ a1 ∧ a1 ≤ 9223372036854775807) (w2 : -9223372036854775808 ≤ a2 ∧ a2 ≤ 9223372036854775807) (h0 : a0 % 4 = 3) :
    Calls Try.prog 4 #[.int .i64 a0, .int .i64 a1, .int .i64 a2] w fun e w' => e = .returned (.bool true) ∧ w = w' := by
  have p0 := hand_Pick a0 4 w0 (by omega) (by omega)
  have p1 := hand_Pick a1 4 w1 (by omega) (by omega)
  have p2 := hand_Pick a2 4 w2 (by omega) (by omega)
  have h1 : a1 % 4 = 0 ∨ a1 % 4 = 1 ∨ a1 % 4 = 2 ∨ a1 % 4 = 3 := by omega
  have h2 : a2 % 4 = 0 ∨ a2 % 4 = 1 ∨ a2 % 4 = 2 ∨ a2 % 4 = 3 := by omega
  rw [h0] at p0
  clear w0 w1 w2
  rcases h1 with h1 | h1 | h1 | h1
  all_goals
    rw [h1] at p1
    clear h1
    rcases h2 with h2 | h2 | h2 | h2
    all_goals
      rw [h2] at p2
      clear h2
      have q0 := Lib.hid p0
      have q1 := Lib.hid p1
      have q2 := Lib.hid p2
      clear p0 p1 p2
      go_enter Try.func4, Try.ntmps4
      go_wp2_with fail
      refine (q0.out _).mono ?_
      rintro e w' ⟨rfl, rfl⟩
      go_wp2_with fail
      refine (q1.out _).mono ?_
      rintro e w' ⟨rfl, rfl⟩
      go_wp2_with fail
      refine (q2.out _).mono ?_
      rintro e w' ⟨rfl, rfl⟩
      clear q0 q1 q2
      go_wp2_with (first | (go_at_call 25; refine (lab_Join _ _ _).mono ?_; rintro e w' ⟨rfl, rfl⟩) | (go_at_call 27; refine (lab_Fits _ _ _).mono ?_; rintro e w' ⟨rfl, rfl⟩) | (go_at_call 26; refine (lab_known _).mono ?_; rintro e w' ⟨rfl, rfl⟩))
      go_ret
      exact ⟨rfl, rfl⟩
end
theorem labelLattice_walk (w : World) (a0 a1 a2 : Int) (w0 : -9223372036854775808 ≤ a0 ∧ a0 ≤ 9223372036854775807) (w1 : -9223372036854775808 ≤ a1 ∧ a1 ≤ 9223372036854775807) (w2 : -9223372036854775808 ≤ a2 ∧ a2 ≤ 9223372036854775807) :
    Calls Try.prog 4 #[.int .i64 a0, .int .i64 a1, .int .i64 a2] w fun e w' => e = .returned (.bool true) ∧ Tch [] w w' := by
  have h0 : a0 % 4 = 0 ∨ a0 % 4 = 1 ∨ a0 % 4 = 2 ∨ a0 % 4 = 3 := by omega
  rcases h0 with h0 | h0 | h0 | h0
  · exact (lattice_0 a0 a1 a2 w w0 w1 w2 h0).mono fun e w' ⟨he, hw⟩ => ⟨he, hw ▸ Tch.refl _ _⟩
  · exact (lattice_1 a0 a1 a2 w w0 w1 w2 h0).mono fun e w' ⟨he, hw⟩ => ⟨he, hw ▸ Tch.refl _ _⟩
  · exact (lattice_2 a0 a1 a2 w w0 w1 w2 h0).mono fun e w' ⟨he, hw⟩ => ⟨he, hw ▸ Tch.refl _ _⟩
  · exact (lattice_3 a0 a1 a2 w w0 w1 w2 h0).mono fun e w' ⟨he, hw⟩ => ⟨he, hw ▸ Tch.refl _ _⟩
end Go.Proofs.Ytkakoefdfjooeaa
