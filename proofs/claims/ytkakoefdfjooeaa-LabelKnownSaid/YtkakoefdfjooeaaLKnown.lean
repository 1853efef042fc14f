/-
  STATEMENT: LabelKnown: all of any two kinds, and near them: the walk. Conditions: none.
-/
import Derived.Test.YtkakoefdfjooeaaLattice
namespace Go.Proofs.Ytkakoefdfjooeaa
open Go.RowKit Go.Tcn
set_option linter.unusedVariables false
set_option linter.unusedSimpArgs false
set_option maxRecDepth 100000 in
set_option maxHeartbeats 2000000 in
theorem labelKnown_walk (w : World) : Calls Try.prog 5 #[] w fun e w' => e = .returned (.bool true) ∧ Tch [] w w' := by
  go_enter Try.func5, Try.ntmps5
  go_wp2_with fail
  go_loop [1] (fun a => ∃ x : Int, -1 ≤ x ∧ x ≤ 7 ∧ a = .int .i64 x) (fun a => (7 - intOf a).toNat)
  case atStart => exact ⟨-1, by omega, by omega, rfl⟩
  case round =>
    obtain ⟨x, hx1, hx2, rfl⟩ := hrel
    by_cases hx : x < 7
    · go_wp2_with (first | (go_at_call 28; refine (lab_IsInt _ _).mono ?_; rintro e w' ⟨rfl, rfl⟩) | (go_at_call 30; refine (lab_IsArr _ _).mono ?_; rintro e w' ⟨rfl, rfl⟩) | (go_at_call 32; refine (lab_IsSecret _ _).mono ?_; rintro e w' ⟨rfl, rfl⟩) | (go_at_call 34; refine (lab_Of _ _).mono ?_; rintro e w' ⟨rfl, rfl⟩) | (go_at_call 38; refine (lab_Both _ _ _).mono ?_; rintro e w' ⟨rfl, rfl⟩) | (go_at_call 25; refine (lab_Join _ _ _).mono ?_; rintro e w' ⟨rfl, rfl⟩) | (go_at_call 27; refine (lab_Fits _ _ _).mono ?_; rintro e w' ⟨rfl, rfl⟩) | (go_at_call 29; refine (ref_IsInt _ _).mono ?_; rintro e w' ⟨rfl, rfl⟩) | (go_at_call 31; refine (ref_IsArr _ _).mono ?_; rintro e w' ⟨rfl, rfl⟩) | (go_at_call 33; refine (ref_IsSecret _ _).mono ?_; rintro e w' ⟨rfl, rfl⟩) | (go_at_call 35; refine (ref_Of _ _).mono ?_; rintro e w' ⟨rfl, rfl⟩) | (go_at_call 39; refine (ref_Both _ _ _).mono ?_; rintro e w' ⟨rfl, rfl⟩) | (go_at_call 36; refine (ref_Join _ _ _).mono ?_; rintro e w' ⟨rfl, rfl⟩) | (go_at_call 37; refine (ref_Fits _ _ _).mono ?_; rintro e w' ⟨rfl, rfl⟩))
      go_loop [2] (fun b => ∃ y : Int, -1 ≤ y ∧ y ≤ 7 ∧ b = .int .i64 y) (fun b => (7 - intOf b).toNat)
      case atStart => exact ⟨-1, by omega, by omega, rfl⟩
      case round =>
        obtain ⟨y, hy1, hy2, rfl⟩ := hrel
        by_cases hy : y < 7
        · cases hi : isIntB x
          all_goals
            cases hj : isIntB y
            all_goals
              go_wp2_with (first | (go_at_call 28; refine (lab_IsInt _ _).mono ?_; rintro e w' ⟨rfl, rfl⟩) | (go_at_call 30; refine (lab_IsArr _ _).mono ?_; rintro e w' ⟨rfl, rfl⟩) | (go_at_call 32; refine (lab_IsSecret _ _).mono ?_; rintro e w' ⟨rfl, rfl⟩) | (go_at_call 34; refine (lab_Of _ _).mono ?_; rintro e w' ⟨rfl, rfl⟩) | (go_at_call 38; refine (lab_Both _ _ _).mono ?_; rintro e w' ⟨rfl, rfl⟩) | (go_at_call 25; refine (lab_Join _ _ _).mono ?_; rintro e w' ⟨rfl, rfl⟩) | (go_at_call 27; refine (lab_Fits _ _ _).mono ?_; rintro e w' ⟨rfl, rfl⟩) | (go_at_call 29; refine (ref_IsInt _ _).mono ?_; rintro e w' ⟨rfl, rfl⟩) | (go_at_call 31; refine (ref_IsArr _ _).mono ?_; rintro e w' ⟨rfl, rfl⟩) | (go_at_call 33; refine (ref_IsSecret _ _).mono ?_; rintro e w' ⟨rfl, rfl⟩) | (go_at_call 35; refine (ref_Of _ _).mono ?_; rintro e w' ⟨rfl, rfl⟩) | (go_at_call 39; refine (ref_Both _ _ _).mono ?_; rintro e w' ⟨rfl, rfl⟩) | (go_at_call 36; refine (ref_Join _ _ _).mono ?_; rintro e w' ⟨rfl, rfl⟩) | (go_at_call 37; refine (ref_Fits _ _ _).mono ?_; rintro e w' ⟨rfl, rfl⟩))
              go_round
              case rel => exact ⟨y + 1, by omega, by omega, rfl⟩
              case measure => simp [intOf]; omega
        · go_wp2_with fail
          go_round
          case rel => exact ⟨x + 1, by omega, by omega, rfl⟩
          case measure => simp [intOf]; omega
    · go_wp2_with (go_at_call 26; refine (lab_known _).mono ?_; rintro e w' ⟨rfl, rfl⟩)
      go_ret
      exact ⟨rfl, Tch.refl _ _⟩
end Go.Proofs.Ytkakoefdfjooeaa
