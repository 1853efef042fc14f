/-
  STATEMENT: CodeNames: of any text the instruction is as the document says: the walk. Conditions: none.
-/
import Derived.Test.YtkhoipeblakgiaaKn3
namespace Go.Proofs.Ytkhoipeblakgiaa
open Go.RowKit Go.Tcn
set_option linter.unusedVariables false
set_option linter.unusedSimpArgs false

set_option maxRecDepth 100000 in
set_option maxHeartbeats 2000000 in
theorem codeNames_walk (W : World) (s : List UInt8) (n : Int) (near : Bool) (hn : I6 n) :
    Calls Try.prog 8 #[.string ⟨s.toArray⟩, .int .i64 n, .bool near] W fun e w' => e = .returned (.bool true) ∧ Tch [] W w' := by
  have hp := fun w => hand_Pick n 42 hn (by omega) (by omega) w
  go_enter Try.func8, Try.ntmps8
  go_upto_if 7 with fail
  go_cut [0] (fun v wz => ∃ l : List UInt8, v = .string ⟨l.toArray⟩ ∧ Tch [] W wz)
  case first =>
    cases near
    · go_wp2_with fail
      go_meet
      case rel => exact ⟨s, rfl, Tch.refl _ _⟩
    · go_wp2_with fail
      refine (hp _).mono ?_
      rintro e w' ⟨rfl, rfl⟩
      go_wp2_with fail
      refine (ref_Name _ _).mono ?_
      rintro e w' ⟨rfl, t⟩
      go_wp2_with fail
      go_meet
      case rel => exact ⟨_, rfl, t⟩
  case rest =>
    obtain ⟨l, rfl, t0⟩ := hcut
    go_wp2_with fail
    refine (known3 _).mono ?_
    rintro e w1 ⟨rfl, t1⟩
    go_wp2_with fail
    refine (code_Op _ _).mono ?_
    rintro e w2 ⟨rfl, t2⟩
    go_wp2_with fail
    refine (ref_Op _ _).mono ?_
    rintro e w3 ⟨rfl, t3⟩
    go_wp2_with fail
    refine (code_Name _ _).mono ?_
    rintro e w4 ⟨rfl, t4⟩
    go_wp2_with fail
    refine (ref_Name _ _).mono ?_
    rintro e w5 ⟨rfl, t5⟩
    go_wp2_with fail
    refine (code_Operands _ _).mono ?_
    rintro e w6 ⟨rfl, rfl⟩
    go_wp2_with fail
    refine (ref_Operands _ _).mono ?_
    rintro e w7 ⟨rfl, rfl⟩
    go_wp2_with fail
    go_ret
    exact ⟨by simp, ((((t0.then t1).then t2).then t3).then t4).then t5⟩
end Go.Proofs.Ytkhoipeblakgiaa
