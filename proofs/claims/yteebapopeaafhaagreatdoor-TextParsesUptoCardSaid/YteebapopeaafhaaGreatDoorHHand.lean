/-
  CONTRACTS: octet.Writer and taciturnref1.Writer lay bytes. Conditions: the writer is owned, its bytes fit.
  CONTRACTS: octet.Reader and taciturnref1.Reader take bytes. Conditions: the reader's bytes lie in blocks that nobody turns.
  CONTRACTS: taciturnhand.Pick and Few. Conditions: the modulus is above 0; the bytes fit.
-/
import Derived.Test.YteebapopeaafhaaGreatDoorRows
import Derived.Test.YteebapopeaafhaaGreatDoorHCodeP
import Derived.Laws.BitsAllLaws
namespace Go.Proofs.YteebapopeaafhaaGreatDoor
open Go.RowKit Go.Tcn
set_option linter.unusedVariables false
set_option linter.unusedSimpArgs false
end Go.Proofs.YteebapopeaafhaaGreatDoor
namespace Go.Proofs.YteebapopeaafhaaGreatDoor
open Go.RowKit Go.Tcn
set_option linter.unusedVariables false
set_option linter.unusedSimpArgs false
end Go.Proofs.YteebapopeaafhaaGreatDoor
namespace Go.Proofs.YteebapopeaafhaaGreatDoor
open Go.RowKit Go.Tcn
set_option linter.unusedVariables false
set_option linter.unusedSimpArgs false
theorem emod_neg (n m : Int) (h0 : 0 < m) (h : n.tmod m < 0) : n.tmod m + m = n % m := by
  have h1 := Int.tmod_eq_emod (a := n) (b := m)
  have h2 := Int.emod_nonneg n (show m ≠ 0 by omega)
  split at h1 <;> omega
theorem emod_pos (n m : Int) (h0 : 0 < m) (h : 0 ≤ n.tmod m) : n.tmod m = n % m := by
  have h1 := Int.tmod_eq_emod (a := n) (b := m)
  have h2 := Int.emod_lt_of_pos n h0
  split at h1 <;> omega
theorem ret_int {k : IntKind} {a b : Int} (h : a = b) : Ending.returned (.int k a) = .returned (.int k b) := by rw [h]
set_option maxHeartbeats 400000 in
theorem hand_Pick (n m : Int) (hn : -9223372036854775808 ≤ n ∧ n ≤ 9223372036854775807) (h0 : 0 < m) (hm : m ≤ 4611686018427387904) (w : World) :
    Calls Tryz.prog 16 #[.int .i64 n, .int .i64 m] w fun e w' => e = .returned (.int .i64 (n % m)) ∧ w = w' := by
  have b1 := Int.emod_lt_of_pos n h0
  have b2 := Int.emod_nonneg n (show m ≠ 0 by omega)
  by_cases h : n.tmod m < 0
  · have e := emod_neg n m h0 h
    have b3 : -9223372036854775808 ≤ n.tmod m := by omega
    have E := Lib.hid e; clear e
    go_enter Tryz.func16, Tryz.ntmps16
    go_wp2
    go_ret
    exact ⟨ret_int E.out, rfl⟩
  · have e := emod_pos n m h0 (by omega)
    have E := Lib.hid e; clear e
    go_enter Tryz.func16, Tryz.ntmps16
    go_wp2
    go_ret
    exact ⟨ret_int E.out, rfl⟩
end Go.Proofs.YteebapopeaafhaaGreatDoor
