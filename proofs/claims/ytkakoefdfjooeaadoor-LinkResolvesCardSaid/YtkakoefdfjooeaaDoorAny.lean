/-
  CONTRACTS: the maker of applets' code: any. Conditions: its memory is its own, its counts are small.
-/
import Derived.Test.YtkakoefdfjooeaaDoorMaker7
import Derived.Test.YtkakoefdfjooeaaDoorSec0
namespace Go.Proofs.YtkakoefdfjooeaaDoor
open Go.RowKit Go.Tcn
set_option linter.unusedVariables false
set_option linter.unusedSimpArgs false
set_option linter.unusedSectionVars false
variable [OkP]

set_option maxRecDepth 100000 in
set_option maxHeartbeats 4000000 in
theorem mk_any (w : World) (p row : Nat) (c : List Ins) (n : List Int) (q : Nat) (kd : List Int) (h : Mk 51 54 0 w p row c n q kd 0) (hn6 : I64s n) (hnl : n.length ≤ 9223372036854775807) (hq : q ≤ 700000) (hl : c.length ≤ 700000) (hkl : kd.length ≤ 10) (kind : Int) (hkind : 1 ≤ kind ∧ kind ≤ 4) :
    Calls Tryd.prog 19 #[.pointer (some ⟨p, 0, none⟩), .int .i64 kind] w fun e w' => e = .returned (.tuple #[]) ∧ MkTo 51 54 0 p row c n q kd 0 2300 w w' := by
  have hcs : kind = 1 ∨ kind = 2 ∨ (3 ≤ kind ∧ kind ≤ 4) := by omega
  rcases hcs with rfl | rfl | hk3
  · go_enter Tryd.func19, Tryd.ntmps19
    go_wp2_with fail
    refine (mk_pub_0 _ p row c n q kd h hn6 hnl (by omega) (by omega) hkl).mono ?_
    rintro e w1 ⟨rfl, c1, q1, r1, h1, L1⟩
    have a1 := L1.q; have b1 := L1.l
    go_wp2_with fail
    go_end0
    exact ⟨rfl, c1, q1, r1, h1, L1.mono (by omega)⟩
  · go_enter Tryd.func19, Tryd.ntmps19
    go_wp2_with fail
    refine (mk_sec_0 _ p row c n q kd h hn6 hnl (by omega) (by omega) hkl).mono ?_
    rintro e w1 ⟨rfl, c1, q1, r1, h1, L1⟩
    have a1 := L1.q; have b1 := L1.l
    go_wp2_with fail
    go_end0
    exact ⟨rfl, c1, q1, r1, h1, L1.mono (by omega)⟩
  · have m1 : (kind == 1) = false := beq_eq_false_iff_ne.2 (by omega)
    have m2 : (kind == 2) = false := beq_eq_false_iff_ne.2 (by omega)
    go_enter Tryd.func19, Tryd.ntmps19
    go_wp2_with fail
    refine (mk_arr _ p row c n q kd 0 h hn6 hnl (by omega) (by omega) hkl kind hk3).mono ?_
    rintro e w1 ⟨rfl, c1, q1, r1, h1, L1⟩
    have a1 := L1.q; have b1 := L1.l
    go_wp2_with fail
    go_end0
    exact ⟨rfl, c1, q1, r1, h1, L1.mono (by omega)⟩
end Go.Proofs.YtkakoefdfjooeaaDoor
