/-
  CONTRACTS: Read of code and taciturnref1. Conditions: the reader's bytes lie in blocks that nobody turns.
-/
import Derived.Test.YtpabkjjonbhdeaaDoorHLay
import Derived.Test.YtpabkjjonbhdeaaDoorHCodeP
namespace Go.Proofs.YtpabkjjonbhdeaaDoor
open Go.RowKit Go.Tcn
set_option linter.unusedVariables false
set_option linter.unusedSimpArgs false
theorem readI_short (l : List Int) (k : Bool) (h : rdOk l k 1 = false) : readI l k = ((0, 0, 0), 7, rdRest l k 1, true) := by unfold readI tk; simp [h]
theorem readI_op (l : List Int) (k : Bool) (h : rdOk l k 1 = true) (ho : ¬ (1 ≤ beN (rdOut l k 1) ∧ beN (rdOut l k 1) ≤ 39)) : readI l k = ((0, 0, 0), 8, rdRest l k 1, false) := by unfold readI tk; simp only [h, Bool.not_true, Bool.false_eq_true, if_false]; rw [if_pos ho]
/-- What is behind the operands, read. -/
def opsI (op : Int) (l : List Int) (k : Bool) : (Int × Int) × List Int × Bool :=
  if op = 1 then ((s32 (tk l k 4).1, 0), (tk l k 4).2)
  else if op = 23 ∨ op = 24 then (((tk l k 2).1, 0), (tk l k 2).2)
  else if op = 27 then (((tk l k 1).1, (tk (tk l k 1).2.1 (tk l k 1).2.2 1).1), (tk (tk l k 1).2.1 (tk l k 1).2.2 1).2)
  else if opndN op = 1 then (((tk l k 1).1, 0), (tk l k 1).2)
  else ((0, 0), (l, k))
theorem readI_ok (l : List Int) (k : Bool) (h : rdOk l k 1 = true) (op : Int) (hop : beN (rdOut l k 1) = op) (ho : 1 ≤ op ∧ op ≤ 39) (a b : Int) (r : List Int) (k' : Bool) (e : opsI op (rdRest l k 1) false = ((a, b), r, k')) :
    readI l k = if k' = true then ((0, 0, 0), 7, r, k') else if rightI op a b = false then ((0, 0, 0), 9, r, k') else ((op, a, b), 0, r, k') := by
  have e1 : readI l k = (let x := opsI op (rdRest l k 1) false; if x.2.2 = true then ((0, 0, 0), 7, x.2) else if rightI op x.1.1 x.1.2 = false then ((0, 0, 0), 9, x.2) else ((op, x.1.1, x.1.2), 0, x.2)) := by
    unfold readI opsI
    have et : tk l k 1 = (op, rdRest l k 1, false) := by unfold tk; rw [hop, h]; rfl
    rw [et]
    simp only [Bool.false_eq_true, if_false]
    rw [if_neg (by simpa using ho)]
  rw [e1, e]

end Go.Proofs.YtpabkjjonbhdeaaDoor
