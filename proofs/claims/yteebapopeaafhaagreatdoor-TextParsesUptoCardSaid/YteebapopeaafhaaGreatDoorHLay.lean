/-
  CONTRACTS: Lay of code and taciturnref1. Conditions: the writer is owned, its bytes fit.
  CONTRACTS: Read of code and taciturnref1. Conditions: the reader's bytes lie in blocks that nobody turns.
-/
import Derived.Test.YteebapopeaafhaaGreatDoorHCode5
import Derived.Test.YteebapopeaafhaaGreatDoorHHand
import Derived.Test.YteebapopeaafhaaGreatDoorHCodeP
namespace Go.Tcn
set_option linter.unusedVariables false
set_option linter.unusedSimpArgs false
/-- What a writing leaves. -/
def WrTo (T E : TypeId) (p row : Nat) (l' : List Int) (w w' : World) : Prop := ∃ row', Wr w' T E p row' l' ∧ (row' = row ∨ w.heap.size ≤ row') ∧ Tch [p, row] w w'
theorem WrTo.after {T E : TypeId} {p row row1 : Nat} {l : List Int} {w w1 w2 : World} (hr : row1 = row ∨ w.heap.size ≤ row1) (t1 : Tch [p, row] w w1) (h : WrTo T E p row1 l w1 w2) : WrTo T E p row l w w2 := by
  obtain ⟨row2, a, b, c⟩ := h
  refine ⟨row2, a, by have := t1.size; omega, t1.trans c (fun _ _ x => x) (fun i hi hx => ?_)⟩
  simp at hx ⊢
  omega
theorem WrTo.ahead {T E : TypeId} {p row : Nat} {l : List Int} {w w1 w2 : World} (t1 : Tch [] w w1) (h : WrTo T E p row l w1 w2) : WrTo T E p row l w w2 := by
  obtain ⟨row2, a, b, c⟩ := h
  exact ⟨row2, a, by have := t1.size; omega, t1.trans c (by simp) (fun i hi hx => hx)⟩
/-- Three numbers in a block. -/
structure Bx (w : World) (g : Nat) (x y z : Value) : Prop where
  c0 : w.cell? ⟨g, 0, none⟩ = some x
  c1 : w.cell? ⟨g, 1, none⟩ = some y
  c2 : w.cell? ⟨g, 2, none⟩ = some z
theorem Bx.tch {w w' : World} {L : List Nat} {g : Nat} {x y z : Value} (h : Bx w g x y z) (t : Tch L w w') (hg : g ∉ L) : Bx w' g x y z :=
  ⟨by rw [t.cell (cell_lt h.c0) hg]; exact h.c0, by rw [t.cell (cell_lt h.c1) hg]; exact h.c1, by rw [t.cell (cell_lt h.c2) hg]; exact h.c2⟩
theorem Bx.lt {w : World} {g : Nat} {x y z : Value} (h : Bx w g x y z) : g < w.heap.size := cell_lt h.c0
theorem Bx.new (w : World) (x y z : Value) (T : TypeId) : Bx (w.alloc (.cells #[x, y, z] T)) w.heap.size x y z := ⟨by simp [go_sem], by simp [go_sem], by simp [go_sem]⟩
end Go.Tcn
namespace Go.Proofs.YteebapopeaafhaaGreatDoor
open Go.RowKit Go.Tcn
set_option linter.unusedVariables false
set_option linter.unusedSimpArgs false
theorem encI_1 (a b : Int) : encI 1 a b = putN 1 1 ++ putN a 4 := rfl
theorem encI_23 (a b : Int) : encI 23 a b = putN 23 1 ++ putN a 2 := rfl
theorem encI_24 (a b : Int) : encI 24 a b = putN 24 1 ++ putN a 2 := rfl
theorem encI_27 (a b : Int) : encI 27 a b = putN 27 1 ++ (putN a 1 ++ putN b 1) := rfl
theorem encI_one (op a b : Int) (h : op ≠ 1 ∧ op ≠ 23 ∧ op ≠ 24 ∧ op ≠ 27) (h1 : opndN op = 1) : encI op a b = putN op 1 ++ putN a 1 := by unfold encI; rw [if_neg (by omega), if_neg (by omega), if_neg (by omega), if_pos h1]
theorem encI_zero (op a b : Int) (h : op ≠ 1 ∧ op ≠ 23 ∧ op ≠ 24 ∧ op ≠ 27) (h1 : opndN op ≠ 1) : encI op a b = putN op 1 := by unfold encI; rw [if_neg (by omega), if_neg (by omega), if_neg (by omega), if_neg h1, List.append_nil]
end Go.Proofs.YteebapopeaafhaaGreatDoor
namespace Go.Proofs.YteebapopeaafhaaGreatDoor
open Go.RowKit Go.Tcn
set_option linter.unusedVariables false
set_option linter.unusedSimpArgs false
/-- What is behind the operands, read. -/
def opsI (op : Int) (l : List Int) (k : Bool) : (Int × Int) × List Int × Bool :=
  if op = 1 then ((s32 (tk l k 4).1, 0), (tk l k 4).2)
  else if op = 23 ∨ op = 24 then (((tk l k 2).1, 0), (tk l k 2).2)
  else if op = 27 then (((tk l k 1).1, (tk (tk l k 1).2.1 (tk l k 1).2.2 1).1), (tk (tk l k 1).2.1 (tk l k 1).2.2 1).2)
  else if opndN op = 1 then (((tk l k 1).1, 0), (tk l k 1).2)
  else ((0, 0), (l, k))
theorem readI_ok (l : List Int) (k : Bool) (h : rdOk l k 1 = true) (op : Int) (hop : beN (rdOut l k 1) = op) (ho : 1 ≤ op ∧ op ≤ 39) (a b : Int) (r : List Int) (k' : Bool) (e : opsI op (rdRest l k 1) false = ((a, b), r, k')) :
    readI l k = if k' = true then ((0, 0, 0), 7, r, k') else if rightI op a b = false then ((0, 0, 0), 9, r, k') else ((op, a, b), 0, r, k') := by
  have e1 : readI l k = (let x := opsI op (rdRest l k 1) false; if x.2.2 = true then ((0, 0, 0), 7, x.2) else if rightI op x.1.1 x.1.2 = false then ((0, 0, 0), 9, x.2) else ((op, x.1.1, x.1.2), 0, x.2)) := by
    unfold readI opsI
    have et : tk l k 1 = (op, rdRest l k 1, false) := by unfold tk; rw [hop, h]; rfl
    rw [et]
    simp only [Bool.false_eq_true, if_false]
    rw [if_neg (by simpa using ho)]
  rw [e1, e]

end Go.Proofs.YteebapopeaafhaaGreatDoor
