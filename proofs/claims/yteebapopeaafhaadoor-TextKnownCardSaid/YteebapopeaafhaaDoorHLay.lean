/-
  CONTRACTS: Lay of code and taciturnref1. Conditions: the writer is owned, its bytes fit.
  CONTRACTS: Read of code and taciturnref1. Conditions: the reader's bytes lie in blocks that nobody turns.
-/
import Derived.Test.YteebapopeaafhaaDoorHCode5
import Derived.Test.YteebapopeaafhaaDoorHHand
import Derived.Test.YteebapopeaafhaaDoorHCodeP
namespace Go.Tcn
set_option linter.unusedVariables false
set_option linter.unusedSimpArgs false
/-- What a writing leaves. -/
def WrTo (T E : TypeId) (p row : Nat) (l' : List Int) (w w' : World) : Prop := ∃ row', Wr w' T E p row' l' ∧ (row' = row ∨ w.heap.size ≤ row') ∧ Tch [p, row] w w'
theorem WrTo.ahead {T E : TypeId} {p row : Nat} {l : List Int} {w w1 w2 : World} (t1 : Tch [] w w1) (h : WrTo T E p row l w1 w2) : WrTo T E p row l w w2 := by
  obtain ⟨row2, a, b, c⟩ := h
  exact ⟨row2, a, by have := t1.size; omega, t1.trans c (by simp) (fun i hi hx => hx)⟩
/-- Three numbers in a block. -/
structure Bx (w : World) (g : Nat) (x y z : Value) : Prop where
  c0 : w.cell? ⟨g, 0, none⟩ = some x
  c1 : w.cell? ⟨g, 1, none⟩ = some y
  c2 : w.cell? ⟨g, 2, none⟩ = some z
theorem Bx.tch {w w' : World} {L : List Nat} {g : Nat} {x y z : Value} (h : Bx w g x y z) (t : Tch L w w') (hg : g ∉ L) : Bx w' g x y z :=
  ⟨by rw [t.cell (cell_lt h.c0) hg]; exact h.c0, by rw [t.cell (cell_lt h.c1) hg]; exact h.c1, by rw [t.cell (cell_lt h.c2) hg]; exact h.c2⟩
theorem Bx.lt {w : World} {g : Nat} {x y z : Value} (h : Bx w g x y z) : g < w.heap.size := cell_lt h.c0
theorem Bx.new (w : World) (x y z : Value) (T : TypeId) : Bx (w.alloc (.cells #[x, y, z] T)) w.heap.size x y z := ⟨by simp [go_sem], by simp [go_sem], by simp [go_sem]⟩
end Go.Tcn
namespace Go.Proofs.YteebapopeaafhaaDoor
open Go.RowKit Go.Tcn
set_option linter.unusedVariables false
set_option linter.unusedSimpArgs false
end Go.Proofs.YteebapopeaafhaaDoor
namespace Go.Proofs.YteebapopeaafhaaDoor
open Go.RowKit Go.Tcn
set_option linter.unusedVariables false
set_option linter.unusedSimpArgs false
end Go.Proofs.YteebapopeaafhaaDoor
