/-
  CONTRACTS: Lay of code and taciturnref1. Conditions: the writer is owned, its bytes fit.
-/
import Derived.Test.YtpabkjjonbhdeaaDoorHCode5
import Derived.Test.YtpabkjjonbhdeaaDoorHRd
namespace Go.Tcn
set_option linter.unusedVariables false
set_option linter.unusedSimpArgs false
/-- What a writing leaves. -/
def WrTo (T E : TypeId) (p row : Nat) (l' : List Int) (w w' : World) : Prop := ∃ row', Wr w' T E p row' l' ∧ (row' = row ∨ w.heap.size ≤ row') ∧ Tch [p, row] w w'
theorem WrTo.after {T E : TypeId} {p row row1 : Nat} {l : List Int} {w w1 w2 : World} (hr : row1 = row ∨ w.heap.size ≤ row1) (t1 : Tch [p, row] w w1) (h : WrTo T E p row1 l w1 w2) : WrTo T E p row l w w2 := by
  obtain ⟨row2, a, b, c⟩ := h
  refine ⟨row2, a, by have := t1.size; omega, t1.trans c (fun _ _ x => x) (fun i hi hx => ?_)⟩
  simp at hx ⊢
  omega
theorem WrTo.ahead {T E : TypeId} {p row : Nat} {l : List Int} {w w1 w2 : World} (t1 : Tch [] w w1) (h : WrTo T E p row l w1 w2) : WrTo T E p row l w w2 := by
  obtain ⟨row2, a, b, c⟩ := h
  exact ⟨row2, a, by have := t1.size; omega, t1.trans c (by simp) (fun i hi hx => hx)⟩
/-- Three numbers in a block. -/
structure Bx (w : World) (g : Nat) (x y z : Value) : Prop where
  c0 : w.cell? ⟨g, 0, none⟩ = some x
  c1 : w.cell? ⟨g, 1, none⟩ = some y
  c2 : w.cell? ⟨g, 2, none⟩ = some z
theorem Bx.tch {w w' : World} {L : List Nat} {g : Nat} {x y z : Value} (h : Bx w g x y z) (t : Tch L w w') (hg : g ∉ L) : Bx w' g x y z :=
  ⟨by rw [t.cell (cell_lt h.c0) hg]; exact h.c0, by rw [t.cell (cell_lt h.c1) hg]; exact h.c1, by rw [t.cell (cell_lt h.c2) hg]; exact h.c2⟩
theorem Bx.lt {w : World} {g : Nat} {x y z : Value} (h : Bx w g x y z) : g < w.heap.size := cell_lt h.c0
theorem Bx.new (w : World) (x y z : Value) (T : TypeId) : Bx (w.alloc (.cells #[x, y, z] T)) w.heap.size x y z := ⟨by simp [go_sem], by simp [go_sem], by simp [go_sem]⟩
end Go.Tcn
namespace Go.Proofs.YtpabkjjonbhdeaaDoor
open Go.RowKit Go.Tcn
set_option linter.unusedVariables false
set_option linter.unusedSimpArgs false
theorem encI_1 (a b : Int) : encI 1 a b = putN 1 1 ++ putN a 4 := rfl
theorem encI_23 (a b : Int) : encI 23 a b = putN 23 1 ++ putN a 2 := rfl
theorem encI_24 (a b : Int) : encI 24 a b = putN 24 1 ++ putN a 2 := rfl
theorem encI_27 (a b : Int) : encI 27 a b = putN 27 1 ++ (putN a 1 ++ putN b 1) := rfl
theorem encI_one (op a b : Int) (h : op ≠ 1 ∧ op ≠ 23 ∧ op ≠ 24 ∧ op ≠ 27) (h1 : opndN op = 1) : encI op a b = putN op 1 ++ putN a 1 := by unfold encI; rw [if_neg (by omega), if_neg (by omega), if_neg (by omega), if_pos h1]
theorem encI_zero (op a b : Int) (h : op ≠ 1 ∧ op ≠ 23 ∧ op ≠ 24 ∧ op ≠ 27) (h1 : opndN op ≠ 1) : encI op a b = putN op 1 := by unfold encI; rw [if_neg (by omega), if_neg (by omega), if_neg (by omega), if_neg h1, List.append_nil]
theorem opndN_one (op : Int) (h : opndN op ≠ 1) (h27 : op ≠ 27) : opndN op = 0 := by unfold opndN at *; rw [if_neg h27] at *; split at h <;> simp_all

end Go.Proofs.YtpabkjjonbhdeaaDoor
