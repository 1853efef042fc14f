/-
  CONTRACTS: chapter 3's example. Conditions: none.
-/
import Derived.Test.YtapephelfijcbaaDoorInstr
namespace Go.Proofs.YtapephelfijcbaaDoor
open Go.RowKit Go.Tcn
set_option linter.unusedVariables false
set_option linter.unusedSimpArgs false
/-- Bytes of a writer, read by a reader. -/
theorem oct_BytesS (w : World) (p row : Nat) (l : List Int) (h : Wr w 96 5 p row l) (hl : l.length ≤ 140737488355328) :
    Calls Tryd.prog 39 #[.pointer (some ⟨p, 0, none⟩)] w fun e w' => ∃ ao cap, e = .returned (.slice ao l.length cap) ∧ Src w' [] (.slice ao l.length cap) l.length (bys l) ∧ Tch [] w w' :=
  (oct_Bytes w p row l h hl).mono fun e w' ⟨ao, cap, he, ho, _, t⟩ => ⟨ao, cap, he, src_of_owns ho [] (by simp), t⟩
end Go.Proofs.YtapephelfijcbaaDoor
