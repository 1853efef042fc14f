/-
  CONTRACTS: names, Name, Op, within, Right of taciturnref1. Conditions: none.
-/
import Derived.Test.YtapephelfijcbaaDoorCode2
import Derived.Test.YtapephelfijcbaaDoorImg
namespace Go.Proofs.YtapephelfijcbaaDoor
open Go.RowKit Go.Tcn
set_option linter.unusedVariables false
set_option linter.unusedSimpArgs false
theorem addr0 (b k : Nat) : (⟨b, 0, none⟩ : Addr).add k = ⟨b, k, none⟩ := by
  unfold Addr.add
  split
  · rename_i h; rw [h]
  · simp
def nmVals : List Value := ([] :: nmTab).map fun l => Value.string ⟨l.toArray⟩
theorem nmVals_length : nmVals.length = 40 := rfl
theorem nmVals_at (k : Nat) (h1 : 1 ≤ k) (h2 : k ≤ 39) : nmVals[k]'(by rw [nmVals_length]; omega) = .string ⟨(nmTab[k - 1]'(by show _ < 39; omega)).toArray⟩ := by
  obtain ⟨j, rfl⟩ : ∃ j, k = j + 1 := ⟨k - 1, by omega⟩
  simp [nmVals]
theorem nmAt_at (k : Nat) (h1 : 1 ≤ k) (h2 : k ≤ 39) : nmAt (k : Int) = nmTab[k - 1]'(by show _ < 39; omega) := by
  unfold nmAt
  rw [if_pos (by omega)]
  have hl : k - 1 < nmTab.length := by show _ < 39; omega
  simp [List.getD, hl]
theorem opAt_def (s : List UInt8) : opAt s = match firstW (fun _ w => w == s) nmTab 1 with | some (n, _) => (n : Int) | none => 0 := rfl
end Go.Proofs.YtapephelfijcbaaDoor
