/-
  NUMBERS THAT CAME IN, opened. Conditions: none.
-/
import Derived.Test.YtapephelfijcbaaDoorImg
import Derived.Test.YtapephelfijcbaaDoorRawOpen
namespace Go.Proofs.YtapephelfijcbaaDoor
open Go.Tcn Go.RowKit Go.ChangeShapes Go.WideShapes Go.Deep
set_option linter.unusedVariables false
set_option linter.unusedSimpArgs false
set_option maxRecDepth 100000
section
variable {H : Type} {enc : TypeId × Value → H}
theorem open_intz {W : World} {fuel : Nat} {v : Value} {d : DataW H} {ps : List MemPlace} (h : DataW.trod enc Tryd.prog W 0 (fun _ => true) true fuel 22 [v] = some (d, ps)) : ∃ l, RInts W [] v l ∧ (∀ x ∈ l, I6 x) ∧ l.length ≤ 9223372036854775807 := by
  rcases open_ints Tryd.underlying22 Tryd.underlying3 cells_int1 h with ⟨h1, h2⟩ | ⟨a, len, cap, zs, h1, _, hl, hm, hz, hx, hcell, hwf⟩
  · simp only [List.cons.injEq, and_true] at h1
    subst h1
    exact ⟨[], ⟨.inl ⟨rfl, rfl, rfl⟩⟩, by simp, by simp⟩
  · simp only [List.cons.injEq, and_true] at h1
    subst h1
    simp only [if_true] at hz
    have hlen : (zs.take len).length = len := by simp; omega
    have hmx : cap ≤ 9223372036854775807 := by simpa [maxLen] using hm
    refine ⟨zs.take len, ?_, fun x hx => i6_of_wf (hwf x (List.mem_of_mem_take hx)), by omega⟩
    unfold RInts
    rw [hlen]
    refine ⟨.inr ⟨a, cap, rfl, hl, fun j u hj => ?_⟩⟩
    have hj2 : j < len := by
      have := (List.getElem?_eq_some_iff.1 hj).1
      simp [ints] at this; omega
    refine ⟨by simp, ?_⟩
    rw [hcell j (by omega)]
    simp [ints, List.getElem?_take, hj2] at hj
    obtain ⟨y, hy, rfl⟩ := hj
    simp [List.getD, hy]
end
end Go.Proofs.YtapephelfijcbaaDoor
