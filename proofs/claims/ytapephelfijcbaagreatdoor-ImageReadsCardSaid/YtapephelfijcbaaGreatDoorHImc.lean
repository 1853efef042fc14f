/-
  STATEMENT: ImageCuts: an image that is cut, or has more behind it, is none: the walk. Conditions: utf8's tables and the bins as they are laid; the raw statements fit in memory.
-/
import Derived.Test.YtapephelfijcbaaGreatDoorHImy
import Derived.Test.YtapephelfijcbaaGreatDoorHApp2
namespace Go.Proofs.YtapephelfijcbaaGreatDoor
open Go.RowKit Go.Tcn
set_option linter.unusedVariables false
set_option linter.unusedSimpArgs false
theorem app_z (k : Int) (n : Nat) (c0 c1 c2 : List Ins) (h0 : CodeOk c0) (h1 : CodeOk c1) (h2 : CodeOk c2) : ImgZ (appI k n c0 c1 c2) := by
  have hc : ∀ c : List Ins, CodeOk c → c.length ≤ 9223372036854775807 ∧ ∀ x ∈ c, I6 x.b := by
    intro c h
    obtain ⟨h1, h2, h3⟩ := h
    refine ⟨by omega, fun x hx => ?_⟩
    have hr := h1 x hx
    unfold rightI at hr
    have := of_decide_eq_true hr
    obtain ⟨_, _, _, _, hb⟩ := this
    unfold I6
    split at hb <;> omega
  have a0 := hc c0 h0
  have a1 := hc c1 h1
  have a2 := hc c2 h2
  unfold ImgZ appI
  refine ⟨by simp, by simp, ?_, by simp, ?_, by simp⟩
  · intro x hx
    simp at hx
    rcases hx with rfl | rfl <;> simp
  · intro m hm
    simp only [List.mem_cons, List.mem_nil_iff, or_false] at hm
    rcases hm with rfl | rfl | rfl
    · exact ⟨by simp, by simp, a0⟩
    · exact ⟨by simp, by simp, a1⟩
    · exact ⟨by simp, by simp, a2⟩
end Go.Proofs.YtapephelfijcbaaGreatDoor
