/-
  HELPERS of chapter 5's walks. Conditions: none.
-/
import Derived.Test.YteebapopeaafhaaDoorHTnK
namespace Go.Tcn
open Go.RowKit
theorem cellsI {w w' : World} {g : Nat} {cs : Array Value} {T : TypeId} {fr : Nat × Nat} (h : w.heap[g]? = some (.cells cs T fr)) (t : Tch [] w w') : ∀ (a : Nat) u, cs.toList[a]? = some u → w'.cell? ((⟨g, 0, none⟩ : Addr).add a) = some u :=
  fun a u hu => World.news_of_block ((t.block g (heap_lt h) (by simp)).trans h) a u hu
end Go.Tcn
namespace Go.Proofs.YteebapopeaafhaaDoor
open Go.RowKit Go.Tcn
set_option linter.unusedVariables false
set_option linter.unusedSimpArgs false
theorem ValC.tch' {w w' : World} (h : ValC w) (t : Tch [] w w') : ValC w' := fun nm w2 h16 t' => h nm w2 h16 (t.then t')
end Go.Proofs.YteebapopeaafhaaDoor
