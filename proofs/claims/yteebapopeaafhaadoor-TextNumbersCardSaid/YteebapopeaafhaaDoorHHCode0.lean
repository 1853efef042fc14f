/-
  HELPERS over any program: raw statements or instructions, as they lie. Conditions: none.
-/
import Derived.Test.YteebapopeaafhaaDoorHCodeP
namespace Go.Tcn
open Go.RowKit
set_option linter.unusedVariables false
set_option linter.unusedSimpArgs false
abbrev Rw := Int × Int × Int × Int
def rawCells (x : Rw) : Array Value := #[.int .i64 x.1, .int .i64 x.2.1, .int .i64 x.2.2.1, .int .i64 x.2.2.2]
/-- Raw instructions, as they lie. -/
structure Raws (w : World) (v : Value) (l : List Rw) : Prop where
  ex : ∃ ao cap, v = .slice ao l.length cap ∧ l.length ≤ 9223372036854775807 ∧ ∀ (k : Nat) x, l[k]? = some x → ∃ ad, ao = some ad ∧ ad.block < w.heap.size ∧ ∀ (j : Nat) u, (rawCells x).toList[j]? = some u → w.cell? ((ad.add (k * 4)).add j) = some u
  rng : ∀ x ∈ l, I6 x.1 ∧ I6 x.2.1 ∧ I6 x.2.2.1 ∧ I6 x.2.2.2
theorem Raws.tch {w w' : World} {v : Value} {l : List Rw} (h : Raws w v l) (t : Tch [] w w') : Raws w' v l := by
  obtain ⟨ao, cap, h1, h2, h3⟩ := h.ex
  refine ⟨⟨ao, cap, h1, h2, fun k x hk => ?_⟩, h.rng⟩
  obtain ⟨ad, e, hl, hc⟩ := h3 k x hk
  refine ⟨ad, e, Nat.lt_of_lt_of_le hl t.size, fun j u hj => ?_⟩
  rw [t.cell (by rw [Addr_add_block, Addr_add_block]; exact hl) (by simp)]
  exact hc j u hj
end Go.Tcn
