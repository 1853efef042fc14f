/-
  CONTRACTS: lists of numbers compared; an applet found by its name. Conditions: none.
  CONTRACTS: link.Resolve and taciturnref8.Resolve: whom an import calls. Conditions: none.
-/
import Derived.Test.YteebapopeaafhaaDoorHCodeP
import Derived.Test.YteebapopeaafhaaDoorHHand
namespace Go.Tcn
open Go.RowKit
set_option linter.unusedVariables false
set_option linter.unusedSimpArgs false
def RImgs (w : World) (v : Value) (l : List Img) : Prop := RL w [] 5 (RImg w []) v l
theorem RImgs.tch {w w' : World} {v : Value} {l : List Img} (h : RImgs w v l) (ht : Tch [] w w') : RImgs w' v l := RL.tch h (fun _ _ r => r.tch ht (by simp)) ht (by simp)
theorem RImgs.form {w : World} {v : Value} {l : List Img} (h : RImgs w v l) : ∃ ao c, v = .slice ao l.length c := by
  obtain ⟨css, h1, h2, h3, h4⟩ := h.ex
  exact h3.form
/-- One applet of a list, as it lies. -/
theorem RImgs.at {w : World} {ao : Option Addr} {m c : Nat} {l : List Img} (h : RImgs w (.slice ao m c) l) {k : Nat} (hk : k < l.length) :
    ∃ ad vf vi vm ve, ao = some ad ∧ ad.block < w.heap.size ∧ RInts w [] vf l[k].fields ∧ RImps w [] vi l[k].imports ∧ RMths w [] vm l[k].methods ∧ RInts w [] ve l[k].exports ∧
      (∀ (j : Nat) u, #[str l[k].name, vf, vi, vm, ve].toList[j]? = some u → w.cell? ((ad.add (k * 5)).add j) = some u) := by
  obtain ⟨ad, cs, rfl, a1, a2, a3, ⟨vf, vi, vm, ve, rfl, b1, b2, b3, b4⟩, a5⟩ := RL.at h hk (by omega)
  refine ⟨ad, vf, vi, vm, ve, rfl, a1, b1, b2, b3, b4, fun j u hj => ?_⟩
  have := a5 j u (by simpa using hj)
  rw [Addr_add_add]
  exact this
end Go.Tcn
namespace Go.Proofs.YteebapopeaafhaaDoor
open Go.RowKit Go.Tcn
set_option linter.unusedVariables false
set_option linter.unusedSimpArgs false

end Go.Proofs.YteebapopeaafhaaDoor
namespace Go.Tcn
open Go.RowKit
set_option linter.unusedVariables false
set_option linter.unusedSimpArgs false
/-- An import of a list, as it lies. -/
theorem RImps.at {w : World} {L : List Nat} {ao : Option Addr} {m c : Nat} {l : List Imp} (h : RImps w L (.slice ao m c) l) {k : Nat} (hk : k < l.length) :
    ∃ ad vp, ao = some ad ∧ ad.block < w.heap.size ∧ RInts w L vp l[k].params ∧ (∀ (j : Nat) u, #[str l[k].name, .int .i64 l[k].exp, vp, .int .i64 l[k].result].toList[j]? = some u → w.cell? ((ad.add (k * 4)).add j) = some u) := by
  obtain ⟨ad, cs, rfl, a1, a2, a3, ⟨vp, rfl, b1⟩, a5⟩ := RL.at h hk (by omega)
  exact ⟨ad, vp, rfl, a1, b1, fun j u hj => by rw [Addr_add_add]; exact a5 j u (by simpa using hj)⟩
theorem RMths.at {w : World} {L : List Nat} {ao : Option Addr} {m c : Nat} {l : List Mth} (h : RMths w L (.slice ao m c) l) {k : Nat} (hk : k < l.length) :
    ∃ ad vp vl vc, ao = some ad ∧ ad.block < w.heap.size ∧ RInts w L vp l[k].params ∧ RInts w L vl l[k].locals ∧ RCode w L vc l[k].code ∧ (∀ (j : Nat) u, #[vp, .int .i64 l[k].result, vl, vc].toList[j]? = some u → w.cell? ((ad.add (k * 4)).add j) = some u) := by
  obtain ⟨ad, cs, rfl, a1, a2, a3, ⟨vp, vl, vc, rfl, b1, b2, b3⟩, a5⟩ := RL.at h hk (by omega)
  exact ⟨ad, vp, vl, vc, rfl, a1, b1, b2, b3, fun j u hj => by rw [Addr_add_add]; exact a5 j u (by simpa using hj)⟩
theorem RImps.form {w : World} {L : List Nat} {v : Value} {l : List Imp} (h : RImps w L v l) : ∃ ao c, v = .slice ao l.length c := by
  obtain ⟨css, h1, h2, h3, h4⟩ := h.ex
  exact h3.form
theorem RMths.form {w : World} {L : List Nat} {v : Value} {l : List Mth} (h : RMths w L v l) : ∃ ao c, v = .slice ao l.length c := by
  obtain ⟨css, h1, h2, h3, h4⟩ := h.ex
  exact h3.form
end Go.Tcn
namespace Go.Proofs.YteebapopeaafhaaDoor
open Go.RowKit Go.Tcn
set_option linter.unusedVariables false
set_option linter.unusedSimpArgs false

end Go.Proofs.YteebapopeaafhaaDoor
