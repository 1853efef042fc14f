/-
  HELPERS over any program: what reads as applets may be said of fewer blocks. Conditions: none.
-/
import Derived.Test.YtapephelfijcbaaDoorImg
namespace Go.Tcn
open Go.RowKit
set_option linter.unusedVariables false
set_option linter.unusedSimpArgs false
theorem RInts.mono {w : World} {L L' : List Nat} {v : Value} {l : List Int} (h : RInts w L v l) (hm : ∀ i ∈ L', i < w.heap.size → i ∈ L) : RInts w L' v l := Src.mono h hm
theorem RCode.mono {w : World} {L L' : List Nat} {v : Value} {l : List Ins} (h : RCode w L v l) (hm : ∀ i ∈ L', i < w.heap.size → i ∈ L) : RCode w L' v l := Src.mono h hm
theorem RMth.mono {w : World} {L L' : List Nat} {cs : List Value} {m : Mth} (h : RMth w L cs m) (hm : ∀ i ∈ L', i < w.heap.size → i ∈ L) : RMth w L' cs m := by
  obtain ⟨vp, vl, vc, hc, h1, h2, h3⟩ := h
  exact ⟨vp, vl, vc, hc, h1.mono hm, h2.mono hm, h3.mono hm⟩
theorem RImp.mono {w : World} {L L' : List Nat} {cs : List Value} {m : Imp} (h : RImp w L cs m) (hm : ∀ i ∈ L', i < w.heap.size → i ∈ L) : RImp w L' cs m := by
  obtain ⟨vp, hc, h1⟩ := h
  exact ⟨vp, hc, h1.mono hm⟩
theorem RMths.mono {w : World} {L L' : List Nat} {v : Value} {l : List Mth} (h : RMths w L v l) (hm : ∀ i ∈ L', i < w.heap.size → i ∈ L) : RMths w L' v l := by
  obtain ⟨css, h1, h2, h3, h4⟩ := h.ex
  exact ⟨css, h1, h2, h3.mono hm, fun k cs x a b => (h4 k cs x a b).mono hm⟩
theorem RImps.mono {w : World} {L L' : List Nat} {v : Value} {l : List Imp} (h : RImps w L v l) (hm : ∀ i ∈ L', i < w.heap.size → i ∈ L) : RImps w L' v l := by
  obtain ⟨css, h1, h2, h3, h4⟩ := h.ex
  exact ⟨css, h1, h2, h3.mono hm, fun k cs x a b => (h4 k cs x a b).mono hm⟩
theorem RImg.mono {w : World} {L L' : List Nat} {cs : List Value} {i : Img} (h : RImg w L cs i) (hm : ∀ i ∈ L', i < w.heap.size → i ∈ L) : RImg w L' cs i := by
  obtain ⟨vf, vi, vm, ve, hc, h1, h2, h3, h4⟩ := h
  exact ⟨vf, vi, vm, ve, hc, h1.mono hm, h2.mono hm, h3.mono hm, h4.mono hm⟩
theorem RInts.thin {w : World} {L : List Nat} {v : Value} {l : List Int} (h : RInts w L v l) : RInts w [] v l := Src.mono h (by simp)
theorem RCode.thin {w : World} {L : List Nat} {v : Value} {l : List Ins} (h : RCode w L v l) : RCode w [] v l := Src.mono h (by simp)
theorem RMth.thin {w : World} {L : List Nat} {cs : List Value} {m : Mth} (h : RMth w L cs m) : RMth w [] cs m := by
  obtain ⟨vp, vl, vc, hc, h1, h2, h3⟩ := h
  exact ⟨vp, vl, vc, hc, h1.thin, h2.thin, h3.thin⟩
theorem RImp.thin {w : World} {L : List Nat} {cs : List Value} {m : Imp} (h : RImp w L cs m) : RImp w [] cs m := by
  obtain ⟨vp, hc, h1⟩ := h
  exact ⟨vp, hc, h1.thin⟩
theorem RMths.thin {w : World} {L : List Nat} {v : Value} {l : List Mth} (h : RMths w L v l) : RMths w [] v l := by
  obtain ⟨css, h1, h2, h3, h4⟩ := h.ex
  exact ⟨css, h1, h2, h3.mono (by simp), fun k cs x a b => (h4 k cs x a b).thin⟩
theorem RImps.thin {w : World} {L : List Nat} {v : Value} {l : List Imp} (h : RImps w L v l) : RImps w [] v l := by
  obtain ⟨css, h1, h2, h3, h4⟩ := h.ex
  exact ⟨css, h1, h2, h3.mono (by simp), fun k cs x a b => (h4 k cs x a b).thin⟩
theorem RImg.thin {w : World} {L : List Nat} {cs : List Value} {i : Img} (h : RImg w L cs i) : RImg w [] cs i := by
  obtain ⟨vf, vi, vm, ve, hc, h1, h2, h3, h4⟩ := h
  exact ⟨vf, vi, vm, ve, hc, h1.thin, h2.thin, h3.thin, h4.thin⟩
end Go.Tcn
