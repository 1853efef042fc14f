/-
  CONTRACTS: link.Resolve and taciturnref8.Resolve: whom an import calls. Conditions: none.
-/
import Derived.Test.YtapephelfijcbaaDoorLnk
import Derived.Test.YtapephelfijcbaaDoorQui
namespace Go.Tcn
open Go.RowKit
set_option linter.unusedVariables false
set_option linter.unusedSimpArgs false
def nth {α : Type} (l : List α) (k : Int) : Option α := if k < 0 then none else l[k.toNat]?
theorem nth_some {α : Type} {l : List α} {k : Int} {x : α} (h : nth l k = some x) : ∃ n : Nat, k = n ∧ n < l.length ∧ l[n]? = some x := by
  unfold nth at h
  split at h
  · cases h
  · have := (List.getElem?_eq_some_iff.1 h).1
    exact ⟨k.toNat, by omega, this, h⟩
theorem nth_none {α : Type} {l : List α} {k : Int} (h : nth l k = none) : k < 0 ∨ (l.length : Int) ≤ k := by
  unfold nth at h
  split at h
  · omega
  · have := List.getElem?_eq_none_iff.1 h
    omega
/-- Whom an import calls: which applet, which of its methods; or nobody. -/
def resolveI (l : List Img) (a k : Int) : Int × Int × Bool :=
  match nth l a with
  | none => (0, 0, false)
  | some i => match nth i.imports k with
    | none => (0, 0, false)
    | some x => match nth l (findI l x.name) with
      | none => (0, 0, false)
      | some j => match nth j.exports x.exp with
        | none => (0, 0, false)
        | some m => match nth j.methods m with
          | none => (0, 0, false)
          | some y => if y.params = x.params ∧ y.result = x.result then (findI l x.name, m, true) else (0, 0, false)
def trip (r : Int × Int × Bool) : Value := .tuple #[.int .i64 r.1, .int .i64 r.2.1, .bool r.2.2]
theorem resolveI_none1 {l : List Img} {a k : Int} (h : nth l a = none) : resolveI l a k = (0, 0, false) := by unfold resolveI; rw [h]
/-- An import of a list, as it lies. -/
theorem RImps.at {w : World} {L : List Nat} {ao : Option Addr} {m c : Nat} {l : List Imp} (h : RImps w L (.slice ao m c) l) {k : Nat} (hk : k < l.length) :
    ∃ ad vp, ao = some ad ∧ ad.block < w.heap.size ∧ RInts w L vp l[k].params ∧ (∀ (j : Nat) u, #[str l[k].name, .int .i64 l[k].exp, vp, .int .i64 l[k].result].toList[j]? = some u → w.cell? ((ad.add (k * 4)).add j) = some u) := by
  obtain ⟨ad, cs, rfl, a1, a2, a3, ⟨vp, rfl, b1⟩, a5⟩ := RL.at h hk (by omega)
  exact ⟨ad, vp, rfl, a1, b1, fun j u hj => by rw [Addr_add_add]; exact a5 j u (by simpa using hj)⟩
theorem RMths.at {w : World} {L : List Nat} {ao : Option Addr} {m c : Nat} {l : List Mth} (h : RMths w L (.slice ao m c) l) {k : Nat} (hk : k < l.length) :
    ∃ ad vp vl vc, ao = some ad ∧ ad.block < w.heap.size ∧ RInts w L vp l[k].params ∧ RInts w L vl l[k].locals ∧ RCode w L vc l[k].code ∧ (∀ (j : Nat) u, #[vp, .int .i64 l[k].result, vl, vc].toList[j]? = some u → w.cell? ((ad.add (k * 4)).add j) = some u) := by
  obtain ⟨ad, cs, rfl, a1, a2, a3, ⟨vp, vl, vc, rfl, b1, b2, b3⟩, a5⟩ := RL.at h hk (by omega)
  exact ⟨ad, vp, vl, vc, rfl, a1, b1, b2, b3, fun j u hj => by rw [Addr_add_add]; exact a5 j u (by simpa using hj)⟩
theorem RImps.form {w : World} {L : List Nat} {v : Value} {l : List Imp} (h : RImps w L v l) : ∃ ao c, v = .slice ao l.length c := by
  obtain ⟨css, h1, h2, h3, h4⟩ := h.ex
  exact h3.form
theorem RMths.form {w : World} {L : List Nat} {v : Value} {l : List Mth} (h : RMths w L v l) : ∃ ao c, v = .slice ao l.length c := by
  obtain ⟨css, h1, h2, h3, h4⟩ := h.ex
  exact h3.form
end Go.Tcn
namespace Go.Proofs.YtapephelfijcbaaDoor
open Go.RowKit Go.Tcn
set_option linter.unusedVariables false
set_option linter.unusedSimpArgs false

end Go.Proofs.YtapephelfijcbaaDoor
