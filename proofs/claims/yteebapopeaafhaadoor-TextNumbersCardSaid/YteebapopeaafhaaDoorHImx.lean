/-
  CONTRACTS: image: an applet's bytes. Conditions: utf8's tables as they are laid; sizes of 64 bits.
  CONTRACTS: image.Same: which applets are the same. Conditions: sizes of 64 bits.
-/
import Derived.Test.YteebapopeaafhaaDoorHImr
import Derived.Test.YteebapopeaafhaaDoorHLay
import Derived.Test.YteebapopeaafhaaDoorHCodeP
import Derived.Laws.IdiomStrings
import Derived.Laws.AppendOwn
namespace Go.Tcn
open Go.RowKit
set_option linter.unusedVariables false
set_option linter.unusedSimpArgs false
/-- A writer of the call's own, behind world V. -/
structure LJ (T E : TypeId) (V w : World) (p r : Nat) (l : List Int) : Prop where
  wr : Wr w T E p r l
  hp : V.heap.size ≤ p
  hr : V.heap.size ≤ r
  t : Tch [] V w
theorem LJ.step {T E : TypeId} {V w w' : World} {p r : Nat} {l l' : List Int} (h : LJ T E V w p r l) (k : WrTo T E p r l' w w') : ∃ r', LJ T E V w' p r' l' := by
  obtain ⟨r', a, b, c⟩ := k
  have := h.t.size
  have h1 := h.hp
  have h2 := h.hr
  exact ⟨r', a, h1, by omega, h.t.trans c (by simp) (fun i hi hx => by simp at hx; omega)⟩
end Go.Tcn
namespace Go.Proofs.YteebapopeaafhaaDoor
open Go.RowKit Go.Tcn
set_option linter.unusedVariables false
set_option linter.unusedSimpArgs false
end Go.Proofs.YteebapopeaafhaaDoor
namespace Go.Tcn
open Go.RowKit
set_option linter.unusedVariables false
set_option linter.unusedSimpArgs false
/-- The cells of an instruction of a list, as the walk names them. -/
theorem RCode.at3 {w : World} {L : List Nat} {ao : Option Addr} {m c : Nat} {l : List Ins} (h : RCode w L (.slice ao m c) l) {k : Nat} (hk : k < l.length) :
    ∃ ad, ao = some ad ∧ ad.block < w.heap.size ∧ w.cell? (ad.add (k * 3)) = some (.int .i64 l[k].op) ∧ w.cell? ⟨(ad.add (k * 3)).block, (ad.add (k * 3)).off + 1, none⟩ = some (.int .i64 l[k].a) ∧ w.cell? ⟨(ad.add (k * 3)).block, (ad.add (k * 3)).off + 2, none⟩ = some (.int .i64 l[k].b) := by
  obtain ⟨ad, rfl, hl, hc⟩ := h.at hk
  have e0 := hc 0 _ rfl
  have e1 := hc 1 _ rfl
  have e2 := hc 2 _ rfl
  rw [Addr_add_zero] at e0
  have ea : ∀ (A : Addr) n, n ≠ 0 → A.add n = ⟨A.block, A.off + n, none⟩ := fun A n hn => by simp [Addr.add, hn]
  rw [ea _ 1 (by omega)] at e1
  rw [ea _ 2 (by omega)] at e2
  exact ⟨ad, rfl, hl, e0, e1, e2⟩
end Go.Tcn
namespace Go.Proofs.YteebapopeaafhaaDoor
open Go.RowKit Go.Tcn
set_option linter.unusedVariables false
set_option linter.unusedSimpArgs false
theorem decI (x y : Imp) : decide (x = y) = (decide (x.name = y.name) && decide (x.exp = y.exp) && decide (x.params = y.params) && decide (x.result = y.result)) := by
  cases x; cases y
  simp only [Imp.mk.injEq, Bool.decide_and]
  simp only [Bool.and_assoc]
theorem decM (x y : Mth) : decide (x = y) = (decide (x.params = y.params) && decide (x.result = y.result) && decide (x.locals = y.locals) && decide (x.code = y.code)) := by
  cases x; cases y
  simp only [Mth.mk.injEq, Bool.decide_and]
  simp only [Bool.and_assoc]
theorem decG (x y : Img) : decide (x = y) = (decide (x.name = y.name) && decide (x.fields = y.fields) && decide (x.imports = y.imports) && decide (x.methods = y.methods) && decide (x.exports = y.exports)) := by
  cases x; cases y
  simp only [Img.mk.injEq, Bool.decide_and]
  simp only [Bool.and_assoc]
end Go.Proofs.YteebapopeaafhaaDoor
