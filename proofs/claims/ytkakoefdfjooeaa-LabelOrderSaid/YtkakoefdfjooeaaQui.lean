/-
  HELPERS over any program: a region that draws its order and whose calls make memory but touch nothing old: one walk serves every order. Conditions: none.
-/
import Derived.Test.YtkakoefdfjooeaaLib
import Derived.Deep.QuietTactic
import Derived.BigQuiet
import Derived.Deep.CutBlock
import Derived.Deep.DeepCutAuto
namespace Go.Tcn
open Go.RowKit
set_option linter.unusedVariables false
set_option linter.unusedSimpArgs false
/-- The worlds that have turned since w in the blocks of L alone. -/
def TW (L : List Nat) (w : World) : Type := {w' : World // Tch L w w'}
def TW.w {L : List Nat} {w : World} (x : TW L w) : World := x.1
theorem TW.t {L : List Nat} {w : World} (x : TW L w) : Tch L w x.w := x.2
theorem wp_region_tch {P : Program} {id : Nat} {Q : Exit → Act → World → Prop} {a : Act} {w0 w : World} {L : List Nat} {l : List Oper} (hm : P.follows .mixedOrders = true) (hB : Region.lexB .any l.toArray = true) (h0 : Tch L w0 w)
    (h : wpQuiet P l.toArray (fun w' => ∃ x : TW L w0, w' = x.w) (fun a' => ∀ w', (∃ x : TW L w0, w' = x.w) → Q .normal a' w') l a) : (Code.region id l.toArray true).wp P Q a w :=
  wp_region_quiet (C := fun w' => ∃ x : TW L w0, w' = x.w) hm hB ⟨⟨w.drew, h0.drew⟩, rfl⟩ (by simpa using h)
/-- A callee that touches nothing old, met in the class. -/
theorem tch_of {P : Program} {f : FuncId} {args : Array Value} {L : List Nat} {w : World} {x : TW L w} {v : Value}
    (h : Calls P f args x.w fun e w' => e = .returned v ∧ Tch [] x.w w') : Calls P f args x.w fun e w'' => e = .returned v ∧ ∃ y : TW L w, w'' = y.w :=
  h.mono fun _ _ ⟨he, ht⟩ => ⟨he, ⟨_, x.t.trans ht (fun _ _ h => h) (by simp)⟩, rfl⟩
theorem tch_of_same {P : Program} {f : FuncId} {args : Array Value} {L : List Nat} {w : World} {x : TW L w} {v : Value}
    (h : Calls P f args x.w fun e w' => e = .returned v ∧ x.w = w') : Calls P f args x.w fun e w'' => e = .returned v ∧ ∃ y : TW L w, w'' = y.w :=
  h.mono fun _ _ ⟨he, ht⟩ => ⟨he, x, ht.symm⟩
end Go.Tcn
