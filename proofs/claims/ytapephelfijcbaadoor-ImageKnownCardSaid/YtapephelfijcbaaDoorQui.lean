/-
  HELPERS over any program: a region that draws its order and whose calls make memory but touch nothing old: one walk serves every order. Conditions: none.
-/
import Derived.Test.YtapephelfijcbaaDoorLib
import Derived.Deep.QuietTactic
import Derived.BigQuiet
import Derived.Deep.CutBlock
import Derived.Deep.DeepCutAuto
namespace Go.Tcn
open Go.RowKit
set_option linter.unusedVariables false
set_option linter.unusedSimpArgs false
/-- The worlds that have turned since w in the blocks of L alone. -/
def TW (L : List Nat) (w : World) : Type := {w' : World // Tch L w w'}
def TW.w {L : List Nat} {w : World} (x : TW L w) : World := x.1
theorem TW.t {L : List Nat} {w : World} (x : TW L w) : Tch L w x.w := x.2
theorem wp_region_tch {P : Program} {id : Nat} {Q : Exit → Act → World → Prop} {a : Act} {w0 w : World} {L : List Nat} {l : List Oper} (hm : P.follows .mixedOrders = true) (hB : Region.lexB .any l.toArray = true) (h0 : Tch L w0 w)
    (h : wpQuiet P l.toArray (fun w' => ∃ x : TW L w0, w' = x.w) (fun a' => ∀ w', (∃ x : TW L w0, w' = x.w) → Q .normal a' w') l a) : (Code.region id l.toArray true).wp P Q a w :=
  wp_region_quiet (C := fun w' => ∃ x : TW L w0, w' = x.w) hm hB ⟨⟨w.drew, h0.drew⟩, rfl⟩ (by simpa using h)
/-- A callee that touches nothing old, met in the class. -/
theorem tch_of {P : Program} {f : FuncId} {args : Array Value} {L : List Nat} {w : World} {x : TW L w} {v : Value}
    (h : Calls P f args x.w fun e w' => e = .returned v ∧ Tch [] x.w w') : Calls P f args x.w fun e w'' => e = .returned v ∧ ∃ y : TW L w, w'' = y.w :=
  h.mono fun _ _ ⟨he, ht⟩ => ⟨he, ⟨_, x.t.trans ht (fun _ _ h => h) (by simp)⟩, rfl⟩
theorem tch_of_same {P : Program} {f : FuncId} {args : Array Value} {L : List Nat} {w : World} {x : TW L w} {v : Value}
    (h : Calls P f args x.w fun e w' => e = .returned v ∧ x.w = w') : Calls P f args x.w fun e w'' => e = .returned v ∧ ∃ y : TW L w, w'' = y.w :=
  h.mono fun _ _ ⟨he, ht⟩ => ⟨he, x, ht.symm⟩
/-- A struct read whole in a region that draws its order. -/
theorem quiet_load_agg {P : Program} {o : Oper} {a : Act} {C : World → Prop} {K : Act → Prop} (ty : TypeId) (x : Operand) (ho : o.op = .load ty x)
    (ad : Addr) (hx : a.eval x = .pointer (some ad)) (cs : Array Value) (d : TypeDesc) (hc : ∀ w, C w → ∀ (j : Nat) u, cs.toList[j]? = some u → w.cell? (ad.add j) = some u)
    (hu : P.underlying ty = some d) (hd : (match d with | .struct _ | .array _ _ => true | _ => false) = true) (hi : (P.info? ty).map (·.size) = some cs.size)
    (h : K (a.put o.dst (.agg cs))) : o.quiet P a C K := by
  refine ⟨.agg cs, fun w hw => ?_, h⟩
  unfold Oper.quietAt execOp
  simp only [ho, hx, Instr.loadAt, Instr.sureAddr, Sem.run_bind, Sem.run_pure, Result.andThen_ok, run_loadVar_agg w ad ty cs d (hc w hw) hu hd hi]
  exact ⟨rfl, rfl⟩
end Go.Tcn
