/-
  CONTRACTS: Read of code and taciturnref1, all of it; an instruction of raw numbers. Conditions: the reader's bytes lie in blocks that nobody turns.
  CONTRACTS: chapter 3's example. Conditions: none.
  PLAIN LAW: what is laid is taken again: bytes as lists of numbers. Conditions: none.
  PLAIN LAW: what is laid is read back. Conditions: none.
  PLAIN LAWS: applets' bytes: which may be, how they are laid, how they are read back. Conditions: none.
-/
import Derived.Test.YteebapopeaafhaaDoorHLay
import Derived.Test.YteebapopeaafhaaDoorHHand
import Derived.StillTailTactics
import Derived.Test.YteebapopeaafhaaDoorHImi
namespace Go.Proofs.YteebapopeaafhaaDoor
open Go.RowKit Go.Tcn
set_option linter.unusedVariables false
set_option linter.unusedSimpArgs false

/-- What holds of instr's variables: gq: the raw ones; g3: the instruction. -/
def InR (w : World) (gq g2 g3 : Nat) (o a b c op : Int) (wz : World) : Prop := ∃ x y, I6 x ∧ I6 y ∧ By wz g3 (.int .i64 op) (.int .i64 x) (.int .i64 y) ∧ By wz g2 (.int .i64 0) (.int .i64 0) (.int .i64 0) ∧ Bq wz gq (.int .i64 o) (.int .i64 a) (.int .i64 b) (.int .i64 c) ∧ Tch [] w wz
theorem InR.drew {w wz : World} {gq g2 g3 : Nat} {o a b c op : Int} (h : InR w gq g2 g3 o a b c op wz) : InR w gq g2 g3 o a b c op wz.drew := by
  obtain ⟨x, y, hx, hy, k1, k2, k3, t⟩ := h
  have tt := (Tch.refl [] wz).drew
  exact ⟨x, y, hx, hy, k1.tch tt (by simp), k2.tch tt (by simp), k3.tch tt (by simp), t.drew⟩
end Go.Proofs.YteebapopeaafhaaDoor
namespace Go.Proofs.YteebapopeaafhaaDoor
open Go.RowKit Go.Tcn
set_option linter.unusedVariables false
set_option linter.unusedSimpArgs false
end Go.Proofs.YteebapopeaafhaaDoor
namespace Go.Proofs.YteebapopeaafhaaDoor
open Go.Tcn
set_option linter.unusedVariables false
set_option linter.unusedSimpArgs false
end Go.Proofs.YteebapopeaafhaaDoor
namespace Go.Proofs.YteebapopeaafhaaDoor
open Go.RowKit Go.Tcn
set_option linter.unusedVariables false
set_option linter.unusedSimpArgs false
end Go.Proofs.YteebapopeaafhaaDoor
namespace Go.Tcn
open Go.RowKit
set_option linter.unusedVariables false
set_option linter.unusedSimpArgs false
def insB (x : Ins) : Bool := rightI x.op x.a x.b
def mthB (m : Mth) : Bool := kindsB m.params 4 && resB m.result && kindsB m.locals (10 - m.params.length) && decide (1 ≤ m.code.length ∧ m.code.length ≤ 120) && m.code.all insB
def firstB : List Mth → Bool
  | [] => false
  | m :: _ => decide (m.params.length = 0) && decide (m.result = 0)
def expB (n : Nat) (x : Int) : Bool := decide (0 ≤ x ∧ x < n)
/-- May an applet be? -/
def imgB (i : Img) : Bool := nameB i.name && kindsB i.fields 8 && decide (i.imports.length ≤ 4) && i.imports.all impB && decide (1 ≤ i.methods.length ∧ i.methods.length ≤ 8) && i.methods.all mthB && firstB i.methods && decide (i.exports.length ≤ 4) && i.exports.all (expB i.methods.length)
theorem nameB_le {s : List UInt8} (h : nameB s = true) : 1 ≤ s.length ∧ s.length ≤ 16 := by
  unfold nameB at h
  simp only [Bool.and_eq_true, decide_eq_true_eq] at h
  exact h.1.1
theorem kindsB_le {l : List Int} {m : Int} (h : kindsB l m = true) : (l.length : Int) ≤ m ∧ ∀ x ∈ l, 1 ≤ x ∧ x ≤ 4 := by
  unfold kindsB at h
  simp only [Bool.and_eq_true, decide_eq_true_eq, List.all_eq_true, kindB] at h
  exact h
theorem imgB_le {i : Img} (h : imgB i = true) : (1 ≤ i.name.length ∧ i.name.length ≤ 16) ∧ (i.fields.length ≤ 8 ∧ ∀ y ∈ i.fields, 1 ≤ y ∧ y ≤ 4) ∧ (i.imports.length ≤ 4 ∧ ∀ x ∈ i.imports, impB x = true) ∧ ((1 ≤ i.methods.length ∧ i.methods.length ≤ 8) ∧ ∀ x ∈ i.methods, mthB x = true) ∧ (i.exports.length ≤ 4 ∧ ∀ y ∈ i.exports, 0 ≤ y ∧ y < i.methods.length) := by
  unfold imgB at h
  simp only [Bool.and_eq_true, decide_eq_true_eq, List.all_eq_true, expB] at h
  obtain ⟨⟨⟨⟨⟨⟨⟨⟨h1, h2⟩, h3⟩, h4⟩, h5⟩, h6⟩, h7⟩, h8⟩, h9⟩ := h
  have h2' := kindsB_le h2
  exact ⟨nameB_le h1, ⟨by omega, h2'.2⟩, ⟨h3, h4⟩, ⟨h5, h6⟩, ⟨h8, h9⟩⟩
theorem Byt.tail {a r : List Int} (h : Byt (a ++ r)) : Byt r := fun x hx => h x (by simp [hx])
end Go.Tcn
namespace Go.Proofs.YteebapopeaafhaaDoor
open Go.RowKit Go.Tcn
set_option linter.unusedVariables false
set_option linter.unusedSimpArgs false
end Go.Proofs.YteebapopeaafhaaDoor
