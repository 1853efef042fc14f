/-
  PLAIN LAW: text: the two parsers of lines, side by side. Conditions: what a name is, what an operation is called, and what a number is, are given.
  PLAIN LAW: text: words taken rune by rune and words taken byte by byte. Conditions: none.
  PLAIN LAW: text: what is told of a word holds of it turned, too. Conditions: none.
  PLAIN LAW: text: lines; both parsers of a text. Conditions: none.
  PLAIN LAW: text: a number's digits, read back. Conditions: ten digits at most.
  PLAIN LAW: text: an applet's lines, and what they are read as. Conditions: an applet that may be.
  PLAIN LAW: text: the document's number and digits are the program's. Conditions: none.
  PLAIN LAW: text: what is printed is parsed back. Conditions: an applet that may be.
-/
import Derived.Test.YteebapopeaafhaaGreatDoorHImP
import Derived.Lib.MapLaws
import Derived.Lib.ValidLaws
import Derived.Lib.TrimUEq
import Derived.Lib.TrimAscii
import Derived.Lib.SpaceUEq
import Derived.Test.YteebapopeaafhaaGreatDoorHCode5
import Derived.Lib.ItoaNum
namespace Go.Tcn
open Go.RowKit
set_option linter.unusedVariables false
set_option linter.unusedSimpArgs false
abbrev Wd := List UInt8
/-- What both parsers lean on. -/
structure Lean1 where
  isName : Wd → Bool
  op : Wd → Int
  opnds : Int → Nat
  num : Wd → Option Int
  kind : Wd → Int
  name0 : isName [] = false
  op0 : ∀ w, 0 ≤ op w
  k1 : op [97, 112, 112, 108, 101, 116] = 0
  k2 : op [102, 105, 101, 108, 100] = 0
  k3 : op [105, 109, 112, 111, 114, 116] = 0
  k4 : op [109, 101, 116, 104, 111, 100] = 0
  k5 : op [108, 111, 99, 97, 108, 115] = 0
  k6 : op [101, 120, 112, 111, 114, 116] = 0
  two : ∀ w, opnds (op w) ≤ 2
def kApplet : Wd := [97, 112, 112, 108, 101, 116]
def kField : Wd := [102, 105, 101, 108, 100]
def kImport : Wd := [105, 109, 112, 111, 114, 116]
def kMethod : Wd := [109, 101, 116, 104, 111, 100]
def kLocals : Wd := [108, 111, 99, 97, 108, 115]
def kExport : Wd := [101, 120, 112, 111, 114, 116]
variable (U : Lean1)
/-- Words as kinds. -/
def kindsP : List Wd → Option (List Int)
  | [] => some []
  | w :: l => if U.kind w ≤ 0 then none else (kindsP l).map (U.kind w :: ·)
def addLast (ms : List Mth) (f : Mth → Mth) : List Mth := match ms.getLast? with
  | none => ms
  | some m => ms.dropLast ++ [f m]
/-- An instruction of its words. -/
def insW (op : Int) (ws : List Wd) : Option Ins :=
  if ws.length ≠ U.opnds op then none else match ws with
    | [] => some ⟨op, 0, 0⟩
    | [a] => (U.num a).map fun x => ⟨op, x, 0⟩
    | a :: b :: _ => match U.num a, U.num b with
      | some x, some y => some ⟨op, x, y⟩
      | _, _ => none
structure PT where
  i : Img
  stage : Nat
  fresh : Bool
/-- text's parser: a line of words. -/
def lineT (p : PT) (ws : List Wd) : Option PT :=
  match ws with
  | [] => none
  | w0 :: r =>
    let f := w0 == kMethod
    if w0 = kApplet then (if p.stage ≠ 0 ∨ p.i.name ≠ [] then none else match r with
      | [n] => if U.isName n then some ⟨{ p.i with name := n }, p.stage, f⟩ else none
      | _ => none)
    else if w0 = kField then (if p.i.name = [] ∨ 1 < p.stage then none else match kindsP U r with
      | some [k] => some ⟨{ p.i with fields := p.i.fields ++ [k] }, 1, f⟩
      | _ => none)
    else if w0 = kImport then (if p.i.name = [] ∨ 2 < p.stage then none else match r with
      | n :: e :: k :: ps => if U.isName n = true ∧ 0 ≤ U.kind k then match U.num e, kindsP U ps with
        | some x, some l => some ⟨{ p.i with imports := p.i.imports ++ [⟨n, x, l, U.kind k⟩] }, 2, f⟩
        | _, _ => none else none
      | _ => none)
    else if w0 = kMethod then (if p.i.name = [] ∨ 3 < p.stage then none else match r with
      | k :: ps => if 0 ≤ U.kind k then match kindsP U ps with
        | some l => some ⟨{ p.i with methods := p.i.methods ++ [⟨l, U.kind k, [], []⟩] }, 3, f⟩
        | none => none else none
      | _ => none)
    else if w0 = kLocals then (match kindsP U r with
      | some (k :: l) => if p.fresh then some ⟨{ p.i with methods := addLast p.i.methods fun m => { m with locals := k :: l } }, p.stage, f⟩ else none
      | _ => none)
    else if w0 = kExport then (if p.i.methods = [] ∨ p.i.name = [] ∨ 4 < p.stage then none else match r with
      | [e] => (U.num e).map fun x => ⟨{ p.i with exports := p.i.exports ++ [x] }, 4, f⟩
      | _ => none)
    else if p.stage ≠ 3 ∨ U.op w0 = 0 then none else (insW U (U.op w0) r).map fun x => ⟨{ p.i with methods := addLast p.i.methods fun m => { m with code := m.code ++ [x] } }, p.stage, f⟩
structure PR where
  i : Img
  at' : Nat
/-- The document's parser: a line of words. -/
def lineR (p : PR) (ws : List Wd) : Option PR :=
  match ws with
  | [] => none
  | w0 :: r =>
    if p.at' = 0 then (match r with
      | [n] => if w0 = kApplet ∧ U.isName n = true then some ⟨{ p.i with name := n }, 1⟩ else none
      | _ => none)
    else if w0 = kField ∧ p.at' ≤ 2 then (match kindsP U r with
      | some [k] => some ⟨{ p.i with fields := p.i.fields ++ [k] }, 2⟩
      | _ => none)
    else if w0 = kImport ∧ p.at' ≤ 3 then (match r with
      | n :: e :: k :: ps => if U.isName n = true ∧ 0 ≤ U.kind k then match U.num e, kindsP U ps with
        | some x, some l => some ⟨{ p.i with imports := p.i.imports ++ [⟨n, x, l, U.kind k⟩] }, 3⟩
        | _, _ => none else none
      | _ => none)
    else if w0 = kMethod ∧ p.at' ≤ 6 then (match r with
      | k :: ps => if 0 ≤ U.kind k then match kindsP U ps with
        | some l => some ⟨{ p.i with methods := p.i.methods ++ [⟨l, U.kind k, [], []⟩] }, 4⟩
        | none => none else none
      | _ => none)
    else if w0 = kLocals ∧ p.at' = 4 then (match kindsP U r with
      | some (k :: l) => some ⟨{ p.i with methods := addLast p.i.methods fun m => { m with locals := k :: l } }, 5⟩
      | _ => none)
    else if 0 < U.op w0 ∧ 4 ≤ p.at' ∧ p.at' ≤ 6 then (insW U (U.op w0) r).map fun x => ⟨{ p.i with methods := addLast p.i.methods fun m => { m with code := m.code ++ [x] } }, 6⟩
    else if w0 = kExport ∧ 4 ≤ p.at' then (match r with
      | [e] => (U.num e).map fun x => ⟨{ p.i with exports := p.i.exports ++ [x] }, 7⟩
      | _ => none)
    else none
/-- Both stand alike. -/
structure Sim (p : PT) (q : PR) : Prop where
  i : p.i = q.i
  nm : p.i.name = [] ↔ q.at' = 0
  ms : p.i.methods = [] ↔ q.at' < 4
  st : p.stage = if q.at' ≤ 1 then 0 else if q.at' = 2 then 1 else if q.at' = 3 then 2 else if q.at' ≤ 6 then 3 else 4
  fr : p.fresh = decide (q.at' = 4)
  le : q.at' ≤ 7
theorem addLast_ne (ms : List Mth) (f : Mth → Mth) : addLast ms f = [] ↔ ms = [] := by
  unfold addLast
  cases h : ms.getLast? with
  | none => simp
  | some m =>
    simp only
    constructor
    · intro e; simp at e
    · intro e; subst e; simp at h
def stg (a : Nat) : Nat := if a ≤ 1 then 0 else if a = 2 then 1 else if a = 3 then 2 else if a ≤ 6 then 3 else 4
theorem stg1 (a : Nat) : 1 < stg a ↔ 2 < a := by unfold stg; (repeat' split) <;> omega
theorem stg2 (a : Nat) : 2 < stg a ↔ 3 < a := by unfold stg; (repeat' split) <;> omega
theorem stg3 (a : Nat) : 3 < stg a ↔ 6 < a := by unfold stg; (repeat' split) <;> omega
theorem stg4 (a : Nat) : ¬ 4 < stg a := by unfold stg; (repeat' split) <;> omega
theorem stg5 (a : Nat) : stg a = 3 ↔ 4 ≤ a ∧ a ≤ 6 := by unfold stg; (repeat' split) <;> omega
theorem Sim.mk' {i : Img} {a : Nat} (h1 : i.name = [] ↔ a = 0) (h2 : i.methods = [] ↔ a < 4) (h3 : a ≤ 7) : Sim ⟨i, stg a, decide (a = 4)⟩ ⟨i, a⟩ := ⟨rfl, h1, h2, rfl, rfl, h3⟩
/-- Both refuse, or both go on alike. -/
def Alike (x : Option PT) (y : Option PR) : Prop := (x = none ∧ y = none) ∨ ∃ p q, x = some p ∧ y = some q ∧ Sim p q
theorem Alike.no {x : Option PT} {y : Option PR} (h1 : x = none) (h2 : y = none) : Alike x y := .inl ⟨h1, h2⟩
theorem Alike.go {x : Option PT} {y : Option PR} {i : Img} {a : Nat} {s : Nat} {f : Bool} (h1 : x = some ⟨i, s, f⟩) (h2 : y = some ⟨i, a⟩) (n1 : i.name = [] ↔ a = 0) (n2 : i.methods = [] ↔ a < 4) (n3 : a ≤ 7) (hs : s = stg a) (hf : f = decide (a = 4)) : Alike x y := .inr ⟨_, _, h1, h2, by subst hs hf; exact Sim.mk' n1 n2 n3⟩
theorem lineR0 {i : Img} {w0 : Wd} {r : List Wd} (h : w0 ≠ kApplet) : lineR U ⟨i, 0⟩ (w0 :: r) = none := by
  unfold lineR
  simp only [if_true]
  split
  · rw [if_neg (fun e => h e.1)]
  · rfl
theorem lineT0 {i : Img} {w0 : Wd} {r : List Wd} (h : w0 ≠ kApplet) (hn : i.name = []) (hm : i.methods = []) : lineT U ⟨i, 0, false⟩ (w0 :: r) = none := by
  unfold lineT
  simp only [if_neg h, hn, hm, true_or, if_true]
  repeat' split
  all_goals first | rfl | (simp at *; done)
theorem kw_ne : kField ≠ kApplet ∧ kImport ≠ kApplet ∧ kImport ≠ kField ∧ kMethod ≠ kApplet ∧ kMethod ≠ kField ∧ kMethod ≠ kImport ∧ kLocals ≠ kApplet ∧ kLocals ≠ kField ∧ kLocals ≠ kImport ∧ kLocals ≠ kMethod ∧ kExport ≠ kApplet ∧ kExport ≠ kField ∧ kExport ≠ kImport ∧ kExport ≠ kMethod ∧ kExport ≠ kLocals := by decide
theorem sim_line {p : PT} {q : PR} (h : Sim p q) (w0 : Wd) (r : List Wd) : Alike (lineT U p (w0 :: r)) (lineR U q (w0 :: r)) := by
  obtain ⟨i, s, f⟩ := p
  obtain ⟨j, a⟩ := q
  obtain ⟨hi, hnm, hms, hst, hfr, hle⟩ := h
  dsimp only at hi hnm hms hst hfr hle
  subst hi hst hfr
  have hst' : (if a ≤ 1 then 0 else if a = 2 then 1 else if a = 3 then 2 else if a ≤ 6 then 3 else 4) = stg a := rfl
  rw [hst']
  clear hst'
  by_cases c1 : w0 = kApplet
  · have ho : U.op w0 = 0 := by rw [c1]; exact U.k1
    subst c1
    by_cases ha : a = 0
    · subst ha
      have hn : i.name = [] := hnm.2 rfl
      have hm : i.methods = [] := hms.2 (by omega)
      unfold lineT lineR
      simp only [if_true, stg, hn]
      match r with
      | [] => exact .no (by simp) (by simp)
      | [n] =>
        cases hN : U.isName n
        · exact .no (by simp [hN]) (by simp [hN])
        · have : n ≠ [] := fun e => by rw [e, U.name0] at hN; cases hN
          exact .go (by simp [hN]; exact ⟨rfl, rfl, rfl⟩) (by simp [hN]; rfl) (by simp [this]) (by simp [hm]) (by omega) (by simp [stg]) (by decide)
      | a :: b :: l => exact .no (by simp) (by simp)
    · have hn : i.name ≠ [] := fun e => ha (hnm.1 e)
      refine .no ?_ ?_
      · unfold lineT; simp [hn]
      · unfold lineR
        simp only [if_neg ha]
        simp [U.k1, kApplet, kField, kImport, kMethod, kLocals, kExport]
  by_cases ha0 : a = 0
  · subst ha0
    exact .no (lineT0 U c1 (hnm.2 rfl) (hms.2 (by omega))) (lineR0 U c1)
  have hn : i.name ≠ [] := fun e => ha0 (hnm.1 e)
  obtain ⟨n21, n31, n32, n41, n42, n43, n51, n52, n53, n54, n61, n62, n63, n64, n65⟩ := kw_ne
  have key : ∀ k, (i.name = [] ∨ k < stg a) ↔ k < stg a := fun k => by simp [hn]
  by_cases c2 : w0 = kField
  · subst c2
    have ho : U.op kField = 0 := U.k2
    unfold lineT lineR
    simp only [if_neg c1, if_pos trivial, if_neg ha0, true_and, key]
    by_cases h : a ≤ 2
    · have hs : ¬ 1 < stg a := by rw [stg1]; omega
      rw [if_neg hs, if_pos h]
      have hm : i.methods = [] := hms.2 (by omega)
      cases hk : kindsP U r with
      | none => exact .no rfl rfl
      | some l =>
        match l with
        | [] => exact .no rfl rfl
        | [k] => exact .go rfl rfl (by simp [hn]) (by simp [hm]) (by omega) rfl (by decide)
        | _ :: _ :: _ => exact .no rfl rfl
    · have hs : 1 < stg a := by rw [stg1]; omega
      rw [if_pos hs, if_neg h]
      refine .no rfl ?_
      simp [n32.symm, n42.symm, n52.symm, n62.symm, ho]
  by_cases c3 : w0 = kImport
  · subst c3
    have ho : U.op kImport = 0 := U.k3
    unfold lineT lineR
    simp only [if_neg c1, if_neg c2, false_and, if_pos trivial, if_neg ha0, true_and, key]
    by_cases h : a ≤ 3
    · have hs : ¬ 2 < stg a := by rw [stg2]; omega
      rw [if_neg hs, if_pos h]
      have hm : i.methods = [] := hms.2 (by omega)
      match r with
      | [] => exact .no rfl rfl
      | [_] => exact .no rfl rfl
      | [_, _] => exact .no rfl rfl
      | n :: e :: k :: ps =>
        simp only
        by_cases hN : U.isName n = true ∧ 0 ≤ U.kind k
        · rw [if_pos hN, if_pos hN]
          cases U.num e with
          | none => exact .no rfl rfl
          | some x =>
            cases kindsP U ps with
            | none => exact .no rfl rfl
            | some l => exact .go rfl rfl (by simp [hn]) (by simp [hm]) (by omega) rfl (by decide)
        · rw [if_neg hN, if_neg hN]
          exact .no rfl rfl
    · have hs : 2 < stg a := by rw [stg2]; omega
      rw [if_pos hs, if_neg h]
      refine .no rfl ?_
      simp [n43.symm, n53.symm, n63.symm, ho, c2]
  by_cases c4 : w0 = kMethod
  · subst c4
    have ho : U.op kMethod = 0 := U.k4
    unfold lineT lineR
    simp only [if_neg c1, if_neg c2, if_neg c3, false_and, if_pos trivial, if_neg ha0, true_and, key]
    by_cases h : a ≤ 6
    · have hs : ¬ 3 < stg a := by rw [stg3]; omega
      rw [if_neg hs, if_pos h]
      match r with
      | [] => exact .no rfl rfl
      | k :: ps =>
        simp only
        by_cases hN : 0 ≤ U.kind k
        · rw [if_pos hN, if_pos hN]
          cases kindsP U ps with
          | none => exact .no rfl rfl
          | some l => exact .go rfl rfl (by simp [hn]) (by simp) (by omega) rfl (by decide)
        · rw [if_neg hN, if_neg hN]
          exact .no rfl rfl
    · have hs : 3 < stg a := by rw [stg3]; omega
      rw [if_pos hs, if_neg h]
      refine .no rfl ?_
      simp [n54.symm, n64.symm, ho, c2, c3]
  by_cases c5 : w0 = kLocals
  · subst c5
    have ho : U.op kLocals = 0 := U.k5
    have hb : (kLocals == kMethod) = false := by decide
    unfold lineT lineR
    simp only [if_neg c1, if_neg c2, if_neg c3, if_neg c4, false_and, if_pos trivial, if_neg ha0, true_and, hb]
    by_cases h : a = 4
    · subst h
      have h1 : i.methods ≠ [] := fun e => by have := hms.1 e; omega
      simp only [if_pos trivial, decide_true]
      cases kindsP U r with
      | none => exact .no rfl rfl
      | some l =>
        match l with
        | [] => exact .no rfl rfl
        | k :: l => exact .go rfl rfl (by simp [hn]) (by simp [addLast_ne, h1]) (by omega) rfl (by decide)
    · simp only [if_neg h, decide_eq_false h]
      refine .no ?_ (by simp [n65.symm, ho, c2, c3, c4])
      cases kindsP U r with
      | none => rfl
      | some l =>
        match l with
        | [] => rfl
        | k :: l => rfl
  by_cases c6 : w0 = kExport
  · subst c6
    have ho : U.op kExport = 0 := U.k6
    have hb : (kExport == kMethod) = false := by decide
    unfold lineT lineR
    simp only [if_neg c1, if_neg c2, if_neg c3, if_neg c4, if_neg c5, false_and, if_pos trivial, if_neg ha0, true_and, hb, ho, Int.lt_irrefl]
    have hs := stg4 a
    by_cases h : 4 ≤ a
    · have h1 : i.methods ≠ [] := fun e => by have := hms.1 e; omega
      rw [if_neg (by simp [h1, hn, hs]), if_pos h]
      match r with
      | [] => exact .no rfl (by simp [c2, c3, c4, c5])
      | [e] =>
        simp only [c2, c3, c4, c5, false_and, if_false]
        cases U.num e with
        | none => exact .no rfl rfl
        | some x => exact .go rfl rfl (by simp [hn]) (by simp [h1]) (by omega) rfl (by decide)
      | _ :: _ :: _ => exact .no rfl (by simp [c2, c3, c4, c5])
    · have h1 : i.methods = [] := hms.2 (by omega)
      rw [if_pos (.inl h1), if_neg h]
      exact .no rfl (by simp [c2, c3, c4, c5])
  · have hb : (w0 == kMethod) = false := beq_eq_false_iff_ne.2 c4
    have hp := U.op0 w0
    unfold lineT lineR
    simp only [if_neg c1, if_neg c2, if_neg c3, if_neg c4, if_neg c5, if_neg c6, c2, c3, c4, c5, c6, false_and, if_neg ha0, hb, if_false]
    by_cases h : 0 < U.op w0 ∧ 4 ≤ a ∧ a ≤ 6
    · have h1 : i.methods ≠ [] := fun e => by have := hms.1 e; omega
      have hs := (stg5 a).2 h.2
      rw [if_neg (by simp [hs]; omega), if_pos h]
      cases hx : insW U (U.op w0) r with
      | none => exact .no rfl rfl
      | some x => exact .go rfl rfl (by simp [hn]) (by simp [addLast_ne, h1]) (by omega) (by rw [hs]; rfl) (by decide)
    · rw [if_neg h]
      refine .no ?_ rfl
      rw [if_pos]
      by_cases hz : U.op w0 = 0
      · exact .inr hz
      · left
        intro h5
        have := (stg5 a).1 h5
        exact h ⟨by omega, this⟩
end Go.Tcn
namespace Go.Tcn
open Go.RowKit
set_option linter.unusedVariables false
set_option linter.unusedSimpArgs false
/-- A word, rune by rune: what is broken turns into U+FFFD. -/
def sanW (w : Wd) : Wd := Lib.mapD id w
theorem san_nil : sanW [] = [] := by unfold sanW Lib.mapD; exact Lib.mapGoD_nil _ _
theorem san_step {l : Wd} (hne : l ≠ []) : sanW l = Lib.encodeRune ((Lib.decodeL l).1 : Int) ++ sanW (l.drop (Lib.decodeL l).2) := by
  unfold sanW
  rw [Lib.mapD_step id l hne]
  simp
theorem san_valid : ∀ (n : Nat) (w : Wd), w.length ≤ n → Lib.validD w = true → sanW w = w := by
  intro n
  induction n with
  | zero =>
    intro w h _
    rw [List.eq_nil_of_length_eq_zero (show w.length = 0 by omega), san_nil]
  | succ n ih =>
    intro w h hv
    by_cases hne : w = []
    · rw [hne, san_nil]
    · rw [Lib.validD_step w hne] at hv
      split at hv
      · cases hv
      · rename_i hb
        have hw := Lib.decodeL_width w
        have hp : 0 < w.length := List.length_pos_iff.2 hne
        rw [san_step hne, Lib.encode_decode w hne hb, ih _ (by rw [List.length_drop]; omega) hv, List.take_append_drop]
theorem enc_bad : Lib.encodeRune 65533 = [239, 191, 189] := by decide
theorem san_broken : ∀ (n : Nat) (w : Wd), w.length ≤ n → Lib.validD w = false → (239 : UInt8) ∈ sanW w := by
  intro n
  induction n with
  | zero =>
    intro w h hv
    rw [List.eq_nil_of_length_eq_zero (show w.length = 0 by omega), Lib.validD_nil] at hv
    cases hv
  | succ n ih =>
    intro w h hv
    by_cases hne : w = []
    · rw [hne, Lib.validD_nil] at hv; cases hv
    · rw [Lib.validD_step w hne] at hv
      have hw := Lib.decodeL_width w
      have hp : 0 < w.length := List.length_pos_iff.2 hne
      rw [san_step hne]
      split at hv
      · rename_i hb
        rw [hb.1]
        exact List.mem_append.2 (.inl (by rw [show ((65533 : Nat) : Int) = 65533 from rfl, enc_bad]; simp))
      · exact List.mem_append.2 (.inr (ih _ (by rw [List.length_drop]; omega) hv))
theorem high_of_broken {w : Wd} (h : Lib.validD w = false) : ∃ b ∈ w, 128 ≤ b.toNat := by
  by_cases hx : ∃ b ∈ w, 128 ≤ b.toNat
  · exact hx
  · have : Lib.validD w = Lib.validD (w.drop w.length) := Lib.validD_ascii w.length w (fun b hb => by
      have hb' := List.mem_of_mem_take hb
      by_cases hl : b.toNat < 128
      · exact hl
      · exact absurd ⟨b, hb', by omega⟩ hx)
    rw [List.drop_length, Lib.validD_nil, h] at this
    cases this
/-- What follows a word does not change how it is decoded. -/
theorem decode_ctx {s t : Wd} (hs : s ≠ []) (ht : t = [] ∨ (t.getD 0 0).toNat < 128) : Lib.decodeL (s ++ t) = Lib.decodeL s := by
  rw [Lib.decodeL_N, Lib.decodeL_N]
  have h0 : (t.getD 0 0).toNat < 128 := by
    rcases ht with rfl | h
    · decide
    · exact h
  have hx : ¬ (t[0]?.getD 0).toNat / 64 = 2 := by rw [List.getD_eq_getElem?_getD] at h0; omega
  match s, hs with
  | [a], _ =>
    simp only [List.cons_append, List.nil_append, List.length_cons, List.length_nil, List.getD_cons_zero, List.getD_cons_succ, List.getD_nil]
    unfold Lib.decodeN
    simp [hx]
  | [a, b], _ =>
    simp only [List.cons_append, List.nil_append, List.length_cons, List.length_nil, List.getD_cons_zero, List.getD_cons_succ, List.getD_nil]
    unfold Lib.decodeN
    simp [hx]
  | [a, b, c], _ =>
    simp only [List.cons_append, List.nil_append, List.length_cons, List.length_nil, List.getD_cons_zero, List.getD_cons_succ, List.getD_nil]
    unfold Lib.decodeN
    simp [hx]
  | a :: b :: c :: d :: s, _ =>
    simp only [List.cons_append, List.nil_append, List.length_cons, List.length_nil, List.getD_cons_zero, List.getD_cons_succ, List.getD_nil, List.length_append]
    unfold Lib.decodeN
    have e1 : ∀ m : Nat, 1 < m + 1 + 1 + 1 + 1 := fun m => by omega
    have e2 : ∀ m : Nat, 2 < m + 1 + 1 + 1 + 1 := fun m => by omega
    have e3 : ∀ m : Nat, 3 < m + 1 + 1 + 1 + 1 := fun m => by omega
    simp only [e1, e2, e3]
def flW (w : Wd) : List Wd := if w = [] then [] else [w]
/-- text's words of a line: rune by rune. -/
def spT : Nat → Wd → Wd → List Wd
  | 0, _, w => flW w
  | f + 1, l, w => if l = [] then flW w else if (Lib.decodeL l).1 = 35 then flW w else if (Lib.decodeL l).1 = 32 then flW w ++ spT f (l.drop (Lib.decodeL l).2) []
    else spT f (l.drop (Lib.decodeL l).2) (w ++ Lib.encodeRune ((Lib.decodeL l).1 : Int))
/-- The document's: byte by byte. -/
def spR : Wd → Wd → List Wd
  | [], w => flW w
  | c :: l, w => if c = 35 then flW w else if c = 32 then flW w ++ spR l [] else spR l (w ++ [c])
theorem spT_nil (f : Nat) (w : Wd) : spT f [] w = flW w := by cases f <;> simp [spT]
theorem spT_fuel : ∀ (f g : Nat) (l w : Wd), l.length ≤ f → l.length ≤ g → spT f l w = spT g l w
  | 0, g, l, w, h, _ => by
    rw [List.eq_nil_of_length_eq_zero (show l.length = 0 by omega), spT_nil, spT_nil]
  | f + 1, 0, l, w, _, h => by
    rw [List.eq_nil_of_length_eq_zero (show l.length = 0 by omega), spT_nil, spT_nil]
  | f + 1, g + 1, l, w, h1, h2 => by
    by_cases hne : l = []
    · rw [hne, spT_nil, spT_nil]
    · have hw := Lib.decodeL_width l
      have hp : 0 < l.length := List.length_pos_iff.2 hne
      have e : ∀ w', spT f (l.drop (Lib.decodeL l).2) w' = spT g (l.drop (Lib.decodeL l).2) w' := fun w' => spT_fuel f g _ w' (by rw [List.length_drop]; omega) (by rw [List.length_drop]; omega)
      unfold spT
      rw [e, e]
theorem decode_small {l : Wd} (hne : l ≠ []) (h : (Lib.decodeL l).1 < 128) : (Lib.decodeL l).1 = (l.getD 0 0).toNat ∧ (Lib.decodeL l).2 = 1 := by
  rw [Lib.decodeL_N] at h ⊢
  rcases Lib.decodeN_cases l.length (l.getD 0 0).toNat (l.getD 1 0).toNat (l.getD 2 0).toNat (l.getD 3 0).toNat with ⟨c, e⟩ | ⟨_, _, _, cv, e⟩ | ⟨_, _, _, _, cv, e⟩ | ⟨c, e⟩ | e
  · rw [e]; exact ⟨rfl, rfl⟩
  · rw [e] at h; dsimp only at h; omega
  · rw [e] at h; dsimp only at h; omega
  · omega
  · rw [e] at h; dsimp only at h; omega
def Bnd (t : Wd) : Prop := t = [] ∨ (t.getD 0 0).toNat < 128
theorem spT_word : ∀ (n : Nat) (s t : Wd), s.length ≤ n → (∀ c ∈ s, c ≠ 32 ∧ c ≠ 35) → Bnd t → ∀ (f : Nat) (w : Wd), (s ++ t).length ≤ f → spT f (s ++ t) w = spT f t (w ++ sanW s) := by
  intro n
  induction n with
  | zero =>
    intro s t h _ _ f w _
    rw [List.eq_nil_of_length_eq_zero (show s.length = 0 by omega), san_nil, List.append_nil, List.nil_append]
  | succ n ih =>
    intro s t h hc ht f w hf
    by_cases hne : s = []
    · rw [hne, san_nil, List.append_nil, List.nil_append]
    · have hp : 0 < s.length := List.length_pos_iff.2 hne
      rw [List.length_append] at hf
      obtain ⟨f, rfl⟩ : ∃ g, f = g + 1 := ⟨f - 1, by omega⟩
      have hd := decode_ctx hne ht
      have hw := Lib.decodeL_width s
      have hl := Lib.decodeL_le s hne
      have hno : ∀ k : Nat, k = 32 ∨ k = 35 → ¬ (Lib.decodeL s).1 = k := fun k hk e => by
        have h1 := (decode_small hne (by omega)).1
        match s, hne with
        | c :: s, _ =>
          simp only [List.getD_cons_zero] at h1
          have h2 := hc c (by simp)
          rw [e] at h1
          rcases hk with rfl | rfl
          · exact h2.1 (UInt8.toNat_inj.1 h1.symm)
          · exact h2.2 (UInt8.toNat_inj.1 h1.symm)
      have e1 : spT (f + 1) (s ++ t) w = spT f ((s ++ t).drop (Lib.decodeL s).2) (w ++ Lib.encodeRune ((Lib.decodeL s).1 : Int)) := by
        conv => lhs; unfold spT
        rw [hd, if_neg (by simp [hne]), if_neg (hno 35 (.inr rfl)), if_neg (hno 32 (.inl rfl))]
      rw [e1, List.drop_append_of_le_length hl, ih _ t (by rw [List.length_drop]; omega) (fun c h => hc c (List.mem_of_mem_drop h)) ht f _ (by rw [List.length_append, List.length_drop]; omega), san_step hne, List.append_assoc]
      exact spT_fuel _ _ _ _ (by omega) (by omega)
theorem spR_word : ∀ (s t w : Wd), (∀ c ∈ s, c ≠ 32 ∧ c ≠ 35) → spR (s ++ t) w = spR t (w ++ s)
  | [], t, w, _ => by rw [List.nil_append, List.append_nil]
  | c :: s, t, w, h => by
    have h1 := h c (by simp)
    rw [List.cons_append, spR, if_neg h1.2, if_neg h1.1, spR_word s t _ (fun c hc => h c (by simp [hc])), List.append_assoc]
    rfl
theorem enc_ne (r : Int) : Lib.encodeRune r ≠ [] := by
  unfold Lib.encodeRune Lib.encodeRuneZ
  repeat' split
  all_goals simp
theorem san_ne {s : Wd} (h : s ≠ []) : sanW s ≠ [] := by
  rw [san_step h]
  intro e
  exact enc_ne _ (List.append_eq_nil_iff.1 e).1
theorem fl_san (s : Wd) : flW (sanW s) = (flW s).map sanW := by
  by_cases h : s = []
  · rw [h, san_nil]; rfl
  · unfold flW
    rw [if_neg h, if_neg (san_ne h)]
    rfl
/-- THE LAW: text's words are the document's, each with what is broken turned. -/
theorem words_alike : ∀ (n : Nat) (l : Wd), l.length ≤ n → ∀ f, l.length ≤ f → spT f l [] = (spR l []).map sanW := by
  intro n
  induction n with
  | zero =>
    intro l h f _
    rw [List.eq_nil_of_length_eq_zero (show l.length = 0 by omega), spT_nil]
    rfl
  | succ n ih =>
    intro l h f hf
    obtain ⟨s, t, rfl, hs, ht⟩ : ∃ s t, l = s ++ t ∧ (∀ c ∈ s, c ≠ 32 ∧ c ≠ 35) ∧ (t = [] ∨ ∃ c t', t = c :: t' ∧ (c = 32 ∨ c = 35)) := by
      clear ih h hf
      induction l with
      | nil => exact ⟨[], [], rfl, by simp, .inl rfl⟩
      | cons c l ihl =>
        by_cases hc : c = 32 ∨ c = 35
        · exact ⟨[], c :: l, rfl, by simp, .inr ⟨c, l, rfl, hc⟩⟩
        · obtain ⟨s, t, e, h1, h2⟩ := ihl
          refine ⟨c :: s, t, by rw [e]; rfl, fun x hx => ?_, h2⟩
          rcases List.mem_cons.1 hx with rfl | hx
          · exact ⟨fun e => hc (.inl e), fun e => hc (.inr e)⟩
          · exact h1 x hx
    have hb : Bnd t := by
      rcases ht with rfl | ⟨c, t', rfl, hc⟩
      · exact .inl rfl
      · refine .inr ?_
        rcases hc with rfl | rfl <;> simp
    rw [spT_word _ s t (Nat.le_refl _) hs hb f [] hf, spR_word s t [] hs, List.nil_append, List.nil_append]
    rcases ht with rfl | ⟨c, t', rfl, hc⟩
    · rw [spT_nil, spR, fl_san]
    · rw [List.length_append, List.length_cons] at h hf
      obtain ⟨f, rfl⟩ : ∃ g, f = g + 1 := ⟨f - 1, by omega⟩
      rcases hc with rfl | rfl
      · have hd := Lib.decodeL_ascii 32 t' (by decide)
        rw [spR, if_neg (by decide), if_pos rfl, List.map_append, ← fl_san, ← ih t' (by omega) f (by omega)]
        conv => lhs; unfold spT
        rw [hd, if_neg (by simp), if_neg (by decide), if_pos (by decide)]
        rfl
      · have hd := Lib.decodeL_ascii 35 t' (by decide)
        rw [spR, if_pos rfl, ← fl_san]
        conv => lhs; unfold spT
        rw [hd, if_neg (by simp), if_pos (by decide)]
end Go.Tcn
namespace Go.Tcn
open Go.RowKit
set_option linter.unusedVariables false
set_option linter.unusedSimpArgs false
def AscW (w : Wd) : Prop := ∀ b ∈ w, b.toNat < 128
theorem san_cases (w : Wd) : sanW w = w ∨ (Lib.validD w = false ∧ (239 : UInt8) ∈ sanW w ∧ ∃ b ∈ w, 128 ≤ b.toNat) := by
  cases h : Lib.validD w
  · exact .inr ⟨rfl, san_broken _ w (Nat.le_refl _) h, high_of_broken h⟩
  · exact .inl (san_valid _ w (Nat.le_refl _) h)
theorem san_asc {w : Wd} (h : AscW w) : sanW w = w := by
  rcases san_cases w with h1 | ⟨_, _, b, hb, h2⟩
  · exact h1
  · have := h b hb; omega
theorem san_asc' {w : Wd} (h : AscW (sanW w)) : sanW w = w := by
  rcases san_cases w with h1 | ⟨_, h2, _⟩
  · exact h1
  · have := h 239 h2; simp at this
/-- A test that only words of ASCII pass. -/
theorem san_test {α : Type} (f : Wd → α) (d : α) (h : ∀ w, f w ≠ d → AscW w) (w : Wd) : f (sanW w) = f w := by
  by_cases h1 : f w = d
  · by_cases h2 : f (sanW w) = d
    · rw [h1, h2]
    · rw [san_asc' (h _ h2)]
  · rw [san_asc (h _ h1)]
theorem san_eq {k : Wd} (hk : AscW k) (w : Wd) : sanW w = k ↔ w = k := by
  constructor
  · intro h
    rw [← h]
    exact (san_asc' (by rw [h]; exact hk)).symm
  · intro h
    rw [h]
    exact san_asc hk
theorem enc_name {r : Nat} (h : runeB (r : Int) = true) : (239 : UInt8) ∉ Lib.encodeRune (r : Int) := by
  have h1 : (r : Int) < 256 ∧ 0 ≤ (r : Int) := by
    unfold runeB at h
    simp only [decide_eq_true_eq] at h
    omega
  have hall : ∀ r : Nat, r < 256 → (239 : UInt8) ∉ Lib.encodeRune (r : Int) := by decide +kernel
  exact hall r (by omega)
theorem nameR_no (l : Wd) : ∀ (f pos : Nat), l.length ≤ pos + f → nameR ⟨l.toArray⟩ (f + 1) pos = true → Lib.validD (l.drop pos) = true → (239 : UInt8) ∉ l.drop pos := by
  intro f
  induction f with
  | zero =>
    intro pos hl _ _
    rw [List.drop_eq_nil_of_le (by omega)]
    simp
  | succ f ih =>
    intro pos hl hn hv
    by_cases hp : pos < l.length
    · have hne : l.drop pos ≠ [] := by
        intro e
        have := congrArg List.length e
        rw [List.length_drop] at this
        simp at this
        omega
      have hd : Lib.decodeL (l.drop pos) = Utf8.decode ⟨l.toArray⟩ pos := Lib.decodeL_drop ⟨l.toArray⟩ pos
      rw [nameR, if_pos (show pos < (⟨l.toArray⟩ : ByteArray).size by show pos < l.toArray.size; simpa using hp)] at hn
      simp only [Bool.and_eq_true] at hn
      rw [← hd] at hn
      have hw := Lib.decodeL_width (l.drop pos)
      rw [Lib.validD_step _ hne] at hv
      split at hv
      · cases hv
      · rename_i hb
        rw [List.drop_drop] at hv
        have h1 := ih (pos + (Lib.decodeL (l.drop pos)).2) (by omega) hn.2 hv
        have h2 := enc_name hn.1
        rw [Lib.encode_decode _ hne hb] at h2
        intro hm
        rw [← List.take_append_drop (Lib.decodeL (l.drop pos)).2 (l.drop pos)] at hm
        rcases List.mem_append.1 hm with hm | hm
        · exact h2 hm
        · rw [List.drop_drop] at hm; exact h1 hm
    · rw [List.drop_eq_nil_of_le (by omega)]
      simp
theorem name_no {w : Wd} (h : nameB w = true) : (239 : UInt8) ∉ w := by
  unfold nameB at h
  simp only [Bool.and_eq_true] at h
  have := nameR_no w w.length 0 (by omega) h.2 (by simpa using h.1.2)
  simpa using this
theorem name_san (w : Wd) : nameB (sanW w) = nameB w := by
  rcases san_cases w with h | ⟨h1, h2, _⟩
  · rw [h]
  · have e1 : nameB w = false := by unfold nameB; simp [h1]
    have e2 : nameB (sanW w) = false := by
      cases hn : nameB (sanW w)
      · rfl
      · exact absurd h2 (name_no hn)
    rw [e1, e2]
/-- A number's digits. -/
def digV : Wd → Int → Option Int
  | [], n => some n
  | c :: l, n => if 48 ≤ c.toNat ∧ c.toNat ≤ 57 then digV l (10 * n + (c.toNat - 48 : Int)) else none
def bodyOf (w : Wd) : Wd := if w.head? = some 45 then w.drop 1 else w
/-- A number of a word. -/
def numW (w : Wd) : Option Int :=
  if bodyOf w = [] ∨ 10 < (bodyOf w).length ∨ ((bodyOf w).head? = some 48 ∧ w ≠ [48]) then none
  else (digV (bodyOf w) 0).map fun n => if w.head? = some 45 then -n else n
theorem digV_asc : ∀ (w : Wd) (n : Int), digV w n ≠ none → AscW w
  | [], _, _ => by intro b hb; cases hb
  | c :: l, n, h => by
    unfold digV at h
    split at h
    · rename_i hc
      intro b hb
      rcases List.mem_cons.1 hb with rfl | hb
      · omega
      · exact digV_asc l _ h b hb
    · exact absurd rfl h
theorem numW_asc (w : Wd) (h : numW w ≠ none) : AscW w := by
  unfold numW at h
  split at h
  · exact absurd rfl h
  · have h1 : digV (bodyOf w) 0 ≠ none := fun e => by rw [e] at h; exact h rfl
    have h2 := digV_asc _ _ h1
    intro b hb
    match w, hb with
    | c :: l, hb =>
      unfold bodyOf at h2
      by_cases hc : c = 45
      · subst hc
        simp at h2
        rcases List.mem_cons.1 hb with rfl | hb
        · decide
        · exact h2 b hb
      · simp [hc] at h2
        exact h2 b hb
theorem num_san (w : Wd) : numW (sanW w) = numW w := san_test numW none numW_asc w
theorem firstW_mem (p : Nat → Wd → Bool) : ∀ (l : List Wd) (n : Nat) (r : Nat × Wd), firstW p l n = some r → r.2 ∈ l ∧ p r.1 r.2 = true := by
  intro l
  induction l with
  | nil => intro n r h; cases h
  | cons w l ih =>
    intro n r h
    unfold firstW at h
    split at h
    · rename_i hp
      simp only [Option.some.injEq] at h
      subst h
      exact ⟨by simp, hp⟩
    · obtain ⟨h1, h2⟩ := ih _ _ h
      exact ⟨by simp [h1], h2⟩
theorem nmTab_asc : ∀ w ∈ nmTab, AscW w := by
  have h : ∀ w ∈ nmTab, ∀ b ∈ w, b.toNat < 128 := by decide
  exact h
theorem opAt_asc (w : Wd) (h : opAt w ≠ 0) : AscW w := by
  unfold opAt at h
  split at h
  · rename_i n v hf
    obtain ⟨h1, h2⟩ := firstW_mem _ _ _ _ hf
    simp only [beq_iff_eq] at h2
    rw [← h2]
    exact nmTab_asc _ h1
  · exact absurd rfl h
theorem op_san (w : Wd) : opAt (sanW w) = opAt w := san_test opAt 0 opAt_asc w
def kNone : Wd := [110, 111, 110, 101]
def kPub : Wd := [112, 117, 98]
def kSec : Wd := [115, 101, 99]
def kPuba : Wd := [112, 117, 98, 97]
def kSeca : Wd := [115, 101, 99, 97]
/-- A kind of a name. -/
def kindW (w : Wd) : Int := if w = kNone then 0 else if w = kPub then 1 else if w = kSec then 2 else if w = kPuba then 3 else if w = kSeca then 4 else -1
theorem kindW_asc (w : Wd) (h : kindW w ≠ -1) : AscW w := by
  have h0 : AscW kNone := by unfold AscW kNone; decide
  have h1 : AscW kPub := by unfold AscW kPub; decide
  have h2 : AscW kSec := by unfold AscW kSec; decide
  have h3 : AscW kPuba := by unfold AscW kPuba; decide
  have h4 : AscW kSeca := by unfold AscW kSeca; decide
  unfold kindW at h
  by_cases c0 : w = kNone
  · rw [c0]; exact h0
  · rw [if_neg c0] at h
    by_cases c1 : w = kPub
    · rw [c1]; exact h1
    · rw [if_neg c1] at h
      by_cases c2 : w = kSec
      · rw [c2]; exact h2
      · rw [if_neg c2] at h
        by_cases c3 : w = kPuba
        · rw [c3]; exact h3
        · rw [if_neg c3] at h
          by_cases c4 : w = kSeca
          · rw [c4]; exact h4
          · rw [if_neg c4] at h; exact absurd rfl h
theorem kind_san (w : Wd) : kindW (sanW w) = kindW w := san_test kindW (-1) kindW_asc w
/-- What both parsers lean on, as it is. -/
def UU : Lean1 where
  isName := nameB
  op := opAt
  opnds := fun op => (opndN op).toNat
  num := numW
  kind := kindW
  name0 := by unfold nameB; rfl
  op0 := fun w => by unfold opAt; split <;> omega
  k1 := by decide
  k2 := by decide
  k3 := by decide
  k4 := by decide
  k5 := by decide
  k6 := by decide
  two := fun w => by unfold opndN; (repeat' split) <;> decide
/-- A line of words turned gives what the line gives, where the name does: it is its own. -/
theorem kinds_san (l : List Wd) : kindsP UU (l.map sanW) = kindsP UU l := by
  induction l with
  | nil => rfl
  | cons w l ih =>
    have h : UU.kind (sanW w) = UU.kind w := kind_san w
    simp only [List.map_cons, kindsP, h, ih]
theorem ins_san (op : Int) (l : List Wd) : insW UU op (l.map sanW) = insW UU op l := by
  have h : ∀ w, UU.num (sanW w) = UU.num w := num_san
  unfold insW
  rw [List.length_map]
  match l with
  | [] => rfl
  | [a] => simp only [List.map_cons, List.map_nil, h]
  | a :: b :: l => simp only [List.map_cons, h]
theorem name_own {w : Wd} (h : nameB w = true) : sanW w = w := by
  rcases san_cases w with h1 | ⟨h1, _⟩
  · exact h1
  · unfold nameB at h; simp [h1] at h
end Go.Tcn
namespace Go.Tcn
open Go.RowKit
set_option linter.unusedVariables false
set_option linter.unusedSimpArgs false
theorem kw_asc : AscW kApplet ∧ AscW kField ∧ AscW kImport ∧ AscW kMethod ∧ AscW kLocals ∧ AscW kExport := by
  unfold AscW
  refine ⟨?_, ?_, ?_, ?_, ?_, ?_⟩ <;> decide
theorem line_san (p : PT) (ws : List Wd) : lineT UU p (ws.map sanW) = lineT UU p ws := by
  obtain ⟨a1, a2, a3, a4, a5, a6⟩ := kw_asc
  have hN : ∀ w, UU.isName (sanW w) = UU.isName w := name_san
  have hK : ∀ w, UU.kind (sanW w) = UU.kind w := kind_san
  have hU : ∀ w, UU.num (sanW w) = UU.num w := num_san
  have hO : ∀ w, UU.op (sanW w) = UU.op w := op_san
  match ws with
  | [] => rfl
  | w0 :: r =>
    have hb : (sanW w0 == kMethod) = (w0 == kMethod) := by
      by_cases h : w0 = kMethod
      · rw [h, san_asc a4]
      · have h' : sanW w0 ≠ kMethod := fun e => h ((san_eq a4 w0).1 e)
        rw [beq_eq_false_iff_ne.2 h, beq_eq_false_iff_ne.2 h']
    rw [List.map_cons]
    unfold lineT
    simp only [san_eq a1, san_eq a2, san_eq a3, san_eq a4, san_eq a5, san_eq a6, kinds_san, ins_san, hO, hb]
    by_cases c1 : w0 = kApplet
    · simp only [if_pos c1]
      split
      · rfl
      · match r with
        | [] => rfl
        | [n] =>
          simp only [List.map_cons, List.map_nil, hN]
          cases h : UU.isName n
          · simp
          · rw [name_own h]
        | _ :: _ :: _ => rfl
    simp only [if_neg c1]
    by_cases c2 : w0 = kField
    · simp only [if_pos c2]
    simp only [if_neg c2]
    by_cases c3 : w0 = kImport
    · simp only [if_pos c3]
      split
      · rfl
      · match r with
        | [] => rfl
        | [_] => rfl
        | [_, _] => rfl
        | n :: e :: k :: ps =>
          simp only [List.map_cons, hN, hK, hU, kinds_san]
          by_cases h : UU.isName n = true ∧ 0 ≤ UU.kind k
          · rw [if_pos h, if_pos h, name_own h.1]
          · rw [if_neg h, if_neg h]
    simp only [if_neg c3]
    by_cases c4 : w0 = kMethod
    · simp only [if_pos c4]
      split
      · rfl
      · match r with
        | [] => rfl
        | k :: ps => simp only [List.map_cons, hK, kinds_san]
    simp only [if_neg c4]
    by_cases c5 : w0 = kLocals
    · simp only [if_pos c5]
    simp only [if_neg c5]
    by_cases c6 : w0 = kExport
    · simp only [if_pos c6]
      split
      · rfl
      · match r with
        | [] => rfl
        | [e] => simp only [List.map_cons, List.map_nil, hU]
        | _ :: _ :: _ => rfl
    simp only [if_neg c6]
/-- Lines, one behind the other: the number of the line that is wrong, or what was read. -/
def parseL {σ : Type} (step : σ → List Wd → Option σ) : List (List Wd) → Nat → σ → Except Nat σ
  | [], _, p => .ok p
  | ws :: ls, k, p => match ws with
    | [] => parseL step ls (k + 1) p
    | w :: r => match step p (w :: r) with
      | none => .error (k + 1)
      | some p' => parseL step ls (k + 1) p'
/-- Both are refused at the same line, or both are read alike. -/
def Both (x : Except Nat PT) (y : Except Nat PR) : Prop := (∃ k, x = .error k ∧ y = .error k) ∨ ∃ p q, x = .ok p ∧ y = .ok q ∧ Sim p q
theorem parse_alike : ∀ (ls : List (List Wd)) (k : Nat) (p : PT) (q : PR), Sim p q → Both (parseL (lineT UU) (ls.map fun ws => ws.map sanW) k p) (parseL (lineR UU) ls k q)
  | [], k, p, q, h => .inr ⟨p, q, rfl, rfl, h⟩
  | [] :: ls, k, p, q, h => by
    have := parse_alike ls (k + 1) p q h
    simpa [parseL] using this
  | (w :: r) :: ls, k, p, q, h => by
    have h1 := line_san p (w :: r)
    rw [List.map_cons] at h1
    rw [List.map_cons]
    simp only [List.map_cons, parseL, h1]
    rcases sim_line UU h w r with ⟨h2, h3⟩ | ⟨p', q', h2, h3, h4⟩
    · rw [h2, h3]
      exact .inl ⟨_, rfl, rfl⟩
    · rw [h2, h3]
      exact parse_alike ls (k + 1) p' q' h4
/-- A text's lines. -/
def linesW : Wd → List Wd
  | [] => []
  | c :: s => if c = 10 then [] :: linesW s else match linesW s with
    | [] => [[c]]
    | l :: ls => (c :: l) :: ls
def p0T : PT := ⟨⟨[], [], [], [], []⟩, 0, false⟩
def p0R : PR := ⟨⟨[], [], [], [], []⟩, 0⟩
theorem sim0 : Sim p0T p0R := ⟨rfl, by simp [p0T, p0R], by simp [p0T, p0R], rfl, rfl, by simp [p0R]⟩
/-- The document's parse: the applet, the wrong line, the error. -/
def parseW (s : Wd) : Img × Nat × Int :=
  match parseL (lineR UU) ((linesW s).map fun l => spR l []) 0 p0R with
  | .error k => (⟨[], [], [], [], []⟩, k, 5)
  | .ok q => if imgB q.i then (q.i, 0, 0) else (⟨[], [], [], [], []⟩, (linesW s).length + 1, 5)
/-- text's parse. -/
def parseX (s : Wd) : Img × Nat × Int :=
  match parseL (lineT UU) ((linesW s).map fun l => spT l.length l []) 0 p0T with
  | .error k => (⟨[], [], [], [], []⟩, k, 5)
  | .ok p => if imgB p.i then (p.i, 0, 0) else (⟨[], [], [], [], []⟩, (linesW s).length + 1, 5)
/-- THE LAW. -/
theorem parse_same (s : Wd) : parseX s = parseW s := by
  have e : ((linesW s).map fun l => spT l.length l []) = ((linesW s).map fun l => spR l []).map fun ws => ws.map sanW := by
    rw [List.map_map]
    apply List.map_congr_left
    intro l _
    exact words_alike _ l (Nat.le_refl _) _ (Nat.le_refl _)
  unfold parseX parseW
  rw [e]
  rcases parse_alike ((linesW s).map fun l => spR l []) 0 p0T p0R sim0 with ⟨k, h1, h2⟩ | ⟨p, q, h1, h2, h3⟩
  · rw [h1, h2]
  · rw [h1, h2]
    simp only [h3.i]
end Go.Tcn
namespace Go.Tcn
open Go.RowKit
set_option linter.unusedVariables false
set_option linter.unusedSimpArgs false
theorem digV_append : ∀ (a b : Wd) (n m : Int), digV a n = some m → digV (a ++ b) n = digV b m
  | [], b, n, m, h => by simp only [digV, Option.some.injEq] at h; rw [h]; rfl
  | c :: a, b, n, m, h => by
    rw [List.cons_append, digV]
    rw [digV] at h
    split at h
    · rename_i hc
      rw [if_pos hc]
      exact digV_append a b _ m h
    · cases h
theorem dig_one (k : Nat) (h : k < 10) (n : Int) : digV [UInt8.ofNat (48 + k)] n = some (10 * n + k) := by
  have e : (UInt8.ofNat (48 + k)).toNat = 48 + k := by simp; omega
  unfold digV
  rw [e, if_pos (by omega)]
  simp [digV]
  omega
theorem digV_dec (u : Nat) : digV (Lib.decDigits u) 0 = some (u : Int) := by
  induction u using Nat.strongRecOn with
  | _ u ih =>
    rw [Lib.decDigits]
    by_cases h : u < 10
    · rw [dif_pos h, dig_one u h]
      simp
    · rw [dif_neg h, digV_append _ _ _ _ (ih (u / 10) (by omega)), dig_one _ (by omega)]
      congr 1
      omega
theorem dec_ne (u : Nat) : Lib.decDigits u ≠ [] := by
  rw [Lib.decDigits]
  by_cases h : u < 10
  · rw [dif_pos h]; simp
  · rw [dif_neg h]; simp
theorem dec_head (u : Nat) : (0 < u → (Lib.decDigits u).head? ≠ some 48) ∧ (Lib.decDigits u).head? ≠ some 45 := by
  induction u using Nat.strongRecOn with
  | _ u ih =>
    rw [Lib.decDigits]
    by_cases h : u < 10
    · rw [dif_pos h]
      have hall : ∀ u : Nat, u < 10 → (0 < u → UInt8.ofNat (48 + u) ≠ 48) ∧ UInt8.ofNat (48 + u) ≠ 45 := by decide
      simpa using hall u h
    · rw [dif_neg h]
      obtain ⟨h1, h2⟩ := ih (u / 10) (by omega)
      have hne := dec_ne (u / 10)
      have e : ∀ x : UInt8, (Lib.decDigits (u / 10) ++ [x]).head? = (Lib.decDigits (u / 10)).head? := fun x => by
        cases hd : Lib.decDigits (u / 10) with
        | nil => exact absurd hd hne
        | cons y l => rfl
      rw [e]
      exact ⟨fun _ => h1 (by omega), h2⟩
theorem dec_len : ∀ (k u : Nat), u < 10 ^ (k + 1) → (Lib.decDigits u).length ≤ k + 1
  | 0, u, h => by rw [Lib.decDigits, dif_pos (by simpa using h)]; simp
  | k + 1, u, h => by
    rw [Lib.decDigits]
    by_cases hu : u < 10
    · rw [dif_pos hu]; simp
    · rw [dif_neg hu, List.length_append, List.length_singleton]
      have := dec_len k (u / 10) (by rw [Nat.pow_succ] at h; omega)
      omega
/-- THE LAW: what is laid is read back. -/
theorem num_itoa (n : Int) (h : -10000000000 < n ∧ n < 10000000000) : numW (Lib.itoa n) = some n := by
  unfold Lib.itoa
  by_cases h0 : n < 0
  · rw [if_pos h0]
    obtain ⟨u, hu⟩ : ∃ u : Nat, n.natAbs = u := ⟨_, rfl⟩
    rw [hu]
    have hb : bodyOf (45 :: Lib.decDigits u) = Lib.decDigits u := by unfold bodyOf; simp
    unfold numW
    rw [hb, if_neg, digV_dec]
    · simp; omega
    · intro hx
      rcases hx with hx | hx | ⟨hx, _⟩
      · exact dec_ne u hx
      · have := dec_len 9 u (by omega); omega
      · exact (dec_head u).1 (by omega) hx
  · rw [if_neg h0]
    obtain ⟨u, hu⟩ : ∃ u : Nat, n.toNat = u := ⟨_, rfl⟩
    rw [hu]
    have h45 := (dec_head u).2
    have hb : bodyOf (Lib.decDigits u) = Lib.decDigits u := by unfold bodyOf; rw [if_neg h45]
    unfold numW
    rw [hb, if_neg, digV_dec]
    · simp [h45]; omega
    · intro hx
      rcases hx with hx | hx | ⟨hx, hy⟩
      · exact dec_ne u hx
      · have := dec_len 9 u (by omega); omega
      · by_cases hu0 : u = 0
        · subst hu0
          exact hy (by rw [Lib.decDigits, dif_pos (by decide)]; rfl)
        · exact (dec_head u).1 (by omega) hx
end Go.Tcn
namespace Go.Tcn
open Go.RowKit
set_option linter.unusedVariables false
set_option linter.unusedSimpArgs false
def joinW : List Wd → Wd
  | [] => []
  | [w] => w
  | w :: l => w ++ 32 :: joinW l
/-- A word that stands by itself. -/
def OkW (w : Wd) : Prop := w ≠ [] ∧ ∀ c ∈ w, c ≠ 32 ∧ c ≠ 35 ∧ c ≠ 10
theorem spR_join : ∀ ws : List Wd, (∀ w ∈ ws, OkW w) → spR (joinW ws) [] = ws
  | [], _ => rfl
  | [w], h => by
    have h1 := h w (by simp)
    have := spR_word w [] [] (fun c hc => ⟨(h1.2 c hc).1, (h1.2 c hc).2.1⟩)
    rw [List.append_nil, List.nil_append] at this
    show spR w [] = [w]
    rw [this]
    show flW w = [w]
    unfold flW
    rw [if_neg h1.1]
  | w :: v :: l, h => by
    have h1 := h w (by simp)
    show spR (w ++ 32 :: joinW (v :: l)) [] = w :: v :: l
    rw [spR_word w _ [] (fun c hc => ⟨(h1.2 c hc).1, (h1.2 c hc).2.1⟩), List.nil_append, spR, if_neg (by decide), if_pos rfl, spR_join (v :: l) (fun x hx => h x (by simp [List.mem_cons] at hx ⊢; exact .inr hx))]
    unfold flW
    rw [if_neg h1.1]
    rfl
theorem spR_pad (l : Wd) : spR (32 :: 32 :: l) [] = spR l [] := by
  rw [spR, if_neg (by decide), if_pos rfl, spR, if_neg (by decide), if_pos rfl]
  rfl
/-- Lines as a text. -/
def textOf (ls : List Wd) : Wd := (ls.map (· ++ [10])).flatten
theorem lines_one : ∀ (l s : Wd), (10 : UInt8) ∉ l → linesW (l ++ 10 :: s) = l :: linesW s
  | [], s, _ => by rw [List.nil_append, linesW, if_pos rfl]
  | c :: l, s, h => by
    have hc : c ≠ 10 := fun e => h (by simp [e])
    rw [List.cons_append, linesW, if_neg hc, lines_one l s (fun hx => h (by simp [hx]))]
theorem lines_text : ∀ ls : List Wd, (∀ l ∈ ls, (10 : UInt8) ∉ l) → linesW (textOf ls) = ls
  | [], _ => rfl
  | l :: ls, h => by
    have : textOf (l :: ls) = l ++ 10 :: textOf ls := by unfold textOf; simp
    rw [this, lines_one l _ (h l (by simp)), lines_text ls (fun x hx => h x (by simp [hx]))]
theorem join_no10 : ∀ ws : List Wd, (∀ w ∈ ws, OkW w) → (10 : UInt8) ∉ joinW ws
  | [], _ => by simp [joinW]
  | [w], h => fun hx => ((h w (by simp)).2 10 hx).2.2 rfl
  | w :: v :: l, h => by
    show (10 : UInt8) ∉ w ++ 32 :: joinW (v :: l)
    intro hx
    rcases List.mem_append.1 hx with hx | hx
    · exact ((h w (by simp)).2 10 hx).2.2 rfl
    · rcases List.mem_cons.1 hx with hx | hx
      · cases hx
      · exact join_no10 (v :: l) (fun x hx => h x (by simp [List.mem_cons] at hx ⊢; exact .inr hx)) hx
/-- A kind's name. -/
def kindNm (k : Int) : Wd := if k = 0 then kNone else if k = 1 then kPub else if k = 2 then kSec else if k = 3 then kPuba else if k = 4 then kSeca else []
theorem kind_nm (k : Int) (h : 0 ≤ k ∧ k ≤ 4) : kindW (kindNm k) = k := by
  have : k = 0 ∨ k = 1 ∨ k = 2 ∨ k = 3 ∨ k = 4 := by omega
  rcases this with rfl | rfl | rfl | rfl | rfl <;> decide
theorem kind_ok (k : Int) (h : 0 ≤ k ∧ k ≤ 4) : OkW (kindNm k) := by
  have : k = 0 ∨ k = 1 ∨ k = 2 ∨ k = 3 ∨ k = 4 := by omega
  unfold OkW
  rcases this with rfl | rfl | rfl | rfl | rfl <;> decide
theorem kinds_nm : ∀ l : List Int, (∀ k ∈ l, 1 ≤ k ∧ k ≤ 4) → kindsP UU (l.map kindNm) = some l
  | [], _ => rfl
  | k :: l, h => by
    have h1 := h k (by simp)
    have e : UU.kind (kindNm k) = k := kind_nm k (by omega)
    rw [List.map_cons, kindsP, e, if_neg (by omega), kinds_nm l (fun x hx => h x (by simp [hx]))]
    rfl
/-- The words of an applet's lines. -/
def insWs (x : Ins) : List Wd := nmAt x.op :: (if opndN x.op = 0 then [] else if opndN x.op = 1 then [Lib.itoa x.a] else [Lib.itoa x.a, Lib.itoa x.b])
def mthWs (m : Mth) : List (List Wd) := [kMethod :: kindNm m.result :: m.params.map kindNm] ++ ((if m.locals = [] then [] else [kLocals :: m.locals.map kindNm]) ++ m.code.map insWs)
def impWs (x : Imp) : List Wd := kImport :: x.name :: Lib.itoa x.exp :: kindNm x.result :: x.params.map kindNm
def imgWs (i : Img) : List (List Wd) := [[kApplet, i.name]] ++ (i.fields.map (fun k => [kField, kindNm k]) ++ (i.imports.map impWs ++ (i.methods.flatMap mthWs ++ i.exports.map fun n => [kExport, Lib.itoa n])))
theorem parse_app {σ : Type} (step : σ → List Wd → Option σ) : ∀ (a b : List (List Wd)) (k : Nat) (p p' : σ), parseL step a k p = .ok p' → parseL step (a ++ b) k p = parseL step b (k + a.length) p'
  | [], b, k, p, p', h => by simp only [parseL, Except.ok.injEq] at h; rw [h]; rfl
  | [] :: a, b, k, p, p', h => by
    rw [List.cons_append, parseL]
    rw [parseL] at h
    rw [parse_app step a b (k + 1) p p' h, List.length_cons]
    congr 1
    omega
  | (w :: r) :: a, b, k, p, p', h => by
    rw [List.cons_append, parseL]
    rw [parseL] at h
    cases hs : step p (w :: r) with
    | none => rw [hs] at h; cases h
    | some q =>
      rw [hs] at h
      simp only at h ⊢
      rw [parse_app step a b (k + 1) q p' h, List.length_cons]
      congr 1
      omega
theorem parse_fields : ∀ (l : List Int) (k : Nat) (i : Img) (a : Nat), (∀ x ∈ l, 1 ≤ x ∧ x ≤ 4) → 1 ≤ a ∧ a ≤ 2 → ∃ a', 1 ≤ a' ∧ a' ≤ 2 ∧ parseL (lineR UU) (l.map fun k => [kField, kindNm k]) k ⟨i, a⟩ = .ok ⟨{ i with fields := i.fields ++ l }, a'⟩
  | [], k, i, a, _, ha => ⟨a, ha.1, ha.2, by simp [parseL]⟩
  | x :: l, k, i, a, h, ha => by
    have hx := h x (by simp)
    obtain ⟨a', h1, h2, h3⟩ := parse_fields l (k + 1) { i with fields := i.fields ++ [x] } 2 (fun y hy => h y (by simp [hy])) (by omega)
    refine ⟨a', h1, h2, ?_⟩
    have hl : lineR UU ⟨i, a⟩ [kField, kindNm x] = some ⟨{ i with fields := i.fields ++ [x] }, 2⟩ := by
      have e := kinds_nm [x] (by simp; exact hx)
      rw [List.map_cons, List.map_nil] at e
      unfold lineR
      simp only [show ¬ a = 0 by omega, if_false, show a ≤ 2 by omega, and_self, if_true, e]
    rw [List.map_cons, parseL, hl]
    simp only
    rw [h3]
    simp
theorem kb_all {l : List Int} {n : Int} (h : kindsB l n = true) : ∀ k ∈ l, 1 ≤ k ∧ k ≤ 4 := fun k hk => by
  unfold kindsB at h
  simp only [Bool.and_eq_true, List.all_eq_true] at h
  have := h.2 k hk
  unfold kindB at this
  simpa using this
theorem rb_all {k : Int} (h : resB k = true) : 0 ≤ k ∧ k ≤ 4 := by
  unfold resB at h
  simpa using h
theorem parse_imports : ∀ (l : List Imp) (k : Nat) (i : Img) (a : Nat), (∀ x ∈ l, impB x = true) → 1 ≤ a ∧ a ≤ 3 → ∃ a', 1 ≤ a' ∧ a' ≤ 3 ∧ parseL (lineR UU) (l.map impWs) k ⟨i, a⟩ = .ok ⟨{ i with imports := i.imports ++ l }, a'⟩
  | [], k, i, a, _, ha => ⟨a, ha.1, ha.2, by simp [parseL]⟩
  | x :: l, k, i, a, h, ha => by
    have hx := h x (by simp)
    obtain ⟨a', h1, h2, h3⟩ := parse_imports l (k + 1) { i with imports := i.imports ++ [x] } 3 (fun y hy => h y (by simp [hy])) (by omega)
    refine ⟨a', h1, h2, ?_⟩
    have hl : lineR UU ⟨i, a⟩ (impWs x) = some ⟨{ i with imports := i.imports ++ [x] }, 3⟩ := by
      unfold impB at hx
      simp only [Bool.and_eq_true, decide_eq_true_eq] at hx
      obtain ⟨⟨⟨n1, n2⟩, n3⟩, n4⟩ := hx
      have e1 := kinds_nm x.params (kb_all n3)
      have e2 : UU.num (Lib.itoa x.exp) = some x.exp := num_itoa _ (by omega)
      have r4 := rb_all n4
      have e3 : UU.kind (kindNm x.result) = x.result := kind_nm _ r4
      have e4 : UU.isName x.name = true := n1
      unfold lineR impWs
      simp only [show ¬ a = 0 by omega, if_false, show kImport ≠ kField by decide, false_and, show a ≤ 3 by omega, and_self, if_true, e1, e2, e3, e4, r4.1]
    have hne : ∃ w r, impWs x = w :: r := ⟨_, _, rfl⟩
    obtain ⟨w, r, hw⟩ := hne
    rw [List.map_cons, hw, parseL, ← hw, hl]
    simp only
    rw [h3]
    simp
theorem opAt_nm (x : Int) (h : 1 ≤ x ∧ x ≤ 39) : opAt (nmAt x) = x := by
  have hall : ∀ k : Nat, k < 39 → opAt (nmAt ((k : Int) + 1)) = (k : Int) + 1 := by decide +kernel
  have := hall (x.toNat - 1) (by omega)
  have e : ((x.toNat - 1 : Nat) : Int) + 1 = x := by omega
  rw [e] at this
  exact this
theorem nm_kw (x : Int) (h : 1 ≤ x ∧ x ≤ 39) : nmAt x ≠ kField ∧ nmAt x ≠ kImport ∧ nmAt x ≠ kMethod ∧ nmAt x ≠ kLocals ∧ nmAt x ≠ [] := by
  have hall : ∀ k : Nat, k < 39 → nmAt ((k : Int) + 1) ≠ kField ∧ nmAt ((k : Int) + 1) ≠ kImport ∧ nmAt ((k : Int) + 1) ≠ kMethod ∧ nmAt ((k : Int) + 1) ≠ kLocals ∧ nmAt ((k : Int) + 1) ≠ [] := by decide +kernel
  have := hall (x.toNat - 1) (by omega)
  have e : ((x.toNat - 1 : Nat) : Int) + 1 = x := by omega
  rw [e] at this
  exact this
theorem lim_any (op : Int) : -2147483648 ≤ limLo op ∧ limHi op ≤ 2147483647 := by
  unfold limLo limHi
  constructor <;> (repeat' split) <;> omega
theorem opnd0 (op : Int) (h : opndN op = 0) : limLo op = 0 ∧ limHi op = 0 := by
  unfold opndN at h
  unfold limLo limHi
  repeat' split at h
  all_goals first | (exfalso; omega) | (constructor <;> (repeat' split) <;> omega)
theorem ins_back (x : Ins) (h : insB x = true) : insW UU x.op (insWs x).tail = some x := by
  obtain ⟨f1, f2, f3, f4, f5, f6⟩ := Go.Proofs.YteebapopeaafhaaGreatDoor.rightI_facts _ _ _ h
  have la := lim_any x.op
  have e1 : UU.num (Lib.itoa x.a) = some x.a := num_itoa _ (by omega)
  have hb : 0 ≤ x.b ∧ x.b ≤ 6 := by
    by_cases h27 : x.op = 27
    · exact f5 h27
    · have := f6 h27; omega
  have e2 : UU.num (Lib.itoa x.b) = some x.b := num_itoa _ (by omega)
  have ho : UU.opnds x.op = (opndN x.op).toNat := rfl
  unfold insWs insW
  by_cases h0 : opndN x.op = 0
  · have hz := opnd0 _ h0
    have hop : x.op ≠ 27 := fun e => by rw [e] at h0; exact absurd h0 (by decide)
    have hb0 := f6 hop
    have ha0 : x.a = 0 := by omega
    simp only [h0, if_true, List.tail_cons, List.length_nil, ho, Int.toNat_zero, ne_eq, not_true, if_false]
    cases x
    simp only at ha0 hb0
    rw [ha0, hb0]
  · by_cases h1 : opndN x.op = 1
    · have hop : x.op ≠ 27 := fun e => by rw [e] at h1; exact absurd h1 (by decide)
      have hb0 := f6 hop
      simp only [h1, if_true, List.tail_cons, ho]
      simp
      exact ⟨x.a, e1, by cases x; simp only at hb0; rw [hb0]⟩
    · have h2 : opndN x.op = 2 := by
        have : opndN x.op = 0 ∨ opndN x.op = 1 ∨ opndN x.op = 2 := by unfold opndN; (repeat' split) <;> simp
        omega
      simp only [h0, h1, h2, if_false, List.tail_cons, ho]
      simp
      rw [e1, e2]
theorem addLast_snoc (ms : List Mth) (m : Mth) (f : Mth → Mth) : addLast (ms ++ [m]) f = ms ++ [f m] := by
  unfold addLast
  simp
theorem parse_code : ∀ (l : List Ins) (k : Nat) (i : Img) (ms : List Mth) (m : Mth) (a : Nat), (∀ x ∈ l, insB x = true) → 4 ≤ a ∧ a ≤ 6 → ∃ a', 4 ≤ a' ∧ a' ≤ 6 ∧ parseL (lineR UU) (l.map insWs) k ⟨{ i with methods := ms ++ [m] }, a⟩ = .ok ⟨{ i with methods := ms ++ [{ m with code := m.code ++ l }] }, a'⟩
  | [], k, i, ms, m, a, _, ha => ⟨a, ha.1, ha.2, by simp [parseL]⟩
  | x :: l, k, i, ms, m, a, h, ha => by
    have hx := h x (by simp)
    obtain ⟨a', h1, h2, h3⟩ := parse_code l (k + 1) i ms { m with code := m.code ++ [x] } 6 (fun y hy => h y (by simp [hy])) (by omega)
    refine ⟨a', h1, h2, ?_⟩
    obtain ⟨f1, f2, _⟩ := Go.Proofs.YteebapopeaafhaaGreatDoor.rightI_facts _ _ _ hx
    have hop : UU.op (nmAt x.op) = x.op := opAt_nm _ ⟨f1, f2⟩
    obtain ⟨n1, n2, n3, n4, _⟩ := nm_kw x.op ⟨f1, f2⟩
    have hi := ins_back x hx
    have hl : lineR UU ⟨{ i with methods := ms ++ [m] }, a⟩ (insWs x) = some ⟨{ i with methods := ms ++ [{ m with code := m.code ++ [x] }] }, 6⟩ := by
      unfold lineR insWs
      unfold insWs at hi
      rw [List.tail_cons] at hi
      simp only [show ¬ a = 0 by omega, if_false, n1, n2, n3, n4, false_and, hop, show 0 < x.op by omega, show 4 ≤ a by omega, show a ≤ 6 by omega, and_self, if_true, hi, Option.map_some, addLast_snoc]
    obtain ⟨w, r, hw⟩ : ∃ w r, insWs x = w :: r := ⟨_, _, rfl⟩
    rw [List.map_cons, hw, parseL, ← hw, hl]
    simp only
    rw [h3]
    simp
theorem parse_method (m : Mth) (k : Nat) (i : Img) (a : Nat) (h : mthB m = true) (ha : 1 ≤ a ∧ a ≤ 6) : ∃ a', 4 ≤ a' ∧ a' ≤ 6 ∧ parseL (lineR UU) (mthWs m) k ⟨i, a⟩ = .ok ⟨{ i with methods := i.methods ++ [m] }, a'⟩ := by
  unfold mthB at h
  simp only [Bool.and_eq_true, List.all_eq_true] at h
  obtain ⟨⟨⟨⟨h1, h2⟩, h3⟩, _⟩, h5⟩ := h
  have e1 := kinds_nm m.params (kb_all h1)
  have r2 := rb_all h2
  have e2 : UU.kind (kindNm m.result) = m.result := kind_nm _ r2
  have e3 := kinds_nm m.locals (kb_all h3)
  have hl : lineR UU ⟨i, a⟩ (kMethod :: kindNm m.result :: m.params.map kindNm) = some ⟨{ i with methods := i.methods ++ [⟨m.params, m.result, [], []⟩] }, 4⟩ := by
    unfold lineR
    simp only [show ¬ a = 0 by omega, if_false, show kMethod ≠ kField by decide, show kMethod ≠ kImport by decide, false_and, show a ≤ 6 by omega, and_self, if_true, e1, e2, r2.1]
  have p1 : parseL (lineR UU) [kMethod :: kindNm m.result :: m.params.map kindNm] k ⟨i, a⟩ = .ok ⟨{ i with methods := i.methods ++ [⟨m.params, m.result, [], []⟩] }, 4⟩ := by
    rw [parseL, hl]
    rfl
  have p2 : ∃ a2, 4 ≤ a2 ∧ a2 ≤ 6 ∧ ∀ k, parseL (lineR UU) (if m.locals = [] then [] else [kLocals :: m.locals.map kindNm]) k ⟨{ i with methods := i.methods ++ [⟨m.params, m.result, [], []⟩] }, 4⟩ = .ok ⟨{ i with methods := i.methods ++ [⟨m.params, m.result, m.locals, []⟩] }, a2⟩ := by
    by_cases hm : m.locals = []
    · refine ⟨4, by omega, by omega, fun k => ?_⟩
      rw [if_pos hm, hm]
      rfl
    · refine ⟨5, by omega, by omega, fun k => ?_⟩
      rw [if_neg hm]
      have hl2 : lineR UU ⟨{ i with methods := i.methods ++ [⟨m.params, m.result, [], []⟩] }, 4⟩ (kLocals :: m.locals.map kindNm) = some ⟨{ i with methods := i.methods ++ [⟨m.params, m.result, m.locals, []⟩] }, 5⟩ := by
        unfold lineR
        simp only [show ¬ (4 : Nat) = 0 by decide, if_false, show kLocals ≠ kField by decide, show kLocals ≠ kImport by decide, show kLocals ≠ kMethod by decide, false_and, and_self, if_true, e3]
        cases hx : m.locals with
        | nil => exact absurd hx hm
        | cons y l => simp only [addLast_snoc]
      rw [parseL, hl2]
      rfl
  obtain ⟨a2, q1, q2, q3⟩ := p2
  obtain ⟨a3, c1, c2, c3⟩ := parse_code m.code (k + 1 + (if m.locals = [] then ([] : List (List Wd)) else [kLocals :: m.locals.map kindNm]).length) i i.methods ⟨m.params, m.result, m.locals, []⟩ a2 h5 ⟨q1, q2⟩
  refine ⟨a3, c1, c2, ?_⟩
  unfold mthWs
  rw [parse_app _ _ _ _ _ _ p1, parse_app _ _ _ _ _ _ (q3 _)]
  exact c3
theorem parse_methods : ∀ (l : List Mth) (k : Nat) (i : Img) (a : Nat), (∀ m ∈ l, mthB m = true) → 1 ≤ a ∧ a ≤ 6 → ∃ a', 1 ≤ a' ∧ a' ≤ 6 ∧ (l ≠ [] → 4 ≤ a') ∧ parseL (lineR UU) (l.flatMap mthWs) k ⟨i, a⟩ = .ok ⟨{ i with methods := i.methods ++ l }, a'⟩
  | [], k, i, a, _, ha => ⟨a, ha.1, ha.2, by simp, by simp [parseL]⟩
  | m :: l, k, i, a, h, ha => by
    obtain ⟨a1, b1, b2, b3⟩ := parse_method m k i a (h m (by simp)) ha
    obtain ⟨a', h1, h2, h4, h3⟩ := parse_methods l (k + (mthWs m).length) { i with methods := i.methods ++ [m] } a1 (fun y hy => h y (by simp [hy])) (by omega)
    by_cases hl : l = []
    · subst hl
      exact ⟨a1, by omega, b2, fun _ => b1, by simpa using b3⟩
    · refine ⟨a', h1, h2, fun _ => h4 hl, ?_⟩
      rw [List.flatMap_cons, parse_app _ _ _ _ _ _ b3, h3]
      simp
theorem parse_exports : ∀ (l : List Int) (k : Nat) (i : Img) (a : Nat), (∀ x ∈ l, 0 ≤ x ∧ x ≤ 1000) → 4 ≤ a ∧ a ≤ 7 → ∃ a', parseL (lineR UU) (l.map fun n => [kExport, Lib.itoa n]) k ⟨i, a⟩ = .ok ⟨{ i with exports := i.exports ++ l }, a'⟩
  | [], k, i, a, _, ha => ⟨a, by simp [parseL]⟩
  | x :: l, k, i, a, h, ha => by
    have hx := h x (by simp)
    obtain ⟨a', h3⟩ := parse_exports l (k + 1) { i with exports := i.exports ++ [x] } 7 (fun y hy => h y (by simp [hy])) (by omega)
    refine ⟨a', ?_⟩
    have e1 : UU.num (Lib.itoa x) = some x := num_itoa _ (by omega)
    have ho : UU.op kExport = 0 := UU.k6
    have hl : lineR UU ⟨i, a⟩ [kExport, Lib.itoa x] = some ⟨{ i with exports := i.exports ++ [x] }, 7⟩ := by
      unfold lineR
      simp only [show ¬ a = 0 by omega, if_false, show kExport ≠ kField by decide, show kExport ≠ kImport by decide, show kExport ≠ kMethod by decide, show kExport ≠ kLocals by decide, false_and, ho, Int.lt_irrefl, show 4 ≤ a by omega, and_self, if_true, e1, Option.map_some]
    rw [List.map_cons, parseL, hl]
    simp only
    rw [h3]
    simp
/-- THE LAW: an applet's lines are read as the applet. -/
theorem parse_back (i : Img) (h : imgB i = true) : ∃ a, parseL (lineR UU) (imgWs i) 0 p0R = .ok ⟨i, a⟩ := by
  have h0 := h
  unfold imgB at h
  simp only [Bool.and_eq_true, decide_eq_true_eq, List.all_eq_true] at h
  obtain ⟨⟨⟨⟨⟨⟨⟨⟨n1, n2⟩, _⟩, n3⟩, n4⟩, n5⟩, _⟩, n6⟩, n7⟩ := h
  obtain ⟨nm, fs, is, ms, es⟩ := i
  dsimp only at n1 n2 n3 n4 n5 n6 n7
  have hl : lineR UU p0R [kApplet, nm] = some ⟨⟨nm, [], [], [], []⟩, 1⟩ := by
    have e : UU.isName nm = true := n1
    unfold lineR p0R
    simp [e]
  have p1 : parseL (lineR UU) [[kApplet, nm]] 0 p0R = .ok ⟨⟨nm, [], [], [], []⟩, 1⟩ := by
    rw [parseL, hl]
    rfl
  obtain ⟨a2, b1, b2, b3⟩ := parse_fields fs (0 + ([[kApplet, nm]] : List (List Wd)).length) ⟨nm, [], [], [], []⟩ 1 (kb_all n2) (by omega)
  obtain ⟨a3, c1, c2, c3⟩ := parse_imports is (0 + ([[kApplet, nm]] : List (List Wd)).length + (fs.map fun k => [kField, kindNm k]).length) ⟨nm, [] ++ fs, [], [], []⟩ a2 n3 (by omega)
  obtain ⟨a4, d1, d2, d4, d3⟩ := parse_methods ms (0 + ([[kApplet, nm]] : List (List Wd)).length + (fs.map fun k => [kField, kindNm k]).length + (is.map impWs).length) ⟨nm, [] ++ fs, [] ++ is, [], []⟩ a3 n5 (by omega)
  have hms : ms ≠ [] := fun e => by rw [e] at n4; simp at n4
  have hex : ∀ x ∈ es, 0 ≤ x ∧ x ≤ 1000 := fun x hx => by
    have := n7 x hx
    unfold expB at this
    simp only [decide_eq_true_eq] at this
    omega
  obtain ⟨a5, e3⟩ := parse_exports es (0 + ([[kApplet, nm]] : List (List Wd)).length + (fs.map fun k => [kField, kindNm k]).length + (is.map impWs).length + (ms.flatMap mthWs).length) ⟨nm, [] ++ fs, [] ++ is, [] ++ ms, []⟩ a4 hex ⟨d4 hms, by omega⟩
  refine ⟨a5, ?_⟩
  unfold imgWs
  show parseL (lineR UU) ([[kApplet, nm]] ++ (fs.map (fun k => [kField, kindNm k]) ++ (is.map impWs ++ (ms.flatMap mthWs ++ es.map fun n => [kExport, Lib.itoa n])))) 0 p0R = _
  rw [parse_app _ _ _ _ _ _ p1]
  rw [parse_app _ _ _ _ _ _ b3]
  rw [parse_app _ _ _ _ _ _ c3]
  rw [parse_app _ _ _ _ _ _ d3]
  rw [e3]
  simp
end Go.Tcn
namespace Go.Tcn
open Go.RowKit
set_option linter.unusedVariables false
set_option linter.unusedSimpArgs false
/-- The document's number of a word: a sign, then its digits. -/
def numR (w : Wd) : Option Int :=
  if (bodyOf w).length < 1 ∨ 10 < (bodyOf w).length ∨ (1 < (bodyOf w).length ∧ (bodyOf w).head? = some 48) ∨ (w.head? = some 45 ∧ bodyOf w = [48]) then none
  else (digV (bodyOf w) 0).map fun n => (if w.head? = some 45 then -1 else 1) * n
theorem body_zero (w : Wd) (h : bodyOf w = [48]) : w = [48] ↔ ¬ w.head? = some 45 := by
  unfold bodyOf at h
  split at h
  · rename_i h1
    constructor
    · intro e
      rw [e] at h1
      simp at h1
    · intro e
      exact absurd h1 e
  · rename_i h1
    exact ⟨fun _ => h1, fun _ => h⟩
/-- THE LAW: both numbers are the same. -/
theorem num_doc (w : Wd) : numR w = numW w := by
  have hc : ((bodyOf w).length < 1 ∨ 10 < (bodyOf w).length ∨ (1 < (bodyOf w).length ∧ (bodyOf w).head? = some 48) ∨ (w.head? = some 45 ∧ bodyOf w = [48])) ↔ (bodyOf w = [] ∨ 10 < (bodyOf w).length ∨ ((bodyOf w).head? = some 48 ∧ w ≠ [48])) := by
    have hz := body_zero w
    cases hb : bodyOf w with
    | nil => simp
    | cons c l =>
      rw [hb] at hz
      cases l with
      | nil =>
        by_cases h48 : c = 48
        · subst h48
          have hz := hz rfl
          by_cases h45 : w.head? = some 45
          · have : w ≠ [48] := fun e => (hz.1 e) h45
            simp [h45, this]
          · have : w = [48] := hz.2 h45
            simp [h45, this]
        · simp [h48]
      | cons d l =>
        have hw : w ≠ [48] := by
          intro e
          subst e
          have : bodyOf [48] = [48] := by decide
          rw [this] at hb
          simp at hb
        simp [hw]
  unfold numR numW
  by_cases h : bodyOf w = [] ∨ 10 < (bodyOf w).length ∨ ((bodyOf w).head? = some 48 ∧ w ≠ [48])
  · rw [if_pos h, if_pos (hc.2 h)]
  · rw [if_neg h, if_neg (fun e => h (hc.1 e))]
    congr 1
    funext n
    by_cases h45 : w.head? = some 45
    · simp [h45]
    · simp [h45]
/-- The document's digits, from below: a step of the walk. -/
theorem below_div (u : Nat) : (-(u : Int)).tdiv 10 = -((u / 10 : Nat) : Int) := by
  rw [Int.neg_tdiv]
  rfl
theorem below_mod (u : Nat) : (-(u : Int)).tmod 10 = -((u % 10 : Nat) : Int) := by
  rw [Int.neg_tmod]
  rfl
theorem below_lt (u : Nat) (h : u < 10) : Lib.decDigits u = [UInt8.ofNat (48 + u)] := by
  rw [Lib.decDigits, dif_pos h]
theorem below_ge (u : Nat) (h : ¬ u < 10) : Lib.decDigits u = Lib.decDigits (u / 10) ++ [UInt8.ofNat (48 + u % 10)] := by
  rw [Lib.decDigits, dif_neg h]
theorem digits_doc (n : Int) : Lib.itoa n = if n < 0 then 45 :: Lib.decDigits n.natAbs else Lib.decDigits (-n).natAbs := by
  unfold Lib.itoa
  by_cases h : n < 0
  · rw [if_pos h, if_pos h]
  · rw [if_neg h, if_neg h]
    congr 1
    omega
end Go.Tcn
namespace Go.Tcn
open Go.RowKit
set_option linter.unusedVariables false
set_option linter.unusedSimpArgs false
theorem enc_bad3 {r : Nat} (h : runeB (r : Int) = true) : ∀ b ∈ Lib.encodeRune (r : Int), b ≠ 32 ∧ b ≠ 35 ∧ b ≠ 10 := by
  have h1 : (45 ≤ (r : Int)) ∧ (r : Int) < 256 ∧ 0 ≤ (r : Int) := by
    unfold runeB at h
    simp only [decide_eq_true_eq] at h
    omega
  have hall : ∀ r : Nat, r < 256 → 45 ≤ r → ∀ b ∈ Lib.encodeRune (r : Int), b ≠ 32 ∧ b ≠ 35 ∧ b ≠ 10 := by decide +kernel
  exact hall r (by omega) (by omega)
theorem nameR_ok (l : Wd) : ∀ (f pos : Nat), l.length ≤ pos + f → nameR ⟨l.toArray⟩ (f + 1) pos = true → Lib.validD (l.drop pos) = true → ∀ b ∈ l.drop pos, b ≠ 32 ∧ b ≠ 35 ∧ b ≠ 10 := by
  intro f
  induction f with
  | zero =>
    intro pos hl _ _
    rw [List.drop_eq_nil_of_le (by omega)]
    simp
  | succ f ih =>
    intro pos hl hn hv
    by_cases hp : pos < l.length
    · have hne : l.drop pos ≠ [] := by
        intro e
        have := congrArg List.length e
        rw [List.length_drop] at this
        simp at this
        omega
      have hd : Lib.decodeL (l.drop pos) = Utf8.decode ⟨l.toArray⟩ pos := Lib.decodeL_drop ⟨l.toArray⟩ pos
      rw [nameR, if_pos (show pos < (⟨l.toArray⟩ : ByteArray).size by show pos < l.toArray.size; simpa using hp)] at hn
      simp only [Bool.and_eq_true] at hn
      rw [← hd] at hn
      have hw := Lib.decodeL_width (l.drop pos)
      rw [Lib.validD_step _ hne] at hv
      split at hv
      · cases hv
      · rename_i hb
        rw [List.drop_drop] at hv
        have h1 := ih (pos + (Lib.decodeL (l.drop pos)).2) (by omega) hn.2 hv
        have h2 := enc_bad3 hn.1
        rw [Lib.encode_decode _ hne hb] at h2
        intro b hm
        rw [← List.take_append_drop (Lib.decodeL (l.drop pos)).2 (l.drop pos)] at hm
        rcases List.mem_append.1 hm with hm | hm
        · exact h2 b hm
        · rw [List.drop_drop] at hm; exact h1 b hm
    · rw [List.drop_eq_nil_of_le (by omega)]
      simp
theorem name_ok {w : Wd} (h : nameB w = true) : OkW w := by
  unfold nameB at h
  simp only [Bool.and_eq_true, decide_eq_true_eq] at h
  obtain ⟨⟨h1, h2⟩, h3⟩ := h
  have := nameR_ok w w.length 0 (by omega) h3 (by simpa using h2)
  exact ⟨fun e => by rw [e] at h1; simp at h1, by simpa using this⟩
theorem digV_ok : ∀ (w : Wd) (n : Int), digV w n ≠ none → ∀ b ∈ w, 48 ≤ b.toNat ∧ b.toNat ≤ 57
  | [], _, _ => by intro b hb; cases hb
  | c :: l, n, h => by
    rw [digV] at h
    split at h
    · rename_i hc
      intro b hb
      rcases List.mem_cons.1 hb with rfl | hb
      · exact hc
      · exact digV_ok l _ h b hb
    · exact absurd rfl h
theorem itoa_ok (n : Int) : OkW (Lib.itoa n) := by
  have hd : ∀ u, ∀ b ∈ Lib.decDigits u, b ≠ 32 ∧ b ≠ 35 ∧ b ≠ 10 := fun u b hb => by
    have := digV_ok _ 0 (by rw [digV_dec]; simp) b hb
    refine ⟨fun e => ?_, fun e => ?_, fun e => ?_⟩ <;> (rw [e] at this; simp at this)
  unfold Lib.itoa
  split
  · refine ⟨by simp, fun b hb => ?_⟩
    rcases List.mem_cons.1 hb with rfl | hb
    · decide
    · exact hd _ b hb
  · exact ⟨dec_ne _, hd _⟩
theorem nm_ok (x : Int) (h : 1 ≤ x ∧ x ≤ 39) : OkW (nmAt x) := by
  have hall : ∀ k : Nat, k < 39 → nmAt ((k : Int) + 1) ≠ [] ∧ ∀ c ∈ nmAt ((k : Int) + 1), c ≠ 32 ∧ c ≠ 35 ∧ c ≠ 10 := by decide +kernel
  have := hall (x.toNat - 1) (by omega)
  have e : ((x.toNat - 1 : Nat) : Int) + 1 = x := by omega
  rw [e] at this
  exact this
theorem kw_ok : OkW kApplet ∧ OkW kField ∧ OkW kImport ∧ OkW kMethod ∧ OkW kLocals ∧ OkW kExport := by
  unfold OkW
  refine ⟨?_, ?_, ?_, ?_, ?_, ?_⟩ <;> decide
/-- A line of words; of an instruction, two blanks ahead. -/
def padW (l : Wd) : Wd := 32 :: 32 :: l
def mthLs (m : Mth) : List Wd := [joinW (kMethod :: kindNm m.result :: m.params.map kindNm)] ++ ((if m.locals = [] then [] else [joinW (kLocals :: m.locals.map kindNm)]) ++ m.code.map fun x => padW (joinW (insWs x)))
def imgLs (i : Img) : List Wd := [joinW [kApplet, i.name]] ++ (i.fields.map (fun k => joinW [kField, kindNm k]) ++ (i.imports.map (fun x => joinW (impWs x)) ++ (i.methods.flatMap mthLs ++ i.exports.map fun n => joinW [kExport, Lib.itoa n])))
/-- Print. -/
def printW (i : Img) : Wd := textOf (imgLs i)
def LnOk (l : Wd) (ws : List Wd) : Prop := spR l [] = ws ∧ (10 : UInt8) ∉ l
theorem ln_ok {ws : List Wd} (h : ∀ w ∈ ws, OkW w) : LnOk (joinW ws) ws := ⟨spR_join ws h, join_no10 ws h⟩
theorem ln_pad {l : Wd} {ws : List Wd} (h : LnOk l ws) : LnOk (padW l) ws := ⟨by unfold padW; rw [spR_pad]; exact h.1, by
  unfold padW
  intro hx
  simp only [List.mem_cons] at hx
  rcases hx with hx | hx | hx
  · cases hx
  · cases hx
  · exact h.2 hx⟩
inductive Lns : List Wd → List (List Wd) → Prop
  | nil : Lns [] []
  | cons {l ws ls wss} : LnOk l ws → Lns ls wss → Lns (l :: ls) (ws :: wss)
theorem Lns.app {a : List Wd} {b : List (List Wd)} {c : List Wd} {d : List (List Wd)} (h : Lns a b) (k : Lns c d) : Lns (a ++ c) (b ++ d) := by
  induction h with
  | nil => exact k
  | cons h1 _ ih => exact .cons h1 ih
theorem Lns.map' {α : Type} (f : α → Wd) (g : α → List Wd) : ∀ (l : List α), (∀ x ∈ l, LnOk (f x) (g x)) → Lns (l.map f) (l.map g)
  | [], _ => .nil
  | x :: l, h => .cons (h x (by simp)) (Lns.map' f g l (fun y hy => h y (by simp [hy])))
theorem Lns.flat {α : Type} (f : α → List Wd) (g : α → List (List Wd)) : ∀ (l : List α), (∀ x ∈ l, Lns (f x) (g x)) → Lns (l.flatMap f) (l.flatMap g)
  | [], _ => .nil
  | x :: l, h => by
    rw [List.flatMap_cons, List.flatMap_cons]
    exact (h x (by simp)).app (Lns.flat f g l (fun y hy => h y (by simp [hy])))
theorem Lns.out {a : List Wd} {b : List (List Wd)} (h : Lns a b) : a.map (fun l => spR l []) = b ∧ ∀ l ∈ a, (10 : UInt8) ∉ l := by
  induction h with
  | nil => exact ⟨rfl, by simp⟩
  | cons h1 _ ih =>
    refine ⟨by rw [List.map_cons, h1.1, ih.1], fun l hl => ?_⟩
    rcases List.mem_cons.1 hl with rfl | hl
    · exact h1.2
    · exact ih.2 l hl
theorem ins_lns (x : Ins) (h : insB x = true) : ∀ w ∈ insWs x, OkW w := by
  obtain ⟨f1, f2, _⟩ := Go.Proofs.YteebapopeaafhaaGreatDoor.rightI_facts _ _ _ h
  intro w hw
  unfold insWs at hw
  rcases List.mem_cons.1 hw with rfl | hw
  · exact nm_ok _ ⟨f1, f2⟩
  · split at hw
    · cases hw
    · split at hw
      · simp at hw; rw [hw]; exact itoa_ok _
      · simp at hw
        rcases hw with rfl | rfl
        · exact itoa_ok _
        · exact itoa_ok _
theorem kinds_lns {l : List Int} {n : Int} (h : kindsB l n = true) : ∀ w ∈ l.map kindNm, OkW w := fun w hw => by
  obtain ⟨k, hk, rfl⟩ := List.mem_map.1 hw
  have := kb_all h k hk
  exact kind_ok k (by omega)
theorem mth_lns (m : Mth) (h : mthB m = true) : Lns (mthLs m) (mthWs m) := by
  unfold mthB at h
  simp only [Bool.and_eq_true, List.all_eq_true] at h
  obtain ⟨⟨⟨⟨h1, h2⟩, h3⟩, _⟩, h5⟩ := h
  obtain ⟨_, _, _, k4, k5, _⟩ := kw_ok
  unfold mthLs mthWs
  refine Lns.app (.cons (ln_ok fun w hw => ?_) .nil) (Lns.app ?_ (Lns.map' _ _ _ fun x hx => ln_pad (ln_ok (ins_lns x (h5 x hx)))))
  · rcases List.mem_cons.1 hw with rfl | hw
    · exact k4
    · rcases List.mem_cons.1 hw with rfl | hw
      · exact kind_ok _ (rb_all h2)
      · exact kinds_lns h1 w hw
  · split
    · exact .nil
    · refine .cons (ln_ok fun w hw => ?_) .nil
      rcases List.mem_cons.1 hw with rfl | hw
      · exact k5
      · exact kinds_lns h3 w hw
theorem img_lns (i : Img) (h : imgB i = true) : Lns (imgLs i) (imgWs i) := by
  unfold imgB at h
  simp only [Bool.and_eq_true, decide_eq_true_eq, List.all_eq_true] at h
  obtain ⟨⟨⟨⟨⟨⟨⟨⟨n1, n2⟩, _⟩, n3⟩, n4⟩, n5⟩, _⟩, n6⟩, n7⟩ := h
  obtain ⟨k1, k2, k3, _, _, k6⟩ := kw_ok
  unfold imgLs imgWs
  refine Lns.app (.cons (ln_ok fun w hw => ?_) .nil) (Lns.app (Lns.map' _ _ _ fun x hx => ln_ok fun w hw => ?_) (Lns.app (Lns.map' _ _ _ fun x hx => ln_ok fun w hw => ?_) (Lns.app (Lns.flat _ _ _ fun m hm => mth_lns m (n5 m hm)) (Lns.map' _ _ _ fun x hx => ln_ok fun w hw => ?_))))
  · simp at hw
    rcases hw with rfl | rfl
    · exact k1
    · exact name_ok n1
  · simp at hw
    rcases hw with rfl | rfl
    · exact k2
    · have := kb_all n2 x hx
      exact kind_ok x (by omega)
  · have hi := n3 x hx
    unfold impB at hi
    simp only [Bool.and_eq_true, decide_eq_true_eq] at hi
    obtain ⟨⟨⟨i1, _⟩, i3⟩, i4⟩ := hi
    unfold impWs at hw
    rcases List.mem_cons.1 hw with rfl | hw
    · exact k3
    · rcases List.mem_cons.1 hw with rfl | hw
      · exact name_ok i1
      · rcases List.mem_cons.1 hw with rfl | hw
        · exact itoa_ok _
        · rcases List.mem_cons.1 hw with rfl | hw
          · exact kind_ok _ (rb_all i4)
          · exact kinds_lns i3 w hw
  · simp at hw
    rcases hw with rfl | rfl
    · exact k6
    · exact itoa_ok _
/-- THE LAW: what is printed is parsed back. -/
theorem print_back (i : Img) (h : imgB i = true) : parseX (printW i) = (i, 0, 0) := by
  obtain ⟨h1, h2⟩ := (img_lns i h).out
  rw [parse_same]
  unfold parseW printW
  rw [lines_text _ h2, h1]
  obtain ⟨a, ha⟩ := parse_back i h
  rw [ha]
  simp only [h, if_true]
end Go.Tcn
