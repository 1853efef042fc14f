/-
  PLAIN LAW: text: the two parsers of lines, side by side. Conditions: what a name is, what an operation is called, and what a number is, are given.
  PLAIN LAW: text: words taken rune by rune and words taken byte by byte. Conditions: none.
  PLAIN LAW: text: what is told of a word holds of it turned, too. Conditions: none.
  PLAIN LAW: text: lines; both parsers of a text. Conditions: none.
  PLAIN LAW: text: a number's digits, read back. Conditions: ten digits at most.
  PLAIN LAW: text: an applet's lines, and what they are read as. Conditions: an applet that may be.
  PLAIN LAW: text: the document's number and digits are the program's. Conditions: none.
  PLAIN LAW: text: what is printed is parsed back. Conditions: an applet that may be.
-/
import Derived.Test.YteebapopeaafhaaDoorHImP
import Derived.Lib.MapLaws
import Derived.Lib.ValidLaws
import Derived.Lib.TrimUEq
import Derived.Lib.TrimAscii
import Derived.Lib.SpaceUEq
import Derived.Test.YteebapopeaafhaaDoorHCode5
import Derived.Lib.ItoaNum
namespace Go.Tcn
open Go.RowKit
set_option linter.unusedVariables false
set_option linter.unusedSimpArgs false
abbrev Wd := List UInt8
/-- What both parsers lean on. -/
structure Lean1 where
  isName : Wd → Bool
  op : Wd → Int
  opnds : Int → Nat
  num : Wd → Option Int
  kind : Wd → Int
  name0 : isName [] = false
  op0 : ∀ w, 0 ≤ op w
  k1 : op [97, 112, 112, 108, 101, 116] = 0
  k2 : op [102, 105, 101, 108, 100] = 0
  k3 : op [105, 109, 112, 111, 114, 116] = 0
  k4 : op [109, 101, 116, 104, 111, 100] = 0
  k5 : op [108, 111, 99, 97, 108, 115] = 0
  k6 : op [101, 120, 112, 111, 114, 116] = 0
  two : ∀ w, opnds (op w) ≤ 2
def kApplet : Wd := [97, 112, 112, 108, 101, 116]
def kField : Wd := [102, 105, 101, 108, 100]
def kImport : Wd := [105, 109, 112, 111, 114, 116]
def kMethod : Wd := [109, 101, 116, 104, 111, 100]
def kLocals : Wd := [108, 111, 99, 97, 108, 115]
def kExport : Wd := [101, 120, 112, 111, 114, 116]
variable (U : Lean1)
/-- Words as kinds. -/
def kindsP : List Wd → Option (List Int)
  | [] => some []
  | w :: l => if U.kind w ≤ 0 then none else (kindsP l).map (U.kind w :: ·)
def addLast (ms : List Mth) (f : Mth → Mth) : List Mth := match ms.getLast? with
  | none => ms
  | some m => ms.dropLast ++ [f m]
/-- An instruction of its words. -/
def insW (op : Int) (ws : List Wd) : Option Ins :=
  if ws.length ≠ U.opnds op then none else match ws with
    | [] => some ⟨op, 0, 0⟩
    | [a] => (U.num a).map fun x => ⟨op, x, 0⟩
    | a :: b :: _ => match U.num a, U.num b with
      | some x, some y => some ⟨op, x, y⟩
      | _, _ => none
structure PT where
  i : Img
  stage : Nat
  fresh : Bool
/-- text's parser: a line of words. -/
def lineT (p : PT) (ws : List Wd) : Option PT :=
  match ws with
  | [] => none
  | w0 :: r =>
    let f := w0 == kMethod
    if w0 = kApplet then (if p.stage ≠ 0 ∨ p.i.name ≠ [] then none else match r with
      | [n] => if U.isName n then some ⟨{ p.i with name := n }, p.stage, f⟩ else none
      | _ => none)
    else if w0 = kField then (if p.i.name = [] ∨ 1 < p.stage then none else match kindsP U r with
      | some [k] => some ⟨{ p.i with fields := p.i.fields ++ [k] }, 1, f⟩
      | _ => none)
    else if w0 = kImport then (if p.i.name = [] ∨ 2 < p.stage then none else match r with
      | n :: e :: k :: ps => if U.isName n = true ∧ 0 ≤ U.kind k then match U.num e, kindsP U ps with
        | some x, some l => some ⟨{ p.i with imports := p.i.imports ++ [⟨n, x, l, U.kind k⟩] }, 2, f⟩
        | _, _ => none else none
      | _ => none)
    else if w0 = kMethod then (if p.i.name = [] ∨ 3 < p.stage then none else match r with
      | k :: ps => if 0 ≤ U.kind k then match kindsP U ps with
        | some l => some ⟨{ p.i with methods := p.i.methods ++ [⟨l, U.kind k, [], []⟩] }, 3, f⟩
        | none => none else none
      | _ => none)
    else if w0 = kLocals then (match kindsP U r with
      | some (k :: l) => if p.fresh then some ⟨{ p.i with methods := addLast p.i.methods fun m => { m with locals := k :: l } }, p.stage, f⟩ else none
      | _ => none)
    else if w0 = kExport then (if p.i.methods = [] ∨ p.i.name = [] ∨ 4 < p.stage then none else match r with
      | [e] => (U.num e).map fun x => ⟨{ p.i with exports := p.i.exports ++ [x] }, 4, f⟩
      | _ => none)
    else if p.stage ≠ 3 ∨ U.op w0 = 0 then none else (insW U (U.op w0) r).map fun x => ⟨{ p.i with methods := addLast p.i.methods fun m => { m with code := m.code ++ [x] } }, p.stage, f⟩
structure PR where
  i : Img
  at' : Nat
/-- Both stand alike. -/
structure Sim (p : PT) (q : PR) : Prop where
  i : p.i = q.i
  nm : p.i.name = [] ↔ q.at' = 0
  ms : p.i.methods = [] ↔ q.at' < 4
  st : p.stage = if q.at' ≤ 1 then 0 else if q.at' = 2 then 1 else if q.at' = 3 then 2 else if q.at' ≤ 6 then 3 else 4
  fr : p.fresh = decide (q.at' = 4)
  le : q.at' ≤ 7
theorem addLast_ne (ms : List Mth) (f : Mth → Mth) : addLast ms f = [] ↔ ms = [] := by
  unfold addLast
  cases h : ms.getLast? with
  | none => simp
  | some m =>
    simp only
    constructor
    · intro e; simp at e
    · intro e; subst e; simp at h
def stg (a : Nat) : Nat := if a ≤ 1 then 0 else if a = 2 then 1 else if a = 3 then 2 else if a ≤ 6 then 3 else 4
theorem Sim.mk' {i : Img} {a : Nat} (h1 : i.name = [] ↔ a = 0) (h2 : i.methods = [] ↔ a < 4) (h3 : a ≤ 7) : Sim ⟨i, stg a, decide (a = 4)⟩ ⟨i, a⟩ := ⟨rfl, h1, h2, rfl, rfl, h3⟩
/-- Both refuse, or both go on alike. -/
def Alike (x : Option PT) (y : Option PR) : Prop := (x = none ∧ y = none) ∨ ∃ p q, x = some p ∧ y = some q ∧ Sim p q
theorem Alike.no {x : Option PT} {y : Option PR} (h1 : x = none) (h2 : y = none) : Alike x y := .inl ⟨h1, h2⟩
theorem Alike.go {x : Option PT} {y : Option PR} {i : Img} {a : Nat} {s : Nat} {f : Bool} (h1 : x = some ⟨i, s, f⟩) (h2 : y = some ⟨i, a⟩) (n1 : i.name = [] ↔ a = 0) (n2 : i.methods = [] ↔ a < 4) (n3 : a ≤ 7) (hs : s = stg a) (hf : f = decide (a = 4)) : Alike x y := .inr ⟨_, _, h1, h2, by subst hs hf; exact Sim.mk' n1 n2 n3⟩
theorem kw_ne : kField ≠ kApplet ∧ kImport ≠ kApplet ∧ kImport ≠ kField ∧ kMethod ≠ kApplet ∧ kMethod ≠ kField ∧ kMethod ≠ kImport ∧ kLocals ≠ kApplet ∧ kLocals ≠ kField ∧ kLocals ≠ kImport ∧ kLocals ≠ kMethod ∧ kExport ≠ kApplet ∧ kExport ≠ kField ∧ kExport ≠ kImport ∧ kExport ≠ kMethod ∧ kExport ≠ kLocals := by decide
end Go.Tcn
namespace Go.Tcn
open Go.RowKit
set_option linter.unusedVariables false
set_option linter.unusedSimpArgs false
/-- What follows a word does not change how it is decoded. -/
theorem decode_ctx {s t : Wd} (hs : s ≠ []) (ht : t = [] ∨ (t.getD 0 0).toNat < 128) : Lib.decodeL (s ++ t) = Lib.decodeL s := by
  rw [Lib.decodeL_N, Lib.decodeL_N]
  have h0 : (t.getD 0 0).toNat < 128 := by
    rcases ht with rfl | h
    · decide
    · exact h
  have hx : ¬ (t[0]?.getD 0).toNat / 64 = 2 := by rw [List.getD_eq_getElem?_getD] at h0; omega
  match s, hs with
  | [a], _ =>
    simp only [List.cons_append, List.nil_append, List.length_cons, List.length_nil, List.getD_cons_zero, List.getD_cons_succ, List.getD_nil]
    unfold Lib.decodeN
    simp [hx]
  | [a, b], _ =>
    simp only [List.cons_append, List.nil_append, List.length_cons, List.length_nil, List.getD_cons_zero, List.getD_cons_succ, List.getD_nil]
    unfold Lib.decodeN
    simp [hx]
  | [a, b, c], _ =>
    simp only [List.cons_append, List.nil_append, List.length_cons, List.length_nil, List.getD_cons_zero, List.getD_cons_succ, List.getD_nil]
    unfold Lib.decodeN
    simp [hx]
  | a :: b :: c :: d :: s, _ =>
    simp only [List.cons_append, List.nil_append, List.length_cons, List.length_nil, List.getD_cons_zero, List.getD_cons_succ, List.getD_nil, List.length_append]
    unfold Lib.decodeN
    have e1 : ∀ m : Nat, 1 < m + 1 + 1 + 1 + 1 := fun m => by omega
    have e2 : ∀ m : Nat, 2 < m + 1 + 1 + 1 + 1 := fun m => by omega
    have e3 : ∀ m : Nat, 3 < m + 1 + 1 + 1 + 1 := fun m => by omega
    simp only [e1, e2, e3]
def flW (w : Wd) : List Wd := if w = [] then [] else [w]
/-- text's words of a line: rune by rune. -/
def spT : Nat → Wd → Wd → List Wd
  | 0, _, w => flW w
  | f + 1, l, w => if l = [] then flW w else if (Lib.decodeL l).1 = 35 then flW w else if (Lib.decodeL l).1 = 32 then flW w ++ spT f (l.drop (Lib.decodeL l).2) []
    else spT f (l.drop (Lib.decodeL l).2) (w ++ Lib.encodeRune ((Lib.decodeL l).1 : Int))
/-- The document's: byte by byte. -/
def spR : Wd → Wd → List Wd
  | [], w => flW w
  | c :: l, w => if c = 35 then flW w else if c = 32 then flW w ++ spR l [] else spR l (w ++ [c])
theorem spT_nil (f : Nat) (w : Wd) : spT f [] w = flW w := by cases f <;> simp [spT]
end Go.Tcn
namespace Go.Tcn
open Go.RowKit
set_option linter.unusedVariables false
set_option linter.unusedSimpArgs false
/-- A number's digits. -/
def digV : Wd → Int → Option Int
  | [], n => some n
  | c :: l, n => if 48 ≤ c.toNat ∧ c.toNat ≤ 57 then digV l (10 * n + (c.toNat - 48 : Int)) else none
def bodyOf (w : Wd) : Wd := if w.head? = some 45 then w.drop 1 else w
/-- A number of a word. -/
def numW (w : Wd) : Option Int :=
  if bodyOf w = [] ∨ 10 < (bodyOf w).length ∨ ((bodyOf w).head? = some 48 ∧ w ≠ [48]) then none
  else (digV (bodyOf w) 0).map fun n => if w.head? = some 45 then -n else n
def kNone : Wd := [110, 111, 110, 101]
def kPub : Wd := [112, 117, 98]
def kSec : Wd := [115, 101, 99]
def kPuba : Wd := [112, 117, 98, 97]
def kSeca : Wd := [115, 101, 99, 97]
/-- A kind of a name. -/
def kindW (w : Wd) : Int := if w = kNone then 0 else if w = kPub then 1 else if w = kSec then 2 else if w = kPuba then 3 else if w = kSeca then 4 else -1
/-- What both parsers lean on, as it is. -/
def UU : Lean1 where
  isName := nameB
  op := opAt
  opnds := fun op => (opndN op).toNat
  num := numW
  kind := kindW
  name0 := by unfold nameB; rfl
  op0 := fun w => by unfold opAt; split <;> omega
  k1 := by decide
  k2 := by decide
  k3 := by decide
  k4 := by decide
  k5 := by decide
  k6 := by decide
  two := fun w => by unfold opndN; (repeat' split) <;> decide
end Go.Tcn
namespace Go.Tcn
open Go.RowKit
set_option linter.unusedVariables false
set_option linter.unusedSimpArgs false
/-- Lines, one behind the other: the number of the line that is wrong, or what was read. -/
def parseL {σ : Type} (step : σ → List Wd → Option σ) : List (List Wd) → Nat → σ → Except Nat σ
  | [], _, p => .ok p
  | ws :: ls, k, p => match ws with
    | [] => parseL step ls (k + 1) p
    | w :: r => match step p (w :: r) with
      | none => .error (k + 1)
      | some p' => parseL step ls (k + 1) p'
/-- Both are refused at the same line, or both are read alike. -/
def Both (x : Except Nat PT) (y : Except Nat PR) : Prop := (∃ k, x = .error k ∧ y = .error k) ∨ ∃ p q, x = .ok p ∧ y = .ok q ∧ Sim p q
/-- A text's lines. -/
def linesW : Wd → List Wd
  | [] => []
  | c :: s => if c = 10 then [] :: linesW s else match linesW s with
    | [] => [[c]]
    | l :: ls => (c :: l) :: ls
def p0T : PT := ⟨⟨[], [], [], [], []⟩, 0, false⟩
/-- text's parse. -/
def parseX (s : Wd) : Img × Nat × Int :=
  match parseL (lineT UU) ((linesW s).map fun l => spT l.length l []) 0 p0T with
  | .error k => (⟨[], [], [], [], []⟩, k, 5)
  | .ok p => if imgB p.i then (p.i, 0, 0) else (⟨[], [], [], [], []⟩, (linesW s).length + 1, 5)
end Go.Tcn
namespace Go.Tcn
open Go.RowKit
set_option linter.unusedVariables false
set_option linter.unusedSimpArgs false
theorem dec_len : ∀ (k u : Nat), u < 10 ^ (k + 1) → (Lib.decDigits u).length ≤ k + 1
  | 0, u, h => by rw [Lib.decDigits, dif_pos (by simpa using h)]; simp
  | k + 1, u, h => by
    rw [Lib.decDigits]
    by_cases hu : u < 10
    · rw [dif_pos hu]; simp
    · rw [dif_neg hu, List.length_append, List.length_singleton]
      have := dec_len k (u / 10) (by rw [Nat.pow_succ] at h; omega)
      omega
end Go.Tcn
namespace Go.Tcn
open Go.RowKit
set_option linter.unusedVariables false
set_option linter.unusedSimpArgs false
def joinW : List Wd → Wd
  | [] => []
  | [w] => w
  | w :: l => w ++ 32 :: joinW l
/-- Lines as a text. -/
def textOf (ls : List Wd) : Wd := (ls.map (· ++ [10])).flatten
/-- A kind's name. -/
def kindNm (k : Int) : Wd := if k = 0 then kNone else if k = 1 then kPub else if k = 2 then kSec else if k = 3 then kPuba else if k = 4 then kSeca else []
theorem kind_nm (k : Int) (h : 0 ≤ k ∧ k ≤ 4) : kindW (kindNm k) = k := by
  have : k = 0 ∨ k = 1 ∨ k = 2 ∨ k = 3 ∨ k = 4 := by omega
  rcases this with rfl | rfl | rfl | rfl | rfl <;> decide
/-- The words of an applet's lines. -/
def insWs (x : Ins) : List Wd := nmAt x.op :: (if opndN x.op = 0 then [] else if opndN x.op = 1 then [Lib.itoa x.a] else [Lib.itoa x.a, Lib.itoa x.b])
def impWs (x : Imp) : List Wd := kImport :: x.name :: Lib.itoa x.exp :: kindNm x.result :: x.params.map kindNm
theorem lim_any (op : Int) : -2147483648 ≤ limLo op ∧ limHi op ≤ 2147483647 := by
  unfold limLo limHi
  constructor <;> (repeat' split) <;> omega
theorem addLast_snoc (ms : List Mth) (m : Mth) (f : Mth → Mth) : addLast (ms ++ [m]) f = ms ++ [f m] := by
  unfold addLast
  simp
end Go.Tcn
namespace Go.Tcn
open Go.RowKit
set_option linter.unusedVariables false
set_option linter.unusedSimpArgs false
theorem digits_doc (n : Int) : Lib.itoa n = if n < 0 then 45 :: Lib.decDigits n.natAbs else Lib.decDigits (-n).natAbs := by
  unfold Lib.itoa
  by_cases h : n < 0
  · rw [if_pos h, if_pos h]
  · rw [if_neg h, if_neg h]
    congr 1
    omega
end Go.Tcn
namespace Go.Tcn
open Go.RowKit
set_option linter.unusedVariables false
set_option linter.unusedSimpArgs false
/-- A line of words; of an instruction, two blanks ahead. -/
def padW (l : Wd) : Wd := 32 :: 32 :: l
def mthLs (m : Mth) : List Wd := [joinW (kMethod :: kindNm m.result :: m.params.map kindNm)] ++ ((if m.locals = [] then [] else [joinW (kLocals :: m.locals.map kindNm)]) ++ m.code.map fun x => padW (joinW (insWs x)))
def imgLs (i : Img) : List Wd := [joinW [kApplet, i.name]] ++ (i.fields.map (fun k => joinW [kField, kindNm k]) ++ (i.imports.map (fun x => joinW (impWs x)) ++ (i.methods.flatMap mthLs ++ i.exports.map fun n => joinW [kExport, Lib.itoa n])))
/-- Print. -/
def printW (i : Img) : Wd := textOf (imgLs i)
def LnOk (l : Wd) (ws : List Wd) : Prop := spR l [] = ws ∧ (10 : UInt8) ∉ l
inductive Lns : List Wd → List (List Wd) → Prop
  | nil : Lns [] []
  | cons {l ws ls wss} : LnOk l ws → Lns ls wss → Lns (l :: ls) (ws :: wss)
theorem Lns.out {a : List Wd} {b : List (List Wd)} (h : Lns a b) : a.map (fun l => spR l []) = b ∧ ∀ l ∈ a, (10 : UInt8) ∉ l := by
  induction h with
  | nil => exact ⟨rfl, by simp⟩
  | cons h1 _ ih =>
    refine ⟨by rw [List.map_cons, h1.1, ih.1], fun l hl => ?_⟩
    rcases List.mem_cons.1 hl with rfl | hl
    · exact h1.2
    · exact ih.2 l hl
end Go.Tcn
