/-
  PLAIN LAWS: the instructions' names, their operands and ranges, their bytes. Conditions: none.
-/
import Derived.Test.YtapephelfijcbaaDoorLib
namespace Go.Tcn
set_option linter.unusedVariables false
set_option linter.unusedSimpArgs false
/-- The names of all instructions, as bytes. -/
def nmTab : List (List UInt8) := [[112, 117, 115, 104], [108, 111, 97, 100], [115, 116, 111, 114, 101], [112, 111, 112], [100, 117, 112], [97, 100, 100], [115, 117, 98], [109, 117, 108], [97, 110, 100], [111, 114], [120, 111, 114], [115, 104, 108], [115, 104, 114], [115, 97, 114], [110, 101, 103], [110, 111, 116], [100, 105, 118], [114, 101, 109], [101, 113], [108, 116], [98, 101, 108, 111, 119], [112, 105, 99, 107], [106, 117, 109, 112], [106, 117, 109, 112, 105, 102], [110, 117, 108, 108], [105, 115, 110, 117, 108, 108], [110, 101, 119], [108, 101, 110], [103, 101, 116], [112, 117, 116], [99, 111, 112, 121], [115, 97, 109, 101], [103, 101, 116, 102], [112, 117, 116, 102], [98, 117, 102], [115, 101, 110, 100], [99, 97, 108, 108], [99, 97, 108, 108, 120], [114, 101, 116]]
/-- All names with a blank behind each. -/
def wordsL : List UInt8 := [112, 117, 115, 104, 32, 108, 111, 97, 100, 32, 115, 116, 111, 114, 101, 32, 112, 111, 112, 32, 100, 117, 112, 32, 97, 100, 100, 32, 115, 117, 98, 32, 109, 117, 108, 32, 97, 110, 100, 32, 111, 114, 32, 120, 111, 114, 32, 115, 104, 108, 32, 115, 104, 114, 32, 115, 97, 114, 32, 110, 101, 103, 32, 110, 111, 116, 32, 100, 105, 118, 32, 114, 101, 109, 32, 101, 113, 32, 108, 116, 32, 98, 101, 108, 111, 119, 32, 112, 105, 99, 107, 32, 106, 117, 109, 112, 32, 106, 117, 109, 112, 105, 102, 32, 110, 117, 108, 108, 32, 105, 115, 110, 117, 108, 108, 32, 110, 101, 119, 32, 108, 101, 110, 32, 103, 101, 116, 32, 112, 117, 116, 32, 99, 111, 112, 121, 32, 115, 97, 109, 101, 32, 103, 101, 116, 102, 32, 112, 117, 116, 102, 32, 98, 117, 102, 32, 115, 101, 110, 100, 32, 99, 97, 108, 108, 32, 99, 97, 108, 108, 120, 32, 114, 101, 116, 32]
/-- Where a walk over words is told to stop: op, word. -/
def findW (stop : Nat → List UInt8 → Bool) : List UInt8 → Nat → List UInt8 → Option (Nat × List UInt8)
  | [], _, _ => none
  | c :: l, n, word => if c = 32 then (if stop n word = true then some (n, word) else findW stop l (n + 1) []) else findW stop l n (word ++ [c])
def firstW (stop : Nat → List UInt8 → Bool) : List (List UInt8) → Nat → Option (Nat × List UInt8)
  | [], _ => none
  | word :: l, n => if stop n word = true then some (n, word) else firstW stop l (n + 1)
theorem findW_word (stop : Nat → List UInt8 → Bool) (rest : List UInt8) (n : Nat) : ∀ (w acc : List UInt8), (∀ c ∈ w, c ≠ 32) → findW stop (w ++ 32 :: rest) n acc = if stop n (acc ++ w) = true then some (n, acc ++ w) else findW stop rest (n + 1) []
  | [], acc, _ => by simp [findW]
  | c :: w, acc, h => by
    have hc := h c (by simp)
    rw [List.cons_append, findW, if_neg hc, findW_word stop rest n w (acc ++ [c]) (fun x hx => h x (by simp [hx]))]
    simp
theorem findW_tab (stop : Nat → List UInt8 → Bool) : ∀ (t : List (List UInt8)) (n : Nat), (∀ w ∈ t, ∀ c ∈ w, c ≠ 32) → findW stop (t.flatMap (· ++ [32])) n [] = firstW stop t n
  | [], n, _ => rfl
  | w :: t, n, h => by
    rw [List.flatMap_cons, List.append_assoc, List.singleton_append, findW_word stop _ n w [] (h w (by simp)), firstW, findW_tab stop t (n + 1) (fun x hx => h x (by simp [hx]))]
    simp
theorem words_tab : wordsL = nmTab.flatMap (· ++ [32]) := by decide +kernel
theorem findW_words (stop : Nat → List UInt8 → Bool) : findW stop wordsL 1 [] = firstW stop nmTab 1 := by
  rw [words_tab]
  exact findW_tab stop nmTab 1 (by decide +kernel)
/-- The name of an instruction. -/
def nmAt (op : Int) : List UInt8 := if 1 ≤ op ∧ op ≤ 39 then nmTab.getD (op.toNat - 1) [] else []
theorem firstW_op (op : Int) : ∀ (l : List (List UInt8)) (n : Nat), firstW (fun k _ => decide ((k : Int) = op)) l n = if (n : Int) ≤ op ∧ op < (n : Int) + l.length then some (op.toNat, l.getD (op.toNat - n) []) else none
  | [], n => by unfold firstW; rw [if_neg (by simp <;> omega)]
  | w :: l, n => by
    unfold firstW
    by_cases h : (n : Int) = op
    · rw [if_pos (by simpa using h), if_pos (by simp; omega)]
      have : op.toNat = n := by omega
      rw [this]; simp
    · rw [if_neg (by simpa using h), firstW_op op l (n + 1)]
      by_cases h2 : (n : Int) ≤ op ∧ op < (n : Int) + (w :: l).length
      · rw [if_pos h2, if_pos (by simp at h2 ⊢; omega)]
        have e : op.toNat - n = (op.toNat - (n + 1)) + 1 := by omega
        rw [e]; simp
      · rw [if_neg h2, if_neg (by simp at h2 ⊢; omega)]
theorem findW_op (op : Int) : findW (fun k _ => decide ((k : Int) = op)) wordsL 1 [] = if 1 ≤ op ∧ op ≤ 39 then some (op.toNat, nmAt op) else none := by
  rw [findW_words, firstW_op]
  have e : nmTab.length = 39 := rfl
  rw [e]
  by_cases h : 1 ≤ op ∧ op ≤ 39
  · rw [if_pos (by omega), if_pos h]; unfold nmAt; rw [if_pos h]
  · rw [if_neg (by omega), if_neg h]
/-- The first instruction of a name; 0: there is none. -/
def opAt (s : List UInt8) : Int := match firstW (fun _ w => w == s) nmTab 1 with | some (n, _) => (n : Int) | none => 0
theorem findW_name (s : List UInt8) : findW (fun _ w => w == s) wordsL 1 [] = firstW (fun _ w => w == s) nmTab 1 := findW_words _
theorem nmTab_ne : ∀ w ∈ nmTab, w ≠ [] := by decide
theorem nmAt_nil (op : Int) : nmAt op = [] ↔ ¬ (1 ≤ op ∧ op ≤ 39) := by
  unfold nmAt
  by_cases h : 1 ≤ op ∧ op ≤ 39
  · rw [if_pos h]
    have hl : op.toNat - 1 < nmTab.length := by show _ < 39; omega
    have e : nmTab.getD (op.toNat - 1) [] = nmTab[op.toNat - 1] := by simp [List.getD, hl]
    rw [e]
    have := nmTab_ne _ (List.getElem_mem hl)
    simp [this, h]
  · rw [if_neg h]; simp [h]
/-- How many operands. -/
def opndN (op : Int) : Int := if op = 27 then 2 else if op = 1 ∨ op = 2 ∨ op = 3 ∨ op = 23 ∨ op = 24 ∨ op = 25 ∨ op = 33 ∨ op = 34 ∨ op = 35 ∨ op = 36 ∨ op = 37 ∨ op = 38 then 1 else 0
/-- The ranges of A. -/
def limLo (op : Int) : Int := if op = 1 then -2147483648 else if op = 25 ∨ op = 27 then 3 else if op = 35 ∨ op = 36 then 1 else 0
def limHi (op : Int) : Int := if op = 1 then 2147483647 else if op = 2 ∨ op = 3 then 9 else if op = 23 ∨ op = 24 then 119 else if op = 25 ∨ op = 27 then 4 else if op = 33 ∨ op = 34 then 7 else if op = 35 ∨ op = 36 then 2 else if op = 37 then 7 else if op = 38 then 3 else 0
/-- May an instruction be? -/
def rightI (op a b : Int) : Bool := decide (1 ≤ op ∧ op ≤ 39 ∧ limLo op ≤ a ∧ a ≤ limHi op ∧ (if op = 27 then (0 ≤ b ∧ b ≤ 2 ∨ 4 ≤ b ∧ b ≤ 6) else b = 0))
/-- Its bytes. -/
def encI (op a b : Int) : List Int := putN op 1 ++ (if op = 1 then putN a 4 else if op = 23 ∨ op = 24 then putN a 2 else if op = 27 then putN a 1 ++ putN b 1 else if opndN op = 1 then putN a 1 else [])
theorem encI_length (op a b : Int) : 1 ≤ (encI op a b).length ∧ (encI op a b).length ≤ 5 := by
  unfold encI
  simp only [List.length_append, putN_length]
  repeat' split
  all_goals simp [putN_length]
theorem encI_byt (op a b : Int) : Byt (encI op a b) := by
  unfold encI
  refine (byt_putN _ _).append ?_
  repeat' split
  all_goals first | exact Byt.nil | exact byt_putN _ _ | exact (byt_putN _ _).append (byt_putN _ _)
/-- One number taken: the number, what is left, was it beyond the end? -/
def tk (l : List Int) (k : Bool) (n : Int) : Int × List Int × Bool := (beN (rdOut l k n), rdRest l k n, !rdOk l k n)
/-- What reading an instruction gives: op, a, b, the error; what is left; beyond the end? -/
def readI (l : List Int) (k : Bool) : (Int × Int × Int) × Int × List Int × Bool :=
  let o := tk l k 1
  if o.2.2 = true then ((0, 0, 0), 7, o.2)
  else if ¬ (1 ≤ o.1 ∧ o.1 ≤ 39) then ((0, 0, 0), 8, o.2)
  else
    let r : (Int × Int) × List Int × Bool :=
      if o.1 = 1 then (let x := tk o.2.1 o.2.2 4; ((s32 x.1, 0), x.2))
      else if o.1 = 23 ∨ o.1 = 24 then (let x := tk o.2.1 o.2.2 2; ((x.1, 0), x.2))
      else if o.1 = 27 then (let x := tk o.2.1 o.2.2 1; let y := tk x.2.1 x.2.2 1; ((x.1, y.1), y.2))
      else if opndN o.1 = 1 then (let x := tk o.2.1 o.2.2 1; ((x.1, 0), x.2))
      else ((0, 0), o.2)
    if r.2.2 = true then ((0, 0, 0), 7, r.2)
    else if rightI o.1 r.1.1 r.1.2 = false then ((0, 0, 0), 9, r.2)
    else ((o.1, r.1.1, r.1.2), 0, r.2)
end Go.Tcn
