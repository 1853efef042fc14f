/-
  CONTRACTS: Read of code and taciturnref1, all of it; an instruction of raw numbers. Conditions: the reader's bytes lie in blocks that nobody turns.
  CONTRACTS: chapter 3's example. Conditions: none.
  PLAIN LAW: what is laid is taken again: bytes as lists of numbers. Conditions: none.
  PLAIN LAW: what is laid is read back. Conditions: none.
  PLAIN LAWS: applets' bytes: which may be, how they are laid, how they are read back. Conditions: none.
-/
import Derived.Test.YteebapopeaafhaaGreatDoorHLay
import Derived.Test.YteebapopeaafhaaGreatDoorHHand
import Derived.StillTailTactics
import Derived.Test.YteebapopeaafhaaGreatDoorHImi
namespace Go.Proofs.YteebapopeaafhaaGreatDoor
open Go.RowKit Go.Tcn
set_option linter.unusedVariables false
set_option linter.unusedSimpArgs false

/-- What holds of instr's variables: gq: the raw ones; g3: the instruction. -/
def InR (w : World) (gq g2 g3 : Nat) (o a b c op : Int) (wz : World) : Prop := ∃ x y, I6 x ∧ I6 y ∧ By wz g3 (.int .i64 op) (.int .i64 x) (.int .i64 y) ∧ By wz g2 (.int .i64 0) (.int .i64 0) (.int .i64 0) ∧ Bq wz gq (.int .i64 o) (.int .i64 a) (.int .i64 b) (.int .i64 c) ∧ Tch [] w wz
theorem InR.set1 {w wz : World} {gq g2 g3 : Nat} {o a b c op : Int} (h : InR w gq g2 g3 o a b c op wz) (h2 : gq ≠ g3) (h3 : g2 ≠ g3) (h4 : w.heap.size ≤ g3) (x : Int) (hx : I6 x) : InR w gq g2 g3 o a b c op (wz.setCell ⟨g3, 1, none⟩ (.int .i64 x)) := by
  obtain ⟨x', y, hx', hy, k1, k2, k3, t⟩ := h
  have tt := (Tch.refl [g3] wz).setCell (p := ⟨g3, 1, none⟩) (by simp) (.int .i64 x)
  exact ⟨x, y, hx, hy, k1.set1 _, k2.tch tt (by simpa using h3), k3.tch tt (by simpa using h2), t.setCell (.inr h4) _⟩
theorem InR.set2 {w wz : World} {gq g2 g3 : Nat} {o a b c op : Int} (h : InR w gq g2 g3 o a b c op wz) (h2 : gq ≠ g3) (h3 : g2 ≠ g3) (h4 : w.heap.size ≤ g3) (y : Int) (hy : I6 y) : InR w gq g2 g3 o a b c op (wz.setCell ⟨g3, 2, none⟩ (.int .i64 y)) := by
  obtain ⟨x, y', hx, hy', k1, k2, k3, t⟩ := h
  have tt := (Tch.refl [g3] wz).setCell (p := ⟨g3, 2, none⟩) (by simp) (.int .i64 y)
  exact ⟨x, y, hx, hy, k1.set2 _, k2.tch tt (by simpa using h3), k3.tch tt (by simpa using h2), t.setCell (.inr h4) _⟩
theorem InR.drew {w wz : World} {gq g2 g3 : Nat} {o a b c op : Int} (h : InR w gq g2 g3 o a b c op wz) : InR w gq g2 g3 o a b c op wz.drew := by
  obtain ⟨x, y, hx, hy, k1, k2, k3, t⟩ := h
  have tt := (Tch.refl [] wz).drew
  exact ⟨x, y, hx, hy, k1.tch tt (by simp), k2.tch tt (by simp), k3.tch tt (by simp), t.drew⟩
end Go.Proofs.YteebapopeaafhaaGreatDoor
namespace Go.Proofs.YteebapopeaafhaaGreatDoor
open Go.RowKit Go.Tcn
set_option linter.unusedVariables false
set_option linter.unusedSimpArgs false
end Go.Proofs.YteebapopeaafhaaGreatDoor
namespace Go.Proofs.YteebapopeaafhaaGreatDoor
open Go.Tcn
set_option linter.unusedVariables false
set_option linter.unusedSimpArgs false
theorem rd_app (a rest : List Int) (n : Int) (h : (a.length : Int) = n) : rdOk (a ++ rest) false n = true ∧ rdOut (a ++ rest) false n = a ∧ rdRest (a ++ rest) false n = rest := by
  have hok : rdOk (a ++ rest) false n = true := by simp [rdOk]; omega
  have hn : n.toNat = a.length := by omega
  refine ⟨hok, ?_, ?_⟩
  · simp [rdOut, hok, hn]
  · simp [rdRest, hok, hn]
theorem beN_put1 (v : Int) : beN (putN v 1) = v % 256 := by simp [putN, beN]
theorem beN_put2 (v : Int) : beN (putN v 2) = v % 65536 := by simp [putN, beN]; omega
theorem beN_put4 (v : Int) : beN (putN v 4) = v % 4294967296 := by simp [putN, beN]; omega
end Go.Proofs.YteebapopeaafhaaGreatDoor
namespace Go.Proofs.YteebapopeaafhaaGreatDoor
open Go.RowKit Go.Tcn
set_option linter.unusedVariables false
set_option linter.unusedSimpArgs false
theorem tk_1 (v : Int) (r : List Int) : tk (putN v 1 ++ r) false 1 = (v % 256, r, false) := by
  obtain ⟨h1, h2, h3⟩ := rd_app (putN v 1) r 1 (by simp [putN_length])
  unfold tk; rw [h1, h2, h3, beN_put1]; rfl
theorem tk_2 (v : Int) (r : List Int) : tk (putN v 2 ++ r) false 2 = (v % 65536, r, false) := by
  obtain ⟨h1, h2, h3⟩ := rd_app (putN v 2) r 2 (by simp [putN_length])
  unfold tk; rw [h1, h2, h3, beN_put2]; rfl
theorem tk_4 (v : Int) (r : List Int) : tk (putN v 4 ++ r) false 4 = (v % 4294967296, r, false) := by
  obtain ⟨h1, h2, h3⟩ := rd_app (putN v 4) r 4 (by simp [putN_length])
  unfold tk; rw [h1, h2, h3, beN_put4]; rfl
theorem readI_ahead (op a b : Int) (ho : 1 ≤ op ∧ op ≤ 39) (hR : rightI op a b = true) (m r : List Int) (e : opsI op m false = ((a, b), r, false)) : readI (putN op 1 ++ m) false = ((op, a, b), 0, r, false) := by
  obtain ⟨h1, h2, h3⟩ := rd_app (putN op 1) m 1 (by simp [putN_length])
  rw [readI_ok (putN op 1 ++ m) false h1 op (by rw [h2, beN_put1]; omega) ho a b r false (by rw [h3]; exact e), hR]
  simp
theorem rightI_facts (op a b : Int) (h : rightI op a b = true) : 1 ≤ op ∧ op ≤ 39 ∧ limLo op ≤ a ∧ a ≤ limHi op ∧ (op = 27 → 0 ≤ b ∧ b ≤ 6) ∧ (op ≠ 27 → b = 0) := by
  unfold rightI at h
  simp only [decide_eq_true_eq] at h
  obtain ⟨h1, h2, h3, h4, h5⟩ := h
  refine ⟨h1, h2, h3, h4, fun e => ?_, fun e => ?_⟩
  · rw [if_pos e] at h5; omega
  · rw [if_neg e] at h5; exact h5
theorem limHi_le (op : Int) (h : op ≠ 1) : 0 ≤ limLo op ∧ limHi op ≤ 119 := by
  unfold limLo limHi
  rw [if_neg h, if_neg h]
  constructor <;> (repeat' split) <;> omega
theorem limHi_zero (op : Int) (h : op ≠ 1 ∧ op ≠ 23 ∧ op ≠ 24 ∧ op ≠ 27) (ho : opndN op ≠ 1) : limLo op = 0 ∧ limHi op = 0 := by
  unfold opndN at ho
  rw [if_neg (by omega)] at ho
  split at ho
  · omega
  · rename_i h2
    unfold limLo limHi
    constructor
    · (repeat rw [if_neg (by omega)])
    · (repeat rw [if_neg (by omega)])
theorem readI_enc (op a b : Int) (h : rightI op a b = true) (r : List Int) : readI (encI op a b ++ r) false = ((op, a, b), 0, r, false) := by
  obtain ⟨h1, h2, h3, h4, h5, h6⟩ := rightI_facts op a b h
  by_cases k1 : op = 1
  · subst k1
    have hb := h6 (by omega)
    subst hb
    have e3 : limLo 1 = -2147483648 := rfl
    have e4 : limHi 1 = 2147483647 := rfl
    rw [encI_1, List.append_assoc]
    refine readI_ahead _ _ _ ⟨h1, h2⟩ h _ _ ?_
    unfold opsI
    rw [if_pos rfl, tk_4]
    have : s32 (a % 4294967296) = a := by unfold s32; omega
    rw [this]
  have hlim := limHi_le op k1
  by_cases k2 : op = 23
  · subst k2
    have hb := h6 (by omega)
    subst hb
    rw [encI_23, List.append_assoc]
    refine readI_ahead _ _ _ ⟨h1, h2⟩ h _ _ ?_
    unfold opsI
    rw [if_neg (by omega), if_pos (by omega), tk_2]
    have : a % 65536 = a := by omega
    rw [this]
  by_cases k3 : op = 24
  · subst k3
    have hb := h6 (by omega)
    subst hb
    rw [encI_24, List.append_assoc]
    refine readI_ahead _ _ _ ⟨h1, h2⟩ h _ _ ?_
    unfold opsI
    rw [if_neg (by omega), if_pos (by omega), tk_2]
    have : a % 65536 = a := by omega
    rw [this]
  by_cases k4 : op = 27
  · subst k4
    have hb := h5 rfl
    rw [encI_27, List.append_assoc, List.append_assoc]
    refine readI_ahead _ _ _ ⟨h1, h2⟩ h _ _ ?_
    unfold opsI
    rw [if_neg (by omega), if_neg (by omega), if_pos rfl, tk_1, tk_1]
    have e1 : a % 256 = a := by omega
    have e2 : b % 256 = b := by omega
    rw [e1, e2]
  have hb := h6 k4
  subst hb
  by_cases k5 : opndN op = 1
  · rw [encI_one op a 0 ⟨k1, k2, k3, k4⟩ k5, List.append_assoc]
    refine readI_ahead _ _ _ ⟨h1, h2⟩ h _ _ ?_
    unfold opsI
    rw [if_neg k1, if_neg (by omega), if_neg k4, if_pos k5, tk_1]
    have : a % 256 = a := by omega
    rw [this]
  · rw [encI_zero op a 0 ⟨k1, k2, k3, k4⟩ k5]
    refine readI_ahead _ _ _ ⟨h1, h2⟩ h _ _ ?_
    unfold opsI
    rw [if_neg k1, if_neg (by omega), if_neg k4, if_neg k5]
    have hz := limHi_zero op ⟨k1, k2, k3, k4⟩ k5
    have : a = 0 := by omega
    rw [this]
end Go.Proofs.YteebapopeaafhaaGreatDoor
namespace Go.Tcn
open Go.RowKit
set_option linter.unusedVariables false
set_option linter.unusedSimpArgs false
def insB (x : Ins) : Bool := rightI x.op x.a x.b
def mthB (m : Mth) : Bool := kindsB m.params 4 && resB m.result && kindsB m.locals (10 - m.params.length) && decide (1 ≤ m.code.length ∧ m.code.length ≤ 120) && m.code.all insB
def firstB : List Mth → Bool
  | [] => false
  | m :: _ => decide (m.params.length = 0) && decide (m.result = 0)
def expB (n : Nat) (x : Int) : Bool := decide (0 ≤ x ∧ x < n)
/-- May an applet be? -/
def imgB (i : Img) : Bool := nameB i.name && kindsB i.fields 8 && decide (i.imports.length ≤ 4) && i.imports.all impB && decide (1 ≤ i.methods.length ∧ i.methods.length ≤ 8) && i.methods.all mthB && firstB i.methods && decide (i.exports.length ≤ 4) && i.exports.all (expB i.methods.length)
def encIns (x : Ins) : List Int := encI x.op x.a x.b
theorem nameB_le {s : List UInt8} (h : nameB s = true) : 1 ≤ s.length ∧ s.length ≤ 16 := by
  unfold nameB at h
  simp only [Bool.and_eq_true, decide_eq_true_eq] at h
  exact h.1.1
theorem kindsB_le {l : List Int} {m : Int} (h : kindsB l m = true) : (l.length : Int) ≤ m ∧ ∀ x ∈ l, 1 ≤ x ∧ x ≤ 4 := by
  unfold kindsB at h
  simp only [Bool.and_eq_true, decide_eq_true_eq, List.all_eq_true, kindB] at h
  exact h
theorem imgB_le {i : Img} (h : imgB i = true) : (1 ≤ i.name.length ∧ i.name.length ≤ 16) ∧ (i.fields.length ≤ 8 ∧ ∀ y ∈ i.fields, 1 ≤ y ∧ y ≤ 4) ∧ (i.imports.length ≤ 4 ∧ ∀ x ∈ i.imports, impB x = true) ∧ ((1 ≤ i.methods.length ∧ i.methods.length ≤ 8) ∧ ∀ x ∈ i.methods, mthB x = true) ∧ (i.exports.length ≤ 4 ∧ ∀ y ∈ i.exports, 0 ≤ y ∧ y < i.methods.length) := by
  unfold imgB at h
  simp only [Bool.and_eq_true, decide_eq_true_eq, List.all_eq_true, expB] at h
  obtain ⟨⟨⟨⟨⟨⟨⟨⟨h1, h2⟩, h3⟩, h4⟩, h5⟩, h6⟩, h7⟩, h8⟩, h9⟩ := h
  have h2' := kindsB_le h2
  exact ⟨nameB_le h1, ⟨by omega, h2'.2⟩, ⟨h3, h4⟩, ⟨h5, h6⟩, ⟨h8, h9⟩⟩
/-- Reading: what is taken and what is left, or an error. -/
def Par (α : Type) : Type := List Int → Except Int (α × List Int)
def insP : Par Ins := fun l => if (readI l false).2.1 = 0 then .ok (⟨(readI l false).1.1, (readI l false).1.2.1, (readI l false).1.2.2⟩, (readI l false).2.2.1) else .error (readI l false).2.1
theorem Byt.tail {a r : List Int} (h : Byt (a ++ r)) : Byt r := fun x hx => h x (by simp [hx])
end Go.Tcn
namespace Go.Proofs.YteebapopeaafhaaGreatDoor
open Go.RowKit Go.Tcn
set_option linter.unusedVariables false
set_option linter.unusedSimpArgs false
theorem ins_back (x : Ins) (h : rightI x.op x.a x.b = true) (r : List Int) : insP (encIns x ++ r) = .ok (x, r) := by
  unfold insP encIns
  rw [readI_enc _ _ _ h]
  simp
end Go.Proofs.YteebapopeaafhaaGreatDoor
