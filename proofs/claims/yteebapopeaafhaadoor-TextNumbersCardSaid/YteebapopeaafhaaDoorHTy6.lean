/-
  CONTRACTS: the document's parser: a line: none of these; a line. Conditions: utf8's tables as they are laid; sizes.
-/
import Derived.Test.YteebapopeaafhaaDoorHTy5
import Derived.Deep.QuietTactic
import Derived.BigQuiet
namespace Go.Proofs.YteebapopeaafhaaDoor
open Go.RowKit Go.Tcn
set_option linter.unusedVariables false
set_option linter.unusedSimpArgs false
set_option maxRecDepth 100000 in
set_option maxHeartbeats 8000000 in
theorem rl_no1 (w : World) (b : Nat) (O : List Nat) (i : Img) (a : Nat) (h : PRx w b O i a) (ha0 : a ≠ 0) (ha : ¬ a ≤ 2) (a0 : Option Addr) (c0 : Nat) (r : List Wd) (hw : Src w O (.slice a0 (r.length + 1) c0) (r.length + 1) (strs (kField :: r))) (hl : r.length + 1 ≤ 1099511627776) (hwl : ∀ wd ∈ r, wd.length ≤ 1099511627776) (hV : ValO w O) :
    Calls Tryd.prog 21 #[.pointer (some ⟨b, 0, none⟩), .slice a0 (r.length + 1) c0] w fun e w' => RLTo w w' b O (lineR UU ⟨i, a⟩ (kField :: r)) e := by
  have hbO := h.b
  have hOl := h.ol
  obtain ⟨ad, rfl, hadl0, hadO, hq⟩ := Src.at hw (j := 0) (by simp)
  rw [Addr_add_zero] at hq
  have hq00 : w.cell? ad = some (.string ⟨(kField : Wd).toArray⟩) := by simpa [strs] using hq
  clear hq
  have HAZ := Lib.hid ha0
  have haz0 : ((a : Int) == 0) = false := by simp; omega
  have haz1 : (a == 0) = false := by simp; omega
  have hle2 : decide ((a : Int) ≤ 2) = false := decide_eq_false (by omega)
  have hlf2 : decide (a ≤ 2) = false := decide_eq_false (by omega)
  go_enter Tryd.func21, Tryd.ntmps21
  go_wp2_with fail
  refine (ref_Op kField w).mono ?_
  rintro e w1 ⟨rfl, t1⟩
  have hadl := Nat.lt_of_lt_of_le hadl0 t1.size
  have hq0 := (t1.cell (p := ad) hadl0 (by simp)).trans hq00
  have hw1 := hw.tch t1 (by simp)
  have tO : Tch O w w1 := t1.nil
  have h1 := h.tch0 t1
  obtain ⟨vf, vi, vm, ve, q1, q2⟩ := (show PRx w1 b O i _ from h1).cells
  obtain ⟨d0, d1, d2, d3, d4, d5, hf⟩ := cells6 q1
  have hb1 := heap_lt q1
  obtain ⟨op, hop⟩ : ∃ op, op = opAt kField := ⟨_, rfl⟩
  rw [← hop]
  have HOP := Lib.hid hop
  clear hop hq00 hw
  have hR : lineR UU ⟨i, a⟩ (kField :: r) = none := by
    unfold lineR
    simp only
    rw [if_neg ha0, if_neg (fun h => ha h.2), if_neg (fun h => absurd h.1 (by decide)), if_neg (fun h => absurd h.1 (by decide)), if_neg (fun h => absurd h.1 (by decide)), if_neg (fun h => by have h1 := h.1; rw [show UU.op kField = 0 from UU.k2] at h1; omega), if_neg (fun h => absurd h.1 (by decide))]
  have HR := Lib.hid (And.intro hR tO)
  clear hR hw1 h1 h q1 q2 tO t1
  have hop0 : op = 0 := HOP.out.trans UU.k2
  have hdo : decide (0 < op) = false := decide_eq_false (by omega)
  go_wp2_with fail
  go_ret
  rw [HR.out.1]
  exact RLTo.no rfl HR.out.2
set_option maxRecDepth 100000 in
set_option maxHeartbeats 8000000 in
theorem rl_no2 (w : World) (b : Nat) (O : List Nat) (i : Img) (a : Nat) (h : PRx w b O i a) (ha0 : a ≠ 0) (ha : ¬ a ≤ 3) (a0 : Option Addr) (c0 : Nat) (r : List Wd) (hw : Src w O (.slice a0 (r.length + 1) c0) (r.length + 1) (strs (kImport :: r))) (hl : r.length + 1 ≤ 1099511627776) (hwl : ∀ wd ∈ r, wd.length ≤ 1099511627776) (hV : ValO w O) :
    Calls Tryd.prog 21 #[.pointer (some ⟨b, 0, none⟩), .slice a0 (r.length + 1) c0] w fun e w' => RLTo w w' b O (lineR UU ⟨i, a⟩ (kImport :: r)) e := by
  have hbO := h.b
  have hOl := h.ol
  obtain ⟨ad, rfl, hadl0, hadO, hq⟩ := Src.at hw (j := 0) (by simp)
  rw [Addr_add_zero] at hq
  have hq00 : w.cell? ad = some (.string ⟨(kImport : Wd).toArray⟩) := by simpa [strs] using hq
  clear hq
  have HAZ := Lib.hid ha0
  have haz0 : ((a : Int) == 0) = false := by simp; omega
  have haz1 : (a == 0) = false := by simp; omega
  have hle3 : decide ((a : Int) ≤ 3) = false := decide_eq_false (by omega)
  have hlf3 : decide (a ≤ 3) = false := decide_eq_false (by omega)
  go_enter Tryd.func21, Tryd.ntmps21
  go_wp2_with fail
  refine (ref_Op kImport w).mono ?_
  rintro e w1 ⟨rfl, t1⟩
  have hadl := Nat.lt_of_lt_of_le hadl0 t1.size
  have hq0 := (t1.cell (p := ad) hadl0 (by simp)).trans hq00
  have hw1 := hw.tch t1 (by simp)
  have tO : Tch O w w1 := t1.nil
  have h1 := h.tch0 t1
  obtain ⟨vf, vi, vm, ve, q1, q2⟩ := (show PRx w1 b O i _ from h1).cells
  obtain ⟨d0, d1, d2, d3, d4, d5, hf⟩ := cells6 q1
  have hb1 := heap_lt q1
  obtain ⟨op, hop⟩ : ∃ op, op = opAt kImport := ⟨_, rfl⟩
  rw [← hop]
  have HOP := Lib.hid hop
  clear hop hq00 hw
  have hR : lineR UU ⟨i, a⟩ (kImport :: r) = none := by
    unfold lineR
    simp only
    rw [if_neg ha0, if_neg (fun h => absurd h.1 (by decide)), if_neg (fun h => ha h.2), if_neg (fun h => absurd h.1 (by decide)), if_neg (fun h => absurd h.1 (by decide)), if_neg (fun h => by have h1 := h.1; rw [show UU.op kImport = 0 from UU.k3] at h1; omega), if_neg (fun h => absurd h.1 (by decide))]
  have HR := Lib.hid (And.intro hR tO)
  clear hR hw1 h1 h q1 q2 tO t1
  have hop0 : op = 0 := HOP.out.trans UU.k3
  have hdo : decide (0 < op) = false := decide_eq_false (by omega)
  go_wp2_with fail
  go_ret
  rw [HR.out.1]
  exact RLTo.no rfl HR.out.2
set_option maxRecDepth 100000 in
set_option maxHeartbeats 8000000 in
theorem rl_no3 (w : World) (b : Nat) (O : List Nat) (i : Img) (a : Nat) (h : PRx w b O i a) (ha0 : a ≠ 0) (ha : ¬ a ≤ 6) (a0 : Option Addr) (c0 : Nat) (r : List Wd) (hw : Src w O (.slice a0 (r.length + 1) c0) (r.length + 1) (strs (kMethod :: r))) (hl : r.length + 1 ≤ 1099511627776) (hwl : ∀ wd ∈ r, wd.length ≤ 1099511627776) (hV : ValO w O) :
    Calls Tryd.prog 21 #[.pointer (some ⟨b, 0, none⟩), .slice a0 (r.length + 1) c0] w fun e w' => RLTo w w' b O (lineR UU ⟨i, a⟩ (kMethod :: r)) e := by
  have hbO := h.b
  have hOl := h.ol
  obtain ⟨ad, rfl, hadl0, hadO, hq⟩ := Src.at hw (j := 0) (by simp)
  rw [Addr_add_zero] at hq
  have hq00 : w.cell? ad = some (.string ⟨(kMethod : Wd).toArray⟩) := by simpa [strs] using hq
  clear hq
  have HAZ := Lib.hid ha0
  have haz0 : ((a : Int) == 0) = false := by simp; omega
  have haz1 : (a == 0) = false := by simp; omega
  have hle6 : decide ((a : Int) ≤ 6) = false := decide_eq_false (by omega)
  have hlf6 : decide (a ≤ 6) = false := decide_eq_false (by omega)
  go_enter Tryd.func21, Tryd.ntmps21
  go_wp2_with fail
  refine (ref_Op kMethod w).mono ?_
  rintro e w1 ⟨rfl, t1⟩
  have hadl := Nat.lt_of_lt_of_le hadl0 t1.size
  have hq0 := (t1.cell (p := ad) hadl0 (by simp)).trans hq00
  have hw1 := hw.tch t1 (by simp)
  have tO : Tch O w w1 := t1.nil
  have h1 := h.tch0 t1
  obtain ⟨vf, vi, vm, ve, q1, q2⟩ := (show PRx w1 b O i _ from h1).cells
  obtain ⟨d0, d1, d2, d3, d4, d5, hf⟩ := cells6 q1
  have hb1 := heap_lt q1
  obtain ⟨op, hop⟩ : ∃ op, op = opAt kMethod := ⟨_, rfl⟩
  rw [← hop]
  have HOP := Lib.hid hop
  clear hop hq00 hw
  have hR : lineR UU ⟨i, a⟩ (kMethod :: r) = none := by
    unfold lineR
    simp only
    rw [if_neg ha0, if_neg (fun h => absurd h.1 (by decide)), if_neg (fun h => absurd h.1 (by decide)), if_neg (fun h => ha h.2), if_neg (fun h => absurd h.1 (by decide)), if_neg (fun h => by have h1 := h.1; rw [show UU.op kMethod = 0 from UU.k4] at h1; omega), if_neg (fun h => absurd h.1 (by decide))]
  have HR := Lib.hid (And.intro hR tO)
  clear hR hw1 h1 h q1 q2 tO t1
  have hop0 : op = 0 := HOP.out.trans UU.k4
  have hdo : decide (0 < op) = false := decide_eq_false (by omega)
  go_wp2_with fail
  go_ret
  rw [HR.out.1]
  exact RLTo.no rfl HR.out.2
set_option maxRecDepth 100000 in
set_option maxHeartbeats 8000000 in
theorem rl_no4 (w : World) (b : Nat) (O : List Nat) (i : Img) (a : Nat) (h : PRx w b O i a) (ha0 : a ≠ 0) (ha : a ≠ 4) (a0 : Option Addr) (c0 : Nat) (r : List Wd) (hw : Src w O (.slice a0 (r.length + 1) c0) (r.length + 1) (strs (kLocals :: r))) (hl : r.length + 1 ≤ 1099511627776) (hwl : ∀ wd ∈ r, wd.length ≤ 1099511627776) (hV : ValO w O) :
    Calls Tryd.prog 21 #[.pointer (some ⟨b, 0, none⟩), .slice a0 (r.length + 1) c0] w fun e w' => RLTo w w' b O (lineR UU ⟨i, a⟩ (kLocals :: r)) e := by
  have hbO := h.b
  have hOl := h.ol
  obtain ⟨ad, rfl, hadl0, hadO, hq⟩ := Src.at hw (j := 0) (by simp)
  rw [Addr_add_zero] at hq
  have hq00 : w.cell? ad = some (.string ⟨(kLocals : Wd).toArray⟩) := by simpa [strs] using hq
  clear hq
  have HAZ := Lib.hid ha0
  have haz0 : ((a : Int) == 0) = false := by simp; omega
  have haz1 : (a == 0) = false := by simp; omega
  have hea : ((a : Int) == 4) = false := by simp; omega
  have heb : (a == 4) = false := by simp; omega
  go_enter Tryd.func21, Tryd.ntmps21
  go_wp2_with fail
  refine (ref_Op kLocals w).mono ?_
  rintro e w1 ⟨rfl, t1⟩
  have hadl := Nat.lt_of_lt_of_le hadl0 t1.size
  have hq0 := (t1.cell (p := ad) hadl0 (by simp)).trans hq00
  have hw1 := hw.tch t1 (by simp)
  have tO : Tch O w w1 := t1.nil
  have h1 := h.tch0 t1
  obtain ⟨vf, vi, vm, ve, q1, q2⟩ := (show PRx w1 b O i _ from h1).cells
  obtain ⟨d0, d1, d2, d3, d4, d5, hf⟩ := cells6 q1
  have hb1 := heap_lt q1
  obtain ⟨op, hop⟩ : ∃ op, op = opAt kLocals := ⟨_, rfl⟩
  rw [← hop]
  have HOP := Lib.hid hop
  clear hop hq00 hw
  have hR : lineR UU ⟨i, a⟩ (kLocals :: r) = none := by
    unfold lineR
    simp only
    rw [if_neg ha0, if_neg (fun h => absurd h.1 (by decide)), if_neg (fun h => absurd h.1 (by decide)), if_neg (fun h => absurd h.1 (by decide)), if_neg (fun h => ha h.2), if_neg (fun h => by have h1 := h.1; rw [show UU.op kLocals = 0 from UU.k5] at h1; omega), if_neg (fun h => absurd h.1 (by decide))]
  have HR := Lib.hid (And.intro hR tO)
  clear hR hw1 h1 h q1 q2 tO t1
  have hop0 : op = 0 := HOP.out.trans UU.k5
  have hdo : decide (0 < op) = false := decide_eq_false (by omega)
  go_wp2_with fail
  go_ret
  rw [HR.out.1]
  exact RLTo.no rfl HR.out.2
set_option maxRecDepth 100000 in
set_option maxHeartbeats 8000000 in
theorem rl_no5 (w : World) (b : Nat) (O : List Nat) (i : Img) (a : Nat) (h : PRx w b O i a) (ha0 : a ≠ 0) (ha : ¬ 4 ≤ a) (a0 : Option Addr) (c0 : Nat) (r : List Wd) (hw : Src w O (.slice a0 (r.length + 1) c0) (r.length + 1) (strs (kExport :: r))) (hl : r.length + 1 ≤ 1099511627776) (hwl : ∀ wd ∈ r, wd.length ≤ 1099511627776) (hV : ValO w O) :
    Calls Tryd.prog 21 #[.pointer (some ⟨b, 0, none⟩), .slice a0 (r.length + 1) c0] w fun e w' => RLTo w w' b O (lineR UU ⟨i, a⟩ (kExport :: r)) e := by
  have hbO := h.b
  have hOl := h.ol
  obtain ⟨ad, rfl, hadl0, hadO, hq⟩ := Src.at hw (j := 0) (by simp)
  rw [Addr_add_zero] at hq
  have hq00 : w.cell? ad = some (.string ⟨(kExport : Wd).toArray⟩) := by simpa [strs] using hq
  clear hq
  have HAZ := Lib.hid ha0
  have haz0 : ((a : Int) == 0) = false := by simp; omega
  have haz1 : (a == 0) = false := by simp; omega
  have hge4 : decide ((4 : Int) ≤ (a : Int)) = false := decide_eq_false (by omega)
  have hgf4 : decide (4 ≤ a) = false := decide_eq_false (by omega)
  go_enter Tryd.func21, Tryd.ntmps21
  go_wp2_with fail
  refine (ref_Op kExport w).mono ?_
  rintro e w1 ⟨rfl, t1⟩
  have hadl := Nat.lt_of_lt_of_le hadl0 t1.size
  have hq0 := (t1.cell (p := ad) hadl0 (by simp)).trans hq00
  have hw1 := hw.tch t1 (by simp)
  have tO : Tch O w w1 := t1.nil
  have h1 := h.tch0 t1
  obtain ⟨vf, vi, vm, ve, q1, q2⟩ := (show PRx w1 b O i _ from h1).cells
  obtain ⟨d0, d1, d2, d3, d4, d5, hf⟩ := cells6 q1
  have hb1 := heap_lt q1
  obtain ⟨op, hop⟩ : ∃ op, op = opAt kExport := ⟨_, rfl⟩
  rw [← hop]
  have HOP := Lib.hid hop
  clear hop hq00 hw
  have hR : lineR UU ⟨i, a⟩ (kExport :: r) = none := by
    unfold lineR
    simp only
    rw [if_neg ha0, if_neg (fun h => absurd h.1 (by decide)), if_neg (fun h => absurd h.1 (by decide)), if_neg (fun h => absurd h.1 (by decide)), if_neg (fun h => absurd h.1 (by decide)), if_neg (fun h => by have h1 := h.1; rw [show UU.op kExport = 0 from UU.k6] at h1; omega), if_neg (fun h => ha h.2)]
  have HR := Lib.hid (And.intro hR tO)
  clear hR hw1 h1 h q1 q2 tO t1
  have hop0 : op = 0 := HOP.out.trans UU.k6
  have hdo : decide (0 < op) = false := decide_eq_false (by omega)
  go_wp2_with fail
  go_ret
  rw [HR.out.1]
  exact RLTo.no rfl HR.out.2
set_option maxRecDepth 100000 in
set_option maxHeartbeats 8000000 in
theorem rl_no6 (w : World) (b : Nat) (O : List Nat) (i : Img) (a : Nat) (h : PRx w b O i a) (ha0 : a ≠ 0) (w0 : Wd) (k1 : w0 ≠ kField) (k2 : w0 ≠ kImport) (k3 : w0 ≠ kMethod) (k4 : w0 ≠ kLocals) (k5 : w0 ≠ kExport) (ha : ¬ (0 < opAt w0 ∧ 4 ≤ a ∧ a ≤ 6)) (a0 : Option Addr) (c0 : Nat) (r : List Wd) (hw : Src w O (.slice a0 (r.length + 1) c0) (r.length + 1) (strs (w0 :: r))) (hl : r.length + 1 ≤ 1099511627776) (hwl : ∀ wd ∈ r, wd.length ≤ 1099511627776) (hV : ValO w O) :
    Calls Tryd.prog 21 #[.pointer (some ⟨b, 0, none⟩), .slice a0 (r.length + 1) c0] w fun e w' => RLTo w w' b O (lineR UU ⟨i, a⟩ (w0 :: r)) e := by
  have hbO := h.b
  have hOl := h.ol
  obtain ⟨ad, rfl, hadl0, hadO, hq⟩ := Src.at hw (j := 0) (by simp)
  rw [Addr_add_zero] at hq
  have hq00 : w.cell? ad = some (.string ⟨(w0 : Wd).toArray⟩) := by simpa [strs] using hq
  clear hq
  have HAZ := Lib.hid ha0
  have haz0 : ((a : Int) == 0) = false := by simp; omega
  have haz1 : (a == 0) = false := by simp; omega
  have b1 : (w0 == [102, 105, 101, 108, 100]) = false := beq_eq_false_iff_ne.2 k1
  have b2 : (w0 == [105, 109, 112, 111, 114, 116]) = false := beq_eq_false_iff_ne.2 k2
  have b3 : (w0 == [109, 101, 116, 104, 111, 100]) = false := beq_eq_false_iff_ne.2 k3
  have b4 : (w0 == [108, 111, 99, 97, 108, 115]) = false := beq_eq_false_iff_ne.2 k4
  have b5 : (w0 == [101, 120, 112, 111, 114, 116]) = false := beq_eq_false_iff_ne.2 k5
  go_enter Tryd.func21, Tryd.ntmps21
  go_wp2_with fail
  refine (ref_Op w0 w).mono ?_
  rintro e w1 ⟨rfl, t1⟩
  have hadl := Nat.lt_of_lt_of_le hadl0 t1.size
  have hq0 := (t1.cell (p := ad) hadl0 (by simp)).trans hq00
  have hw1 := hw.tch t1 (by simp)
  have tO : Tch O w w1 := t1.nil
  have h1 := h.tch0 t1
  obtain ⟨vf, vi, vm, ve, q1, q2⟩ := (show PRx w1 b O i _ from h1).cells
  obtain ⟨d0, d1, d2, d3, d4, d5, hf⟩ := cells6 q1
  have hb1 := heap_lt q1
  obtain ⟨op, hop⟩ : ∃ op, op = opAt w0 := ⟨_, rfl⟩
  rw [← hop]
  have HOP := Lib.hid hop
  clear hop hq00 hw
  have hR : lineR UU ⟨i, a⟩ (w0 :: r) = none := by
    unfold lineR
    simp only
    rw [if_neg ha0, if_neg (fun h => k1 h.1), if_neg (fun h => k2 h.1), if_neg (fun h => k3 h.1), if_neg (fun h => k4 h.1), if_neg (show ¬ (0 < UU.op w0 ∧ 4 ≤ a ∧ a ≤ 6) from ha), if_neg (fun h => k5 h.1)]
  have HR := Lib.hid (And.intro hR tO)
  clear hR hw1 h1 h q1 q2 tO t1
  clear k1 k2 k3 k4 k5
  by_cases ho : 0 < op
  · have hdo : decide (0 < op) = true := decide_eq_true ho
    by_cases h4 : 4 ≤ a
    · have h6 : ¬ a ≤ 6 := fun h6 => ha ⟨by rw [← HOP.out]; exact ho, h4, h6⟩
      have hge4 : decide ((4 : Int) ≤ (a : Int)) = true := decide_eq_true (by omega)
      have hgf4 : decide (4 ≤ a) = true := decide_eq_true (by omega)
      have hle6 : decide ((a : Int) ≤ 6) = false := decide_eq_false (by omega)
      have hlf6 : decide (a ≤ 6) = false := decide_eq_false (by omega)
      go_wp2_with fail
      go_ret
      rw [HR.out.1]
      exact RLTo.no rfl HR.out.2
    · skip
      have hge4 : decide ((4 : Int) ≤ (a : Int)) = false := decide_eq_false (by omega)
      have hgf4 : decide (4 ≤ a) = false := decide_eq_false (by omega)
      go_wp2_with fail
      go_ret
      rw [HR.out.1]
      exact RLTo.no rfl HR.out.2
  · have hdo : decide (0 < op) = false := decide_eq_false ho
    go_wp2_with fail
    go_ret
    rw [HR.out.1]
    exact RLTo.no rfl HR.out.2
/-- The document's line of words. -/
theorem rf_line (w : World) (b : Nat) (O : List Nat) (i : Img) (a : Nat) (h : PRx w b O i a) (hinv : 4 ≤ a → i.methods ≠ []) (hsz : SzI 1099511627776 i) (a0 : Option Addr) (c0 : Nat) (w0 : Wd) (r : List Wd) (hw : Src w O (.slice a0 (r.length + 1) c0) (r.length + 1) (strs (w0 :: r))) (hl : r.length + 1 ≤ 1099511627776) (hwl : ∀ wd ∈ r, wd.length ≤ 1099511627776) (hV : ValO w O) :
    Calls Tryd.prog 21 #[.pointer (some ⟨b, 0, none⟩), .slice a0 (r.length + 1) c0] w fun e w' => RLTo w w' b O (lineR UU ⟨i, a⟩ (w0 :: r)) e := by
  obtain ⟨z1, z2, z3, z4, z5⟩ := hsz
  by_cases ha : a = 0
  · exact rl_applet w b O i a h ha a0 c0 w0 r hw hl hwl hV
  by_cases k1 : w0 = kField
  · subst k1
    by_cases h2 : a ≤ 2
    · exact rl_field w b O i a h ⟨ha, h2⟩ z1 a0 c0 r hw hl hwl hV
    · exact rl_no1 w b O i a h ha h2 a0 c0 r hw hl hwl hV
  by_cases k2 : w0 = kImport
  · subst k2
    by_cases h2 : a ≤ 3
    · exact rl_import w b O i a h ⟨ha, h2⟩ z2 a0 c0 r hw hl hwl hV
    · exact rl_no2 w b O i a h ha h2 a0 c0 r hw hl hwl hV
  by_cases k3 : w0 = kMethod
  · subst k3
    by_cases h2 : a ≤ 6
    · exact rl_method w b O i a h ⟨ha, h2⟩ z3 a0 c0 r hw hl hwl hV
    · exact rl_no3 w b O i a h ha h2 a0 c0 r hw hl hwl hV
  by_cases k4 : w0 = kLocals
  · subst k4
    by_cases h2 : a = 4
    · exact rl_locals w b O i a h h2 (hinv (by omega)) z3 a0 c0 r hw hl hwl hV
    · exact rl_no4 w b O i a h ha h2 a0 c0 r hw hl hwl hV
  by_cases k5 : w0 = kExport
  · subst k5
    by_cases h2 : 4 ≤ a
    · exact rl_export w b O i a h h2 z4 a0 c0 r hw hl hwl hV
    · exact rl_no5 w b O i a h ha h2 a0 c0 r hw hl hwl hV
  by_cases h6 : 0 < opAt w0 ∧ 4 ≤ a ∧ a ≤ 6
  · exact rl_instr w b O i a h h6.2 (hinv h6.2.1) z3 z5 w0 h6.1 a0 c0 r hw hl hwl hV
  · exact rl_no6 w b O i a h ha w0 k1 k2 k3 k4 k5 h6 a0 c0 r hw hl hwl hV
end Go.Proofs.YteebapopeaafhaaDoor
