/-
  CONTRACTS: the document's parser: a line: none of these; a line. Conditions: utf8's tables as they are laid; sizes.
  CONTRACTS: the document's parse. Conditions: the text is shorter than 2^32 - 15 bytes; utf8's tables as they are laid.
-/
import Derived.Test.YteebapopeaafhaaGreatDoorHTy5
import Derived.Deep.QuietTactic
import Derived.BigQuiet
import Derived.Test.YteebapopeaafhaaGreatDoorHRfr
namespace Go.Proofs.YteebapopeaafhaaGreatDoor
open Go.RowKit Go.Tcn
set_option linter.unusedVariables false
set_option linter.unusedSimpArgs false
set_option maxRecDepth 100000 in
set_option maxHeartbeats 8000000 in
theorem rl_no1 (w : World) (b : Nat) (O : List Nat) (i : Img) (a : Nat) (h : PRx w b O i a) (ha0 : a ≠ 0) (ha : ¬ a ≤ 2) (a0 : Option Addr) (c0 : Nat) (r : List Wd) (hw : Src w O (.slice a0 (r.length + 1) c0) (r.length + 1) (strs (kField :: r))) (hl : r.length + 1 ≤ 1099511627776) (hwl : ∀ wd ∈ r, wd.length ≤ 1099511627776) (hV : ValO w O) :
    Calls Tryz.prog 33 #[.pointer (some ⟨b, 0, none⟩), .slice a0 (r.length + 1) c0] w fun e w' => RLTo w w' b O (lineR UU ⟨i, a⟩ (kField :: r)) e := by
  have hbO := h.b
  have hOl := h.ol
  obtain ⟨ad, rfl, hadl0, hadO, hq⟩ := Src.at hw (j := 0) (by simp)
  rw [Addr_add_zero] at hq
  have hq00 : w.cell? ad = some (.string ⟨(kField : Wd).toArray⟩) := by simpa [strs] using hq
  clear hq
  have HAZ := Lib.hid ha0
  have haz0 : ((a : Int) == 0) = false := by simp; omega
  have haz1 : (a == 0) = false := by simp; omega
  have hle2 : decide ((a : Int) ≤ 2) = false := decide_eq_false (by omega)
  have hlf2 : decide (a ≤ 2) = false := decide_eq_false (by omega)
  go_enter Tryz.func33, Tryz.ntmps33
  go_wp2_with fail
  refine (ref_Op kField w).mono ?_
  rintro e w1 ⟨rfl, t1⟩
  have hadl := Nat.lt_of_lt_of_le hadl0 t1.size
  have hq0 := (t1.cell (p := ad) hadl0 (by simp)).trans hq00
  have hw1 := hw.tch t1 (by simp)
  have tO : Tch O w w1 := t1.nil
  have h1 := h.tch0 t1
  obtain ⟨vf, vi, vm, ve, q1, q2⟩ := (show PRx w1 b O i _ from h1).cells
  obtain ⟨d0, d1, d2, d3, d4, d5, hf⟩ := cells6 q1
  have hb1 := heap_lt q1
  obtain ⟨op, hop⟩ : ∃ op, op = opAt kField := ⟨_, rfl⟩
  rw [← hop]
  have HOP := Lib.hid hop
  clear hop hq00 hw
  have hR : lineR UU ⟨i, a⟩ (kField :: r) = none := by
    unfold lineR
    simp only
    rw [if_neg ha0, if_neg (fun h => ha h.2), if_neg (fun h => absurd h.1 (by decide)), if_neg (fun h => absurd h.1 (by decide)), if_neg (fun h => absurd h.1 (by decide)), if_neg (fun h => by have h1 := h.1; rw [show UU.op kField = 0 from UU.k2] at h1; omega), if_neg (fun h => absurd h.1 (by decide))]
  have HR := Lib.hid (And.intro hR tO)
  clear hR hw1 h1 h q1 q2 tO t1
  have hop0 : op = 0 := HOP.out.trans UU.k2
  have hdo : decide (0 < op) = false := decide_eq_false (by omega)
  go_wp2_with fail
  go_ret
  rw [HR.out.1]
  exact RLTo.no rfl HR.out.2
set_option maxRecDepth 100000 in
set_option maxHeartbeats 8000000 in
theorem rl_no2 (w : World) (b : Nat) (O : List Nat) (i : Img) (a : Nat) (h : PRx w b O i a) (ha0 : a ≠ 0) (ha : ¬ a ≤ 3) (a0 : Option Addr) (c0 : Nat) (r : List Wd) (hw : Src w O (.slice a0 (r.length + 1) c0) (r.length + 1) (strs (kImport :: r))) (hl : r.length + 1 ≤ 1099511627776) (hwl : ∀ wd ∈ r, wd.length ≤ 1099511627776) (hV : ValO w O) :
    Calls Tryz.prog 33 #[.pointer (some ⟨b, 0, none⟩), .slice a0 (r.length + 1) c0] w fun e w' => RLTo w w' b O (lineR UU ⟨i, a⟩ (kImport :: r)) e := by
  have hbO := h.b
  have hOl := h.ol
  obtain ⟨ad, rfl, hadl0, hadO, hq⟩ := Src.at hw (j := 0) (by simp)
  rw [Addr_add_zero] at hq
  have hq00 : w.cell? ad = some (.string ⟨(kImport : Wd).toArray⟩) := by simpa [strs] using hq
  clear hq
  have HAZ := Lib.hid ha0
  have haz0 : ((a : Int) == 0) = false := by simp; omega
  have haz1 : (a == 0) = false := by simp; omega
  have hle3 : decide ((a : Int) ≤ 3) = false := decide_eq_false (by omega)
  have hlf3 : decide (a ≤ 3) = false := decide_eq_false (by omega)
  go_enter Tryz.func33, Tryz.ntmps33
  go_wp2_with fail
  refine (ref_Op kImport w).mono ?_
  rintro e w1 ⟨rfl, t1⟩
  have hadl := Nat.lt_of_lt_of_le hadl0 t1.size
  have hq0 := (t1.cell (p := ad) hadl0 (by simp)).trans hq00
  have hw1 := hw.tch t1 (by simp)
  have tO : Tch O w w1 := t1.nil
  have h1 := h.tch0 t1
  obtain ⟨vf, vi, vm, ve, q1, q2⟩ := (show PRx w1 b O i _ from h1).cells
  obtain ⟨d0, d1, d2, d3, d4, d5, hf⟩ := cells6 q1
  have hb1 := heap_lt q1
  obtain ⟨op, hop⟩ : ∃ op, op = opAt kImport := ⟨_, rfl⟩
  rw [← hop]
  have HOP := Lib.hid hop
  clear hop hq00 hw
  have hR : lineR UU ⟨i, a⟩ (kImport :: r) = none := by
    unfold lineR
    simp only
    rw [if_neg ha0, if_neg (fun h => absurd h.1 (by decide)), if_neg (fun h => ha h.2), if_neg (fun h => absurd h.1 (by decide)), if_neg (fun h => absurd h.1 (by decide)), if_neg (fun h => by have h1 := h.1; rw [show UU.op kImport = 0 from UU.k3] at h1; omega), if_neg (fun h => absurd h.1 (by decide))]
  have HR := Lib.hid (And.intro hR tO)
  clear hR hw1 h1 h q1 q2 tO t1
  have hop0 : op = 0 := HOP.out.trans UU.k3
  have hdo : decide (0 < op) = false := decide_eq_false (by omega)
  go_wp2_with fail
  go_ret
  rw [HR.out.1]
  exact RLTo.no rfl HR.out.2
set_option maxRecDepth 100000 in
set_option maxHeartbeats 8000000 in
theorem rl_no3 (w : World) (b : Nat) (O : List Nat) (i : Img) (a : Nat) (h : PRx w b O i a) (ha0 : a ≠ 0) (ha : ¬ a ≤ 6) (a0 : Option Addr) (c0 : Nat) (r : List Wd) (hw : Src w O (.slice a0 (r.length + 1) c0) (r.length + 1) (strs (kMethod :: r))) (hl : r.length + 1 ≤ 1099511627776) (hwl : ∀ wd ∈ r, wd.length ≤ 1099511627776) (hV : ValO w O) :
    Calls Tryz.prog 33 #[.pointer (some ⟨b, 0, none⟩), .slice a0 (r.length + 1) c0] w fun e w' => RLTo w w' b O (lineR UU ⟨i, a⟩ (kMethod :: r)) e := by
  have hbO := h.b
  have hOl := h.ol
  obtain ⟨ad, rfl, hadl0, hadO, hq⟩ := Src.at hw (j := 0) (by simp)
  rw [Addr_add_zero] at hq
  have hq00 : w.cell? ad = some (.string ⟨(kMethod : Wd).toArray⟩) := by simpa [strs] using hq
  clear hq
  have HAZ := Lib.hid ha0
  have haz0 : ((a : Int) == 0) = false := by simp; omega
  have haz1 : (a == 0) = false := by simp; omega
  have hle6 : decide ((a : Int) ≤ 6) = false := decide_eq_false (by omega)
  have hlf6 : decide (a ≤ 6) = false := decide_eq_false (by omega)
  go_enter Tryz.func33, Tryz.ntmps33
  go_wp2_with fail
  refine (ref_Op kMethod w).mono ?_
  rintro e w1 ⟨rfl, t1⟩
  have hadl := Nat.lt_of_lt_of_le hadl0 t1.size
  have hq0 := (t1.cell (p := ad) hadl0 (by simp)).trans hq00
  have hw1 := hw.tch t1 (by simp)
  have tO : Tch O w w1 := t1.nil
  have h1 := h.tch0 t1
  obtain ⟨vf, vi, vm, ve, q1, q2⟩ := (show PRx w1 b O i _ from h1).cells
  obtain ⟨d0, d1, d2, d3, d4, d5, hf⟩ := cells6 q1
  have hb1 := heap_lt q1
  obtain ⟨op, hop⟩ : ∃ op, op = opAt kMethod := ⟨_, rfl⟩
  rw [← hop]
  have HOP := Lib.hid hop
  clear hop hq00 hw
  have hR : lineR UU ⟨i, a⟩ (kMethod :: r) = none := by
    unfold lineR
    simp only
    rw [if_neg ha0, if_neg (fun h => absurd h.1 (by decide)), if_neg (fun h => absurd h.1 (by decide)), if_neg (fun h => ha h.2), if_neg (fun h => absurd h.1 (by decide)), if_neg (fun h => by have h1 := h.1; rw [show UU.op kMethod = 0 from UU.k4] at h1; omega), if_neg (fun h => absurd h.1 (by decide))]
  have HR := Lib.hid (And.intro hR tO)
  clear hR hw1 h1 h q1 q2 tO t1
  have hop0 : op = 0 := HOP.out.trans UU.k4
  have hdo : decide (0 < op) = false := decide_eq_false (by omega)
  go_wp2_with fail
  go_ret
  rw [HR.out.1]
  exact RLTo.no rfl HR.out.2
set_option maxRecDepth 100000 in
set_option maxHeartbeats 8000000 in
theorem rl_no4 (w : World) (b : Nat) (O : List Nat) (i : Img) (a : Nat) (h : PRx w b O i a) (ha0 : a ≠ 0) (ha : a ≠ 4) (a0 : Option Addr) (c0 : Nat) (r : List Wd) (hw : Src w O (.slice a0 (r.length + 1) c0) (r.length + 1) (strs (kLocals :: r))) (hl : r.length + 1 ≤ 1099511627776) (hwl : ∀ wd ∈ r, wd.length ≤ 1099511627776) (hV : ValO w O) :
    Calls Tryz.prog 33 #[.pointer (some ⟨b, 0, none⟩), .slice a0 (r.length + 1) c0] w fun e w' => RLTo w w' b O (lineR UU ⟨i, a⟩ (kLocals :: r)) e := by
  have hbO := h.b
  have hOl := h.ol
  obtain ⟨ad, rfl, hadl0, hadO, hq⟩ := Src.at hw (j := 0) (by simp)
  rw [Addr_add_zero] at hq
  have hq00 : w.cell? ad = some (.string ⟨(kLocals : Wd).toArray⟩) := by simpa [strs] using hq
  clear hq
  have HAZ := Lib.hid ha0
  have haz0 : ((a : Int) == 0) = false := by simp; omega
  have haz1 : (a == 0) = false := by simp; omega
  have hea : ((a : Int) == 4) = false := by simp; omega
  have heb : (a == 4) = false := by simp; omega
  go_enter Tryz.func33, Tryz.ntmps33
  go_wp2_with fail
  refine (ref_Op kLocals w).mono ?_
  rintro e w1 ⟨rfl, t1⟩
  have hadl := Nat.lt_of_lt_of_le hadl0 t1.size
  have hq0 := (t1.cell (p := ad) hadl0 (by simp)).trans hq00
  have hw1 := hw.tch t1 (by simp)
  have tO : Tch O w w1 := t1.nil
  have h1 := h.tch0 t1
  obtain ⟨vf, vi, vm, ve, q1, q2⟩ := (show PRx w1 b O i _ from h1).cells
  obtain ⟨d0, d1, d2, d3, d4, d5, hf⟩ := cells6 q1
  have hb1 := heap_lt q1
  obtain ⟨op, hop⟩ : ∃ op, op = opAt kLocals := ⟨_, rfl⟩
  rw [← hop]
  have HOP := Lib.hid hop
  clear hop hq00 hw
  have hR : lineR UU ⟨i, a⟩ (kLocals :: r) = none := by
    unfold lineR
    simp only
    rw [if_neg ha0, if_neg (fun h => absurd h.1 (by decide)), if_neg (fun h => absurd h.1 (by decide)), if_neg (fun h => absurd h.1 (by decide)), if_neg (fun h => ha h.2), if_neg (fun h => by have h1 := h.1; rw [show UU.op kLocals = 0 from UU.k5] at h1; omega), if_neg (fun h => absurd h.1 (by decide))]
  have HR := Lib.hid (And.intro hR tO)
  clear hR hw1 h1 h q1 q2 tO t1
  have hop0 : op = 0 := HOP.out.trans UU.k5
  have hdo : decide (0 < op) = false := decide_eq_false (by omega)
  go_wp2_with fail
  go_ret
  rw [HR.out.1]
  exact RLTo.no rfl HR.out.2
set_option maxRecDepth 100000 in
set_option maxHeartbeats 8000000 in
theorem rl_no5 (w : World) (b : Nat) (O : List Nat) (i : Img) (a : Nat) (h : PRx w b O i a) (ha0 : a ≠ 0) (ha : ¬ 4 ≤ a) (a0 : Option Addr) (c0 : Nat) (r : List Wd) (hw : Src w O (.slice a0 (r.length + 1) c0) (r.length + 1) (strs (kExport :: r))) (hl : r.length + 1 ≤ 1099511627776) (hwl : ∀ wd ∈ r, wd.length ≤ 1099511627776) (hV : ValO w O) :
    Calls Tryz.prog 33 #[.pointer (some ⟨b, 0, none⟩), .slice a0 (r.length + 1) c0] w fun e w' => RLTo w w' b O (lineR UU ⟨i, a⟩ (kExport :: r)) e := by
  have hbO := h.b
  have hOl := h.ol
  obtain ⟨ad, rfl, hadl0, hadO, hq⟩ := Src.at hw (j := 0) (by simp)
  rw [Addr_add_zero] at hq
  have hq00 : w.cell? ad = some (.string ⟨(kExport : Wd).toArray⟩) := by simpa [strs] using hq
  clear hq
  have HAZ := Lib.hid ha0
  have haz0 : ((a : Int) == 0) = false := by simp; omega
  have haz1 : (a == 0) = false := by simp; omega
  have hge4 : decide ((4 : Int) ≤ (a : Int)) = false := decide_eq_false (by omega)
  have hgf4 : decide (4 ≤ a) = false := decide_eq_false (by omega)
  go_enter Tryz.func33, Tryz.ntmps33
  go_wp2_with fail
  refine (ref_Op kExport w).mono ?_
  rintro e w1 ⟨rfl, t1⟩
  have hadl := Nat.lt_of_lt_of_le hadl0 t1.size
  have hq0 := (t1.cell (p := ad) hadl0 (by simp)).trans hq00
  have hw1 := hw.tch t1 (by simp)
  have tO : Tch O w w1 := t1.nil
  have h1 := h.tch0 t1
  obtain ⟨vf, vi, vm, ve, q1, q2⟩ := (show PRx w1 b O i _ from h1).cells
  obtain ⟨d0, d1, d2, d3, d4, d5, hf⟩ := cells6 q1
  have hb1 := heap_lt q1
  obtain ⟨op, hop⟩ : ∃ op, op = opAt kExport := ⟨_, rfl⟩
  rw [← hop]
  have HOP := Lib.hid hop
  clear hop hq00 hw
  have hR : lineR UU ⟨i, a⟩ (kExport :: r) = none := by
    unfold lineR
    simp only
    rw [if_neg ha0, if_neg (fun h => absurd h.1 (by decide)), if_neg (fun h => absurd h.1 (by decide)), if_neg (fun h => absurd h.1 (by decide)), if_neg (fun h => absurd h.1 (by decide)), if_neg (fun h => by have h1 := h.1; rw [show UU.op kExport = 0 from UU.k6] at h1; omega), if_neg (fun h => ha h.2)]
  have HR := Lib.hid (And.intro hR tO)
  clear hR hw1 h1 h q1 q2 tO t1
  have hop0 : op = 0 := HOP.out.trans UU.k6
  have hdo : decide (0 < op) = false := decide_eq_false (by omega)
  go_wp2_with fail
  go_ret
  rw [HR.out.1]
  exact RLTo.no rfl HR.out.2
set_option maxRecDepth 100000 in
set_option maxHeartbeats 8000000 in
theorem rl_no6 (w : World) (b : Nat) (O : List Nat) (i : Img) (a : Nat) (h : PRx w b O i a) (ha0 : a ≠ 0) (w0 : Wd) (k1 : w0 ≠ kField) (k2 : w0 ≠ kImport) (k3 : w0 ≠ kMethod) (k4 : w0 ≠ kLocals) (k5 : w0 ≠ kExport) (ha : ¬ (0 < opAt w0 ∧ 4 ≤ a ∧ a ≤ 6)) (a0 : Option Addr) (c0 : Nat) (r : List Wd) (hw : Src w O (.slice a0 (r.length + 1) c0) (r.length + 1) (strs (w0 :: r))) (hl : r.length + 1 ≤ 1099511627776) (hwl : ∀ wd ∈ r, wd.length ≤ 1099511627776) (hV : ValO w O) :
    Calls Tryz.prog 33 #[.pointer (some ⟨b, 0, none⟩), .slice a0 (r.length + 1) c0] w fun e w' => RLTo w w' b O (lineR UU ⟨i, a⟩ (w0 :: r)) e := by
  have hbO := h.b
  have hOl := h.ol
  obtain ⟨ad, rfl, hadl0, hadO, hq⟩ := Src.at hw (j := 0) (by simp)
  rw [Addr_add_zero] at hq
  have hq00 : w.cell? ad = some (.string ⟨(w0 : Wd).toArray⟩) := by simpa [strs] using hq
  clear hq
  have HAZ := Lib.hid ha0
  have haz0 : ((a : Int) == 0) = false := by simp; omega
  have haz1 : (a == 0) = false := by simp; omega
  have b1 : (w0 == [102, 105, 101, 108, 100]) = false := beq_eq_false_iff_ne.2 k1
  have b2 : (w0 == [105, 109, 112, 111, 114, 116]) = false := beq_eq_false_iff_ne.2 k2
  have b3 : (w0 == [109, 101, 116, 104, 111, 100]) = false := beq_eq_false_iff_ne.2 k3
  have b4 : (w0 == [108, 111, 99, 97, 108, 115]) = false := beq_eq_false_iff_ne.2 k4
  have b5 : (w0 == [101, 120, 112, 111, 114, 116]) = false := beq_eq_false_iff_ne.2 k5
  go_enter Tryz.func33, Tryz.ntmps33
  go_wp2_with fail
  refine (ref_Op w0 w).mono ?_
  rintro e w1 ⟨rfl, t1⟩
  have hadl := Nat.lt_of_lt_of_le hadl0 t1.size
  have hq0 := (t1.cell (p := ad) hadl0 (by simp)).trans hq00
  have hw1 := hw.tch t1 (by simp)
  have tO : Tch O w w1 := t1.nil
  have h1 := h.tch0 t1
  obtain ⟨vf, vi, vm, ve, q1, q2⟩ := (show PRx w1 b O i _ from h1).cells
  obtain ⟨d0, d1, d2, d3, d4, d5, hf⟩ := cells6 q1
  have hb1 := heap_lt q1
  obtain ⟨op, hop⟩ : ∃ op, op = opAt w0 := ⟨_, rfl⟩
  rw [← hop]
  have HOP := Lib.hid hop
  clear hop hq00 hw
  have hR : lineR UU ⟨i, a⟩ (w0 :: r) = none := by
    unfold lineR
    simp only
    rw [if_neg ha0, if_neg (fun h => k1 h.1), if_neg (fun h => k2 h.1), if_neg (fun h => k3 h.1), if_neg (fun h => k4 h.1), if_neg (show ¬ (0 < UU.op w0 ∧ 4 ≤ a ∧ a ≤ 6) from ha), if_neg (fun h => k5 h.1)]
  have HR := Lib.hid (And.intro hR tO)
  clear hR hw1 h1 h q1 q2 tO t1
  clear k1 k2 k3 k4 k5
  by_cases ho : 0 < op
  · have hdo : decide (0 < op) = true := decide_eq_true ho
    by_cases h4 : 4 ≤ a
    · have h6 : ¬ a ≤ 6 := fun h6 => ha ⟨by rw [← HOP.out]; exact ho, h4, h6⟩
      have hge4 : decide ((4 : Int) ≤ (a : Int)) = true := decide_eq_true (by omega)
      have hgf4 : decide (4 ≤ a) = true := decide_eq_true (by omega)
      have hle6 : decide ((a : Int) ≤ 6) = false := decide_eq_false (by omega)
      have hlf6 : decide (a ≤ 6) = false := decide_eq_false (by omega)
      go_wp2_with fail
      go_ret
      rw [HR.out.1]
      exact RLTo.no rfl HR.out.2
    · skip
      have hge4 : decide ((4 : Int) ≤ (a : Int)) = false := decide_eq_false (by omega)
      have hgf4 : decide (4 ≤ a) = false := decide_eq_false (by omega)
      go_wp2_with fail
      go_ret
      rw [HR.out.1]
      exact RLTo.no rfl HR.out.2
  · have hdo : decide (0 < op) = false := decide_eq_false ho
    go_wp2_with fail
    go_ret
    rw [HR.out.1]
    exact RLTo.no rfl HR.out.2
/-- The document's line of words. -/
theorem rf_line (w : World) (b : Nat) (O : List Nat) (i : Img) (a : Nat) (h : PRx w b O i a) (hinv : 4 ≤ a → i.methods ≠ []) (hsz : SzI 1099511627776 i) (a0 : Option Addr) (c0 : Nat) (w0 : Wd) (r : List Wd) (hw : Src w O (.slice a0 (r.length + 1) c0) (r.length + 1) (strs (w0 :: r))) (hl : r.length + 1 ≤ 1099511627776) (hwl : ∀ wd ∈ r, wd.length ≤ 1099511627776) (hV : ValO w O) :
    Calls Tryz.prog 33 #[.pointer (some ⟨b, 0, none⟩), .slice a0 (r.length + 1) c0] w fun e w' => RLTo w w' b O (lineR UU ⟨i, a⟩ (w0 :: r)) e := by
  obtain ⟨z1, z2, z3, z4, z5⟩ := hsz
  by_cases ha : a = 0
  · exact rl_applet w b O i a h ha a0 c0 w0 r hw hl hwl hV
  by_cases k1 : w0 = kField
  · subst k1
    by_cases h2 : a ≤ 2
    · exact rl_field w b O i a h ⟨ha, h2⟩ z1 a0 c0 r hw hl hwl hV
    · exact rl_no1 w b O i a h ha h2 a0 c0 r hw hl hwl hV
  by_cases k2 : w0 = kImport
  · subst k2
    by_cases h2 : a ≤ 3
    · exact rl_import w b O i a h ⟨ha, h2⟩ z2 a0 c0 r hw hl hwl hV
    · exact rl_no2 w b O i a h ha h2 a0 c0 r hw hl hwl hV
  by_cases k3 : w0 = kMethod
  · subst k3
    by_cases h2 : a ≤ 6
    · exact rl_method w b O i a h ⟨ha, h2⟩ z3 a0 c0 r hw hl hwl hV
    · exact rl_no3 w b O i a h ha h2 a0 c0 r hw hl hwl hV
  by_cases k4 : w0 = kLocals
  · subst k4
    by_cases h2 : a = 4
    · exact rl_locals w b O i a h h2 (hinv (by omega)) z3 a0 c0 r hw hl hwl hV
    · exact rl_no4 w b O i a h ha h2 a0 c0 r hw hl hwl hV
  by_cases k5 : w0 = kExport
  · subst k5
    by_cases h2 : 4 ≤ a
    · exact rl_export w b O i a h h2 z4 a0 c0 r hw hl hwl hV
    · exact rl_no5 w b O i a h ha h2 a0 c0 r hw hl hwl hV
  by_cases h6 : 0 < opAt w0 ∧ 4 ≤ a ∧ a ≤ 6
  · exact rl_instr w b O i a h h6.2 (hinv h6.2.1) z3 z5 w0 h6.1 a0 c0 r hw hl hwl hV
  · exact rl_no6 w b O i a h ha w0 k1 k2 k3 k4 k5 h6 a0 c0 r hw hl hwl hV
end Go.Proofs.YteebapopeaafhaaGreatDoor
namespace Go.Tcn
open Go.RowKit
set_option linter.unusedVariables false
set_option linter.unusedSimpArgs false
theorem spR_len : ∀ (l w : Wd), (spR l w).length ≤ l.length + 1
  | [], w => by simp [spR, flW]; split <;> simp
  | c :: l, w => by
    have h1 : (flW w).length ≤ 1 := by unfold flW; split <;> simp
    rw [spR]
    split
    · simp; omega
    · split
      · have := spR_len l []
        rw [List.length_append, List.length_cons]; omega
      · have := spR_len l (w ++ [c])
        rw [List.length_cons]; omega
theorem spR_wlen : ∀ (l w : Wd), ∀ x ∈ spR l w, x.length ≤ w.length + l.length
  | [], w, x, hx => by
    simp only [spR, flW] at hx
    split at hx
    · cases hx
    · simp at hx; rw [hx]; omega
  | c :: l, w, x, hx => by
    have hfl : ∀ y ∈ flW w, y.length ≤ w.length := fun y hy => by
      unfold flW at hy
      split at hy
      · cases hy
      · simp at hy; rw [hy]; omega
    rw [spR] at hx
    split at hx
    · have := hfl x hx; omega
    · split at hx
      · rcases List.mem_append.1 hx with hx | hx
        · have := hfl x hx; omega
        · have := spR_wlen l [] x hx; simp at this ⊢; omega
      · have := spR_wlen l (w ++ [c]) x hx
        simp at this ⊢; omega
/-- A text's first line, and the rest. -/
theorem linesW_cut : ∀ (s : Wd) (n : Nat), n ≤ s.length → (∀ (j : Nat) (h : j < s.length), j < n → s[j] ≠ 10) → (∀ (h : n < s.length), s[n] = 10) → s ≠ [] → linesW s = s.take n :: linesW (s.drop (n + 1))
  | [], n, _, _, _, h => absurd rfl h
  | c :: s, 0, _, _, h3, _ => by
    have hc : c = 10 := h3 (by simp)
    rw [linesW, if_pos hc]; rfl
  | c :: s, n + 1, h1, h2, h3, _ => by
    have hc : c ≠ 10 := h2 0 (by simp) (by omega)
    rw [linesW, if_neg hc]
    by_cases hs : s = []
    · subst hs
      simp at h1
      subst h1
      rfl
    · have ih := linesW_cut s n (by simpa using h1) (fun j hj hn => h2 (j + 1) (by simpa using hj) (by omega)) (fun hn => h3 (by simpa using hn)) hs
      rw [ih]
      rfl
/-- A string's size. -/
def szOf : Value → Nat
  | .string s => s.size
  | _ => 0
theorem take_str (l : Wd) (n : Nat) (h : n ≤ l.length) : (⟨l.toArray⟩ : ByteArray).extract 0 n = ⟨(l.take n).toArray⟩ := by
  apply ByteArray.ext
  apply Array.toList_inj.1
  rw [Lib.extract_data]
  simp
theorem drop_str (l : Wd) (n : Nat) : (⟨l.toArray⟩ : ByteArray).extract n l.length = ⟨(l.drop n).toArray⟩ := by
  apply ByteArray.ext
  apply Array.toList_inj.1
  rw [Lib.extract_data]
  show (l.drop n).take (l.length - n) = l.drop n
  exact List.take_of_length_le (by simp)
end Go.Tcn
namespace Go.Proofs.YteebapopeaafhaaGreatDoor
open Go.RowKit Go.Tcn
set_option linter.unusedVariables false
set_option linter.unusedSimpArgs false
set_option maxRecDepth 100000 in
set_option maxHeartbeats 8000000 in
theorem rf_Parse (w : World) (s : Wd) (hs : s.length < 4294967281) (hV : ValC w) :
    Calls Tryz.prog 12 #[.string ⟨s.toArray⟩] w fun e w' => ParseTo w w' (parseW s) e := by
  obtain ⟨V, hVd⟩ : ∃ V, V = w.alloc (.cells #[.string ⟨#[]⟩, .slice none 0 0, .slice none 0 0, .slice none 0 0, .slice none 0 0] 30) := ⟨_, rfl⟩
  have tV : Tch [] w V := by rw [hVd]; exact (Tch.refl [] w).alloc _
  have hR : V.heap[w.heap.size]? = some (.cells #[.string ⟨#[]⟩, .slice none 0 0, .slice none 0 0, .slice none 0 0, .slice none 0 0] 30 (0, 0)) := by rw [hVd]; exact heap_alloc_new _ _
  obtain ⟨r0, hr0⟩ : ∃ r0, r0 = w.heap.size := ⟨_, rfl⟩
  rw [← hr0] at hR
  have hw0 : w.heap.size ≤ r0 := Nat.le_of_eq hr0.symm
  go_enter Tryz.func12, Tryz.ntmps12
  go_upto_region 1 with fail
  rw [← hVd, ← hr0]
  clear hVd hr0
  obtain ⟨W, hWd⟩ : ∃ W, W = V.alloc (.cells #[.string ⟨#[]⟩, .slice none 0 0, .slice none 0 0, .slice none 0 0, .slice none 0 0, .int .i64 0] 70) := ⟨_, rfl⟩
  have tW : Tch [] V W := by rw [hWd]; exact (Tch.refl [] V).alloc _
  obtain ⟨b, hb⟩ : ∃ b, b = V.heap.size := ⟨_, rfl⟩
  have hP : W.heap[b]? = some (.cells #[.string ⟨#[]⟩, .slice none 0 0, .slice none 0 0, .slice none 0 0, .slice none 0 0, .int .i64 0] 70 (0, 0)) := by rw [hWd, hb]; exact heap_alloc_new _ _
  go_upto_region 2 with fail
  rw [← hWd, ← hb]
  have HB := Lib.hid hb
  clear hWd hb
  obtain ⟨O0, hO0, hPx⟩ : ∃ O0 : List Nat, (∀ k ∈ O0, b ≤ k) ∧ PRx W b O0 ⟨[], [], [], [], []⟩ 0 :=
    ⟨_, fun k hk => by rw [ownL_new (INT := 3) (TI := 51) (TM := 55) (TC := 57) b [] k hk]; exact Nat.le_refl _, _, _, _, _, hP, IO.new W b []⟩
  have hbr : r0 < b := by rw [HB.out]; exact heap_lt hR
  have hbw : w.heap.size ≤ b := by omega
  have hpX : parseW s = match parseL (lineR UU) ((linesW s).map fun l => spR l []) 0 p0R with
    | .error k => (⟨[], [], [], [], []⟩, k, 5)
    | .ok q => if imgB q.i then (q.i, 0, 0) else (⟨[], [], [], [], []⟩, (linesW s).length + 1, 5) := rfl
  have HPX := Lib.hid hpX
  have HT0 := Lib.hid (And.intro tV (And.intro tW (And.intro hO0 hPx)))
  clear hpX hPx hO0 hP tV tW
  go_wp2_with fail
  go_loopw [0, 6] (fun x c wz => ∃ (k : Nat) (p : PR) (O : List Nat) (rest : Wd), x = .string ⟨rest.toArray⟩ ∧ c = .int .i64 k ∧ k + rest.length ≤ s.length ∧ Hid (parseL (lineR UU) ((linesW s).map fun l => spR l []) 0 p0R = parseL (lineR UU) ((linesW rest).map fun l => spR l []) k p ∧ (linesW s).length = k + (linesW rest).length) ∧ PRx wz b O p.i p.at' ∧ ZT k p.i ∧ (∃ pt, Sim pt p) ∧ (∀ i ∈ O, b ≤ i) ∧ Tch [] V wz) (fun x _ _ => szOf x)
  case atStart => exact ⟨0, p0R, O0, s, rfl, rfl, by omega, Lib.hid ⟨rfl, by omega⟩, HT0.out.2.2.2, by simp [ZT, p0R], ⟨p0T, sim0⟩, HT0.out.2.2.1, HT0.out.2.1⟩
  case round =>
    obtain ⟨k, p, O, rest, rfl, rfl, hkr, hpl, hP, hZ, hS, hO, ht⟩ := hrel
    have hsz : (⟨rest.toArray⟩ : ByteArray).size = rest.length := by simp [ByteArray.size]
    have hRr : wr.heap[r0]? = some (.cells #[.string ⟨#[]⟩, .slice none 0 0, .slice none 0 0, .slice none 0 0, .slice none 0 0] 30 (0, 0)) := (ht.block r0 (heap_lt hR) (by simp)).trans hR
    by_cases hr0 : rest = []
    · subst hr0
      obtain ⟨hpl1, hpl2⟩ := hpl.out
      have hres : parseW s = if imgB p.i then (p.i, 0, 0) else (⟨[], [], [], [], []⟩, k + 1, 5) := by
        rw [HPX.out, hpl1, hpl2]; rfl
      have hzi : ImgZ p.i := hZ.z (by omega)
      obtain ⟨vf, vi, vm, ve, q1, q2⟩ := (show PRx wr b O p.i p.at' from hP).cells
      obtain ⟨_, _, _, _, hce, i1, i2, i3, i4⟩ := q2.read
      simp only [List.cons.injEq, and_true] at hce
      obtain ⟨_, rfl, rfl, rfl, rfl⟩ := hce
      obtain ⟨af, cf, rfl⟩ := Src.form i1
      obtain ⟨ai, ci, rfl⟩ := RImps.form i2
      obtain ⟨am, cm, rfl⟩ := RMths.form i3
      obtain ⟨ae, ce, rfl⟩ := Src.form i4
      obtain ⟨d0, d1, d2, d3, d4, d5, hf⟩ := cells6 q1
      have tw : Tch [] w wr := HT0.out.1.then ht
      have hX : ∀ (j : Nat) u, (#[.string ⟨p.i.name.toArray⟩, .slice af p.i.fields.length cf, .slice ai p.i.imports.length ci, .slice am p.i.methods.length cm, .slice ae p.i.exports.length ce] : Array Value).toList[j]? = some u → wr.cell? ((⟨b, 0, none⟩ : Addr).add j) = some u := by
        intro j u hj
        have e : (⟨b, 0, none⟩ : Addr).add j = ⟨b, j, none⟩ := by unfold Addr.add; split <;> simp_all
        rw [e]
        match j, hj with
        | 0, hj => simp at hj; subst hj; exact d0
        | 1, hj => simp at hj; subst hj; exact d1
        | 2, hj => simp at hj; subst hj; exact d2
        | 3, hj => simp at hj; subst hj; exact d3
        | 4, hj => simp at hj; subst hj; exact d4
        | j + 5, hj => simp at hj
      have hRt := rf_Right wr p.i _ _ _ _ i1 i2 i3 i4 hzi (fun nm w' h16 t => hV nm w' h16 (tw.then t))
      have hrb : r0 ≠ b := by omega
      have HH := Lib.hid (And.intro hres (And.intro hzi (And.intro i1 (And.intro i2 (And.intro i3 (And.intro i4 (And.intro tw (And.intro q2 hRr))))))))
      clear hpl hpl1 hpl2 hres hzi i1 i2 i3 i4 tw q1 q2 hRr hP hZ hO ht d0 d1 d2 d3 d4 d5 hf hS
      go_wp2_with (first | (refine wpList_load_agg rfl 30 (.tmp 52) rfl ⟨b, 0, none⟩ rfl #[.string ⟨p.i.name.toArray⟩, .slice af p.i.fields.length cf, .slice ai p.i.imports.length ci, .slice am p.i.methods.length cm, .slice ae p.i.exports.length ce] _ hX Tryz.underlying30 rfl (by kernel_rfl) ?_) | fail)
      refine hRt.mono ?_
      rintro e w2 ⟨rfl, t2⟩
      clear hRt
      have hR2 : w2.heap[r0]? = some (.cells #[.string ⟨#[]⟩, .slice none 0 0, .slice none 0 0, .slice none 0 0, .slice none 0 0] 30 (0, 0)) := (t2.block r0 (heap_lt HH.out.2.2.2.2.2.2.2.2) (by simp)).trans HH.out.2.2.2.2.2.2.2.2
      obtain ⟨y0, y1, y2, y3, y4, g0, g1', g2, g3, g4⟩ := cells5 hR2
      have hX2 : ∀ (j : Nat) u, (#[.string ⟨p.i.name.toArray⟩, .slice af p.i.fields.length cf, .slice ai p.i.imports.length ci, .slice am p.i.methods.length cm, .slice ae p.i.exports.length ce] : Array Value).toList[j]? = some u → w2.cell? ((⟨b, 0, none⟩ : Addr).add j) = some u := fun j u hj => by
        have h1 := hX j u hj
        rw [t2.cell (cell_lt h1) (by simp)]; exact h1
      cases hib : imgB p.i
      · clear hX hX2 hR2
        go_wp2_with fail
        refine bodyPost_ret (v := .tuple #[.agg #[.string ⟨#[]⟩, .slice none 0 0, .slice none 0 0, .slice none 0 0, .slice none 0 0], .int .i64 ((k : Int) + 1), .int .i64 5]) (by simp [results, Tryz.results12, go_sem, y0, y1, y2, y3, y4, g0, g1', g2, g3, g4]) rfl ?_
        obtain ⟨hres, hzi, i1, i2, i3, i4, tw, q2, hRr⟩ := HH.out
        rw [hib] at hres
        rw [hres]
        exact ParseTo.none rfl ((((((tw.then t2).setCell (.inr hw0) _).setCell (.inr hw0) _).setCell (.inr hw0) _).setCell (.inr hw0) _).setCell (.inr hw0) _)
      · have hR2' := hR2
        clear hX hR2
        go_wp2_with (first | (refine wpList_load_agg rfl 30 (.tmp 61) rfl ⟨b, 0, none⟩ rfl #[.string ⟨p.i.name.toArray⟩, .slice af p.i.fields.length cf, .slice ai p.i.imports.length ci, .slice am p.i.methods.length cm, .slice ae p.i.exports.length ce] _ hX2 Tryz.underlying30 rfl (by kernel_rfl) ?_) | fail)
        refine bodyPost_ret (v := .tuple #[.agg #[.string ⟨p.i.name.toArray⟩, .slice af p.i.fields.length cf, .slice ai p.i.imports.length ci, .slice am p.i.methods.length cm, .slice ae p.i.exports.length ce], .int .i64 0, .int .i64 0]) (by simp [results, Tryz.results12, go_sem, y0, y1, y2, y3, y4, g0, g1', g2, g3, g4]) rfl ?_
        obtain ⟨hres, hzi, i1, i2, i3, i4, tw, q2, hRr⟩ := HH.out
        rw [hib] at hres
        rw [hres]
        have hNI : NoInt w2 r0 := ⟨_, _, _, hR2', fun j n hj => by
          match j, hj with
          | 0, hj => simp at hj
          | 1, hj => simp at hj
          | 2, hj => simp at hj
          | 3, hj => simp at hj
          | 4, hj => simp at hj
          | j + 5, hj => simp at hj⟩
        exact ParseTo.some rfl (i1.tch t2 (by simp)) (i2.tch t2 (by simp)) (i3.tch t2 (by simp)) (i4.tch t2 (by simp)) hzi hNI
          ((((((Tch.refl [r0] w2).setCell (.inl (by simp)) _).setCell (.inl (by simp)) _).setCell (.inl (by simp)) _).setCell (.inl (by simp)) _).setCell (.inl (by simp)) _)
          ((((((tw.then t2).setCell (.inr hw0) _).setCell (.inr hw0) _).setCell (.inr hw0) _).setCell (.inr hw0) _).setCell (.inr hw0) _)
    · have hlpos : 0 < rest.length := List.length_pos_iff.2 hr0
      have HL := Lib.hid (And.intro hpl (And.intro hP (And.intro hZ (And.intro hS (And.intro hO ht)))))
      have HN := Lib.hid hr0
      clear hpl hP hZ hS hO ht hr0
      go_upto_block 2 with fail
      go_cut [7] (fun x wz => ∃ n : Nat, x = .int .i64 n ∧ n ≤ rest.length ∧ Hid ((∀ (j : Nat) (h : j < rest.length), j < n → rest[j] ≠ 10) ∧ ∀ (h : n < rest.length), rest[n] = 10) ∧ wr = wz)
      case first =>
        go_wp2_with fail
        go_loopw [7] (fun x wz => ∃ n : Nat, n ≤ rest.length ∧ x = .int .i64 n ∧ Hid (∀ (j : Nat) (h : j < rest.length), j < n → rest[j] ≠ 10) ∧ wr = wz) (fun x _ => rest.length - (intOf x).toNat)
        case atStart => exact ⟨0, by omega, rfl, Lib.hid (fun j _ h => by omega), rfl⟩
        case round =>
          obtain ⟨n, hn, rfl, hno, rfl⟩ := hrel
          by_cases hnl : n < rest.length
          · have hd : decide ((n : Int) < (rest.length : Int)) = true := decide_eq_true (by omega)
            obtain ⟨c, hc⟩ : ∃ c, rest[n] = c := ⟨_, rfl⟩
            have hgk : ∀ h, (⟨rest.toArray⟩ : ByteArray)[n]'h = c := fun _ => hc
            have hgl : ∀ h, rest[n]'h = c := fun _ => hc
            have HC := Lib.hid hc
            clear hc
            by_cases h10 : c = 10
            · have hcb : ((c.toNat : Int) != 10) = false := by subst h10; decide
              have H10 := Lib.hid h10
              clear h10
              go_wp2_with fail
              go_meet
              exact ⟨n, rfl, hn, Lib.hid ⟨hno.out, fun _ => by rw [HC.out, H10.out]⟩, rfl⟩
            · have hcb : ((c.toNat : Int) != 10) = true := by
                have : c.toNat ≠ 10 := fun e => h10 (UInt8.toNat_inj.1 e)
                simp; omega
              have H10 := Lib.hid h10
              clear h10
              go_wp2_with fail
              go_roundw
              case rel => exact ⟨n + 1, by omega, by go_num, Lib.hid (fun j hj hjn => by
                by_cases e : j = n
                · subst e; rw [HC.out]; exact H10.out
                · exact hno.out j hj (by omega)), by first | rfl | trivial⟩
              case measure => simp [intOf]; omega
          · have hd : decide ((n : Int) < (rest.length : Int)) = false := decide_eq_false (by omega)
            go_wp2_with fail
            go_meet
            exact ⟨n, rfl, hn, Lib.hid ⟨hno.out, fun h => absurd h hnl⟩, rfl⟩
      case rest =>
        obtain ⟨n, rfl, hn, hno, rfl⟩ := hcut
        have hlc : linesW rest = rest.take n :: linesW (rest.drop (n + 1)) := linesW_cut rest n hn hno.out.1 hno.out.2 HN.out
        have hex := take_str rest n hn
        have hsp := rf_split wr (rest.take n) (by simp; omega)
        have hwl := spR_wlen (rest.take n) []
        have hnl := spR_len (rest.take n) []
        have hdl : (rest.drop (min rest.length (n + 1))) = rest.drop (n + 1) := by
          by_cases h : n + 1 ≤ rest.length
          · rw [Nat.min_eq_right h]
          · rw [Nat.min_eq_left (by omega), List.drop_length, List.drop_eq_nil_of_le (by omega)]
        obtain ⟨m, hm⟩ : ∃ m, m = min rest.length (n + 1) := ⟨_, rfl⟩
        rw [← hm] at hdl
        have hmn : (min (rest.length : Int) ((n : Int) + 1)).toNat = m := by omega
        have hml : m ≤ rest.length := by omega
        have hex2 := drop_str rest m
        have htk : (rest.take n).length ≤ 4294967281 := by simp; omega
        obtain ⟨ws, hws⟩ : ∃ ws, spR (rest.take n) [] = ws := ⟨_, rfl⟩
        rw [hws] at hsp hwl hnl
        generalize hlnn : rest.take n = ln at *
        have HLC := Lib.hid (And.intro hlc (And.intro hws (And.intro hdl hm)))
        clear hlc hws hdl hlnn hno
        go_wp2_with fail
        refine hsp.mono ?_
        rintro e w2 ⟨v, rfl, hv, t2⟩
        obtain ⟨av, cv, rfl⟩ := ownsRow_form hv.1
        clear hsp
        obtain rfl | ⟨w0, r, rfl⟩ : ws = [] ∨ ∃ w0 r, ws = w0 :: r := by
          cases ws with
          | nil => exact .inl rfl
          | cons a l => exact .inr ⟨a, l, rfl⟩
        · have HV := Lib.hid (And.intro hv t2)
          clear hv t2
          have HMN := Lib.hid hmn
          clear hmn
          go_wp2_with fail
          go_roundw
          case rel =>
            obtain ⟨hpl, hP, hZ, hS, hO, ht⟩ := HL.out
            obtain ⟨hlc, hws, hdl, hm⟩ := HLC.out
            obtain ⟨hv, t2⟩ := HV.out
            obtain ⟨hpl1, hpl2⟩ := hpl.out
            refine ⟨k + 1, p, O, rest.drop m, by rw [HMN.out, hex2], by go_num, by simp; omega, Lib.hid ⟨?_, ?_⟩, hP.tch0 t2, hZ.mono (Nat.le_succ _), hS, hO, ht.then t2⟩
            · rw [hpl1, hlc, List.map_cons, hws, hdl]; rfl
            · rw [hpl2, hlc, hdl, List.length_cons]; omega
          case measure =>
            rw [HMN.out, hex2]
            simp only [szOf, hsz]
            have := HLC.out.2.2.2
            simp [ByteArray.size]
            omega
        · have hlr : (w0 :: r).length = r.length + 1 := rfl
          rw [hlr] at hv hnl
          have hwl' : ∀ wd ∈ r, wd.length ≤ 1099511627776 := fun wd hx => by have := hwl wd (List.mem_cons_of_mem _ hx); simp at this; omega
          clear hwl
          obtain ⟨hpl, hP, hZ, ⟨pt, hS⟩, hO, ht⟩ := HL.out
          have hP2 := hP.tch0 t2
          have hOl := hP.ol
          have hsrcw : Src w2 O (.slice av (r.length + 1) cv) (r.length + 1) (strs (w0 :: r)) := hv.src O hOl
          obtain ⟨z1, z2, z3, z4, z5, z6⟩ := hZ
          have hSz : SzI 1099511627776 p.i := ⟨by omega, by omega, by omega, by omega, fun m hm => by have := (z6 m hm).2.2.1; omega⟩
          have hInv : 4 ≤ p.at' → p.i.methods ≠ [] := fun h e => by
            have := hS.ms
            rw [hS.i] at this
            have := this.1 e
            omega
          have tw2 : Tch [] w w2 := (HT0.out.1.then ht).then t2
          have hVO : ValO w2 O := ValO.of hV tw2 (fun i hi => Nat.le_trans hbw (hO i hi))
          have hLn := rf_line w2 b O p.i p.at' hP2 hInv hSz av cv w0 r hsrcw (by omega) hwl' hVO
          have HW2 := Lib.hid (And.intro tw2 (And.intro t2 hnl))
          clear hpl hP hS hO ht hP2 hOl hsrcw z1 z2 z3 z4 z5 z6 hSz tw2 hVO hv t2 hnl hInv
          have HMN := Lib.hid hmn
          clear hmn
          go_wp2_with fail
          refine hLn.mono ?_
          rintro e w3 hL3
          clear hLn
          obtain ⟨q, hq⟩ : ∃ q, lineR UU ⟨p.i, p.at'⟩ (w0 :: r) = q := ⟨_, rfl⟩
          rw [hq] at hL3
          obtain ⟨rfl, O', t3, n3, hp3⟩ := hL3
          cases q with
          | none =>
            have hR3 : w3.heap[r0]? = some (.cells #[.string ⟨#[]⟩, .slice none 0 0, .slice none 0 0, .slice none 0 0, .slice none 0 0] 30 (0, 0)) := by
              obtain ⟨hpl, hP, hZ, hS, hO, ht⟩ := HL.out
              obtain ⟨tw2, t2, _⟩ := HW2.out
              have h2 := (t2.block r0 (heap_lt hRr) (by simp)).trans hRr
              rw [t3.block r0 (heap_lt h2) (fun hx => by have := hO r0 hx; omega)]
              exact h2
            obtain ⟨y0, y1, y2, y3, y4, g0, g1', g2, g3, g4⟩ := cells5 hR3
            have HX := Lib.hid (And.intro hq (And.intro t3 n3))
            clear hq t3 n3 hp3 hR3
            go_wp2_with fail
            refine bodyPost_ret (v := .tuple #[.agg #[.string ⟨#[]⟩, .slice none 0 0, .slice none 0 0, .slice none 0 0, .slice none 0 0], .int .i64 ((k : Int) + 1), .int .i64 5]) (by simp [results, Tryz.results12, go_sem, y0, y1, y2, y3, y4, g0, g1', g2, g3, g4]) rfl ?_
            obtain ⟨hpl, hP, hZ, hS, hO, ht⟩ := HL.out
            obtain ⟨hq, t3, n3⟩ := HX.out
            obtain ⟨tw2, _⟩ := HW2.out
            obtain ⟨hlc, hws, hdl, hm⟩ := HLC.out
            have hres : parseW s = (⟨[], [], [], [], []⟩, k + 1, 5) := by
              rw [HPX.out, hpl.out.1, hlc, List.map_cons, hws]
              simp only [parseL]
              rw [show lineR UU p (w0 :: r) = none from hq]
            rw [hres]
            have t4 : Tch [] w w3 := tw2.trans t3 (by simp) (fun i hi hx => by have := hO i hx; omega)
            exact ParseTo.none rfl (((((t4.setCell (.inr hw0) _).setCell (.inr hw0) _).setCell (.inr hw0) _).setCell (.inr hw0) _).setCell (.inr hw0) _)
          | some p' =>
            have HX := Lib.hid (And.intro hq (And.intro t3 (And.intro n3 hp3)))
            clear hq t3 n3 hp3
            go_wp2_with fail
            go_roundw
            case rel =>
              obtain ⟨hpl, hP, hZ, ⟨pt, hS⟩, hO, ht⟩ := HL.out
              obtain ⟨hq, t3, n3, hp3⟩ := HX.out
              obtain ⟨tw2, t2, hnl⟩ := HW2.out
              obtain ⟨hlc, hws, hdl, hm⟩ := HLC.out
              obtain ⟨hpl1, hpl2⟩ := hpl.out
              have hq' : lineR UU p (w0 :: r) = some p' := hq
              rcases sim_line UU hS w0 r with ⟨_, h2⟩ | ⟨pt', q', h1, h2, h3⟩
              · rw [hq'] at h2; cases h2
              · rw [hq'] at h2
                simp only [Option.some.injEq] at h2
                subst h2
                have h1' := h1
                rw [lineT_sub] at h1'
                cases hsub : subT UU pt.i pt.stage pt.fresh w0 r with
                | none => rw [hsub] at h1'; cases h1'
                | some x =>
                  obtain ⟨i', s'⟩ := x
                  rw [hsub] at h1'
                  simp only [Option.map_some, Option.some.injEq] at h1'
                  obtain ⟨k1, _, _⟩ := sub_keeps hsub (by omega) (by rw [hS.i]; exact hZ) (fun hst => by
                    have h4 := (stg5 p.at').1 (hS.st.symm.trans hst)
                    have := hS.ms
                    intro e
                    have := this.1 e
                    omega)
                  have hi' : p'.i = i' := by rw [← h3.i, ← h1']
                  have hb2 : b ≤ w2.heap.size := by have := ((ht.then t2).size); have := HB.out; omega
                  refine ⟨k + 1, p', O', rest.drop m, by rw [HMN.out, hex2], by go_num, by simp; omega, Lib.hid ⟨?_, ?_⟩, hp3 p' rfl, by rw [hi']; exact k1, ⟨pt', h3⟩, fun i hi => ?_, (ht.then t2).trans t3 (by simp) (fun i hi hx => by have := hO i hx; have := HB.out; omega)⟩
                  · rw [hpl1, hlc, List.map_cons, hws, hdl]
                    simp only [parseL]
                    rw [hq']
                  · rw [hpl2, hlc, hdl, List.length_cons]; omega
                  · rcases n3 i hi with h | h
                    · exact hO i h
                    · omega
            case measure =>
              rw [HMN.out, hex2]
              simp only [szOf, hsz]
              have := HLC.out.2.2.2
              simp [ByteArray.size]
              omega
end Go.Proofs.YteebapopeaafhaaGreatDoor
