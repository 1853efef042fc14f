/-
  CONTRACTS: Lay of code and taciturnref1. Conditions: the writer is owned, its bytes fit.
-/
import Derived.Test.YtapephelfijcbaaGreatDoorHCode5
import Derived.Test.YtapephelfijcbaaGreatDoorHRd
namespace Go.Tcn
set_option linter.unusedVariables false
set_option linter.unusedSimpArgs false
/-- What a writing leaves. -/
def WrTo (T E : TypeId) (p row : Nat) (l' : List Int) (w w' : World) : Prop := ∃ row', Wr w' T E p row' l' ∧ (row' = row ∨ w.heap.size ≤ row') ∧ Tch [p, row] w w'
theorem WrTo.after {T E : TypeId} {p row row1 : Nat} {l : List Int} {w w1 w2 : World} (hr : row1 = row ∨ w.heap.size ≤ row1) (t1 : Tch [p, row] w w1) (h : WrTo T E p row1 l w1 w2) : WrTo T E p row l w w2 := by
  obtain ⟨row2, a, b, c⟩ := h
  refine ⟨row2, a, by have := t1.size; omega, t1.trans c (fun _ _ x => x) (fun i hi hx => ?_)⟩
  simp at hx ⊢
  omega
theorem WrTo.ahead {T E : TypeId} {p row : Nat} {l : List Int} {w w1 w2 : World} (t1 : Tch [] w w1) (h : WrTo T E p row l w1 w2) : WrTo T E p row l w w2 := by
  obtain ⟨row2, a, b, c⟩ := h
  exact ⟨row2, a, by have := t1.size; omega, t1.trans c (by simp) (fun i hi hx => hx)⟩
/-- Three numbers in a block. -/
structure Bx (w : World) (g : Nat) (x y z : Value) : Prop where
  c0 : w.cell? ⟨g, 0, none⟩ = some x
  c1 : w.cell? ⟨g, 1, none⟩ = some y
  c2 : w.cell? ⟨g, 2, none⟩ = some z
theorem Bx.tch {w w' : World} {L : List Nat} {g : Nat} {x y z : Value} (h : Bx w g x y z) (t : Tch L w w') (hg : g ∉ L) : Bx w' g x y z :=
  ⟨by rw [t.cell (cell_lt h.c0) hg]; exact h.c0, by rw [t.cell (cell_lt h.c1) hg]; exact h.c1, by rw [t.cell (cell_lt h.c2) hg]; exact h.c2⟩
theorem Bx.lt {w : World} {g : Nat} {x y z : Value} (h : Bx w g x y z) : g < w.heap.size := cell_lt h.c0
theorem Bx.new (w : World) (x y z : Value) (T : TypeId) : Bx (w.alloc (.cells #[x, y, z] T)) w.heap.size x y z := ⟨by simp [go_sem], by simp [go_sem], by simp [go_sem]⟩
end Go.Tcn
namespace Go.Proofs.YtapephelfijcbaaGreatDoor
open Go.RowKit Go.Tcn
set_option linter.unusedVariables false
set_option linter.unusedSimpArgs false
theorem encI_1 (a b : Int) : encI 1 a b = putN 1 1 ++ putN a 4 := rfl
theorem encI_23 (a b : Int) : encI 23 a b = putN 23 1 ++ putN a 2 := rfl
theorem encI_24 (a b : Int) : encI 24 a b = putN 24 1 ++ putN a 2 := rfl
theorem encI_27 (a b : Int) : encI 27 a b = putN 27 1 ++ (putN a 1 ++ putN b 1) := rfl
theorem encI_one (op a b : Int) (h : op ≠ 1 ∧ op ≠ 23 ∧ op ≠ 24 ∧ op ≠ 27) (h1 : opndN op = 1) : encI op a b = putN op 1 ++ putN a 1 := by unfold encI; rw [if_neg (by omega), if_neg (by omega), if_neg (by omega), if_pos h1]
theorem encI_zero (op a b : Int) (h : op ≠ 1 ∧ op ≠ 23 ∧ op ≠ 24 ∧ op ≠ 27) (h1 : opndN op ≠ 1) : encI op a b = putN op 1 := by unfold encI; rw [if_neg (by omega), if_neg (by omega), if_neg (by omega), if_neg h1, List.append_nil]
theorem opndN_one (op : Int) (h : opndN op ≠ 1) (h27 : op ≠ 27) : opndN op = 0 := by unfold opndN at *; rw [if_neg h27] at *; split at h <;> simp_all

set_option maxRecDepth 100000 in
set_option maxHeartbeats 2000000 in
theorem code_Lay_1 (w : World) (p row : Nat) (l : List Int) (a b : Int) (ha : -9223372036854775808 ≤ a ∧ a ≤ 9223372036854775807) (hb : -9223372036854775808 ≤ b ∧ b ≤ 9223372036854775807) (hR : rightI 1 a b = true) (h : Wr w 95 5 p row l) (hl : l.length + 8 ≤ 140737488355328) :
    Calls Tryz.prog 23 #[.pointer (some ⟨p, 0, none⟩), .agg #[.int .i64 1, .int .i64 a, .int .i64 b]] w fun e w' => e = .returned (.int .i64 0) ∧ WrTo 95 5 p row (l ++ encI 1 a b) w w' := by
  have hplt := h.lt
  have hrlt := h.row_lt
  have hE := encI_1 a b
  have HE := Lib.hid hE; clear hE
  have hr := fun w => code_Right 1 a b w hb
  rw [hR] at hr
  clear hR
  obtain ⟨W, hW⟩ : ∃ W, W = w.alloc (.cells #[.int .i64 1, .int .i64 a, .int .i64 b] 47) := ⟨_, rfl⟩
  have tw : Tch [] w W := by rw [hW]; exact (Tch.refl [] w).alloc _
  have hx : Bx W w.heap.size (.int .i64 1) (.int .i64 a) (.int .i64 b) := by rw [hW]; exact Bx.new _ _ _ _ _
  obtain ⟨c0, c1, c2⟩ := hx
  go_enter Tryz.func23, Tryz.ntmps23
  go_wp2_with fail
  rw [← hW]
  refine (hr _).mono ?_
  rintro e w1 ⟨rfl, t1⟩
  have hx1 := (Bx.mk c0 c1 c2).tch t1 (by simp)
  have t01 := tw.then t1
  have hgl := hx1.lt
  have hw1 := h.tch t01 (by simp) (by simp)
  clear hr c0 c1 c2 hW h
  obtain ⟨c0, c1, c2⟩ := hx1
  go_wp2_with fail
  refine (oct_U8 _ p row l 1 hw1 (by omega) (by omega)).mono ?_
  rintro e w2 ⟨rfl, row2, hw2, hr2, t2⟩
  have hx2 := (Bx.mk c0 c1 c2).tch t2 (by simp; omega)
  have hs01 := t01.size
  have z2 := t2.size
  clear c0 c1 c2 hw1
  obtain ⟨c0, c1, c2⟩ := hx2
  have hl2 : (l ++ putN 1 1).length = l.length + 1 := by simp [putN_length]
  have HL2 := Lib.hid hl2; clear hl2
  go_wp2_with fail
  refine (oct_S32 _ p row2 _ a hw2 ha (by rw [HL2.out]; omega)).mono ?_
  rintro e w3 ⟨rfl, h3⟩
  rw [List.append_assoc, ← HE.out] at h3
  clear c0 c1 c2 hw2
  go_wp2_with fail
  go_ret
  exact ⟨rfl, WrTo.ahead t01 (WrTo.after hr2 t2 h3)⟩

set_option maxRecDepth 100000 in
set_option maxHeartbeats 2000000 in
theorem code_Lay_23 (w : World) (p row : Nat) (l : List Int) (a b : Int) (ha : -9223372036854775808 ≤ a ∧ a ≤ 9223372036854775807) (hb : -9223372036854775808 ≤ b ∧ b ≤ 9223372036854775807) (hR : rightI 23 a b = true) (h : Wr w 95 5 p row l) (hl : l.length + 8 ≤ 140737488355328) :
    Calls Tryz.prog 23 #[.pointer (some ⟨p, 0, none⟩), .agg #[.int .i64 23, .int .i64 a, .int .i64 b]] w fun e w' => e = .returned (.int .i64 0) ∧ WrTo 95 5 p row (l ++ encI 23 a b) w w' := by
  have hplt := h.lt
  have hrlt := h.row_lt
  have hE := encI_23 a b
  have HE := Lib.hid hE; clear hE
  have hr := fun w => code_Right 23 a b w hb
  rw [hR] at hr
  clear hR
  obtain ⟨W, hW⟩ : ∃ W, W = w.alloc (.cells #[.int .i64 23, .int .i64 a, .int .i64 b] 47) := ⟨_, rfl⟩
  have tw : Tch [] w W := by rw [hW]; exact (Tch.refl [] w).alloc _
  have hx : Bx W w.heap.size (.int .i64 23) (.int .i64 a) (.int .i64 b) := by rw [hW]; exact Bx.new _ _ _ _ _
  obtain ⟨c0, c1, c2⟩ := hx
  go_enter Tryz.func23, Tryz.ntmps23
  go_wp2_with fail
  rw [← hW]
  refine (hr _).mono ?_
  rintro e w1 ⟨rfl, t1⟩
  have hx1 := (Bx.mk c0 c1 c2).tch t1 (by simp)
  have t01 := tw.then t1
  have hgl := hx1.lt
  have hw1 := h.tch t01 (by simp) (by simp)
  clear hr c0 c1 c2 hW h
  obtain ⟨c0, c1, c2⟩ := hx1
  go_wp2_with fail
  refine (oct_U8 _ p row l 23 hw1 (by omega) (by omega)).mono ?_
  rintro e w2 ⟨rfl, row2, hw2, hr2, t2⟩
  have hx2 := (Bx.mk c0 c1 c2).tch t2 (by simp; omega)
  have hs01 := t01.size
  have z2 := t2.size
  clear c0 c1 c2 hw1
  obtain ⟨c0, c1, c2⟩ := hx2
  have hl2 : (l ++ putN 23 1).length = l.length + 1 := by simp [putN_length]
  have HL2 := Lib.hid hl2; clear hl2
  go_wp2_with fail
  refine (oct_U16 _ p row2 _ a hw2 ha (by rw [HL2.out]; omega)).mono ?_
  rintro e w3 ⟨rfl, h3⟩
  rw [List.append_assoc, ← HE.out] at h3
  clear c0 c1 c2 hw2
  go_wp2_with fail
  go_ret
  exact ⟨rfl, WrTo.ahead t01 (WrTo.after hr2 t2 h3)⟩

set_option maxRecDepth 100000 in
set_option maxHeartbeats 2000000 in
theorem code_Lay_24 (w : World) (p row : Nat) (l : List Int) (a b : Int) (ha : -9223372036854775808 ≤ a ∧ a ≤ 9223372036854775807) (hb : -9223372036854775808 ≤ b ∧ b ≤ 9223372036854775807) (hR : rightI 24 a b = true) (h : Wr w 95 5 p row l) (hl : l.length + 8 ≤ 140737488355328) :
    Calls Tryz.prog 23 #[.pointer (some ⟨p, 0, none⟩), .agg #[.int .i64 24, .int .i64 a, .int .i64 b]] w fun e w' => e = .returned (.int .i64 0) ∧ WrTo 95 5 p row (l ++ encI 24 a b) w w' := by
  have hplt := h.lt
  have hrlt := h.row_lt
  have hE := encI_24 a b
  have HE := Lib.hid hE; clear hE
  have hr := fun w => code_Right 24 a b w hb
  rw [hR] at hr
  clear hR
  obtain ⟨W, hW⟩ : ∃ W, W = w.alloc (.cells #[.int .i64 24, .int .i64 a, .int .i64 b] 47) := ⟨_, rfl⟩
  have tw : Tch [] w W := by rw [hW]; exact (Tch.refl [] w).alloc _
  have hx : Bx W w.heap.size (.int .i64 24) (.int .i64 a) (.int .i64 b) := by rw [hW]; exact Bx.new _ _ _ _ _
  obtain ⟨c0, c1, c2⟩ := hx
  go_enter Tryz.func23, Tryz.ntmps23
  go_wp2_with fail
  rw [← hW]
  refine (hr _).mono ?_
  rintro e w1 ⟨rfl, t1⟩
  have hx1 := (Bx.mk c0 c1 c2).tch t1 (by simp)
  have t01 := tw.then t1
  have hgl := hx1.lt
  have hw1 := h.tch t01 (by simp) (by simp)
  clear hr c0 c1 c2 hW h
  obtain ⟨c0, c1, c2⟩ := hx1
  go_wp2_with fail
  refine (oct_U8 _ p row l 24 hw1 (by omega) (by omega)).mono ?_
  rintro e w2 ⟨rfl, row2, hw2, hr2, t2⟩
  have hx2 := (Bx.mk c0 c1 c2).tch t2 (by simp; omega)
  have hs01 := t01.size
  have z2 := t2.size
  clear c0 c1 c2 hw1
  obtain ⟨c0, c1, c2⟩ := hx2
  have hl2 : (l ++ putN 24 1).length = l.length + 1 := by simp [putN_length]
  have HL2 := Lib.hid hl2; clear hl2
  go_wp2_with fail
  refine (oct_U16 _ p row2 _ a hw2 ha (by rw [HL2.out]; omega)).mono ?_
  rintro e w3 ⟨rfl, h3⟩
  rw [List.append_assoc, ← HE.out] at h3
  clear c0 c1 c2 hw2
  go_wp2_with fail
  go_ret
  exact ⟨rfl, WrTo.ahead t01 (WrTo.after hr2 t2 h3)⟩

set_option maxRecDepth 100000 in
set_option maxHeartbeats 2000000 in
theorem code_Lay_27 (w : World) (p row : Nat) (l : List Int) (a b : Int) (ha : -9223372036854775808 ≤ a ∧ a ≤ 9223372036854775807) (hb : -9223372036854775808 ≤ b ∧ b ≤ 9223372036854775807) (hR : rightI 27 a b = true) (h : Wr w 95 5 p row l) (hl : l.length + 8 ≤ 140737488355328) :
    Calls Tryz.prog 23 #[.pointer (some ⟨p, 0, none⟩), .agg #[.int .i64 27, .int .i64 a, .int .i64 b]] w fun e w' => e = .returned (.int .i64 0) ∧ WrTo 95 5 p row (l ++ encI 27 a b) w w' := by
  have hplt := h.lt
  have hrlt := h.row_lt
  have hE := encI_27 a b
  have HE := Lib.hid hE; clear hE
  have hr := fun w => code_Right 27 a b w hb
  rw [hR] at hr
  clear hR
  obtain ⟨W, hW⟩ : ∃ W, W = w.alloc (.cells #[.int .i64 27, .int .i64 a, .int .i64 b] 47) := ⟨_, rfl⟩
  have tw : Tch [] w W := by rw [hW]; exact (Tch.refl [] w).alloc _
  have hx : Bx W w.heap.size (.int .i64 27) (.int .i64 a) (.int .i64 b) := by rw [hW]; exact Bx.new _ _ _ _ _
  obtain ⟨c0, c1, c2⟩ := hx
  go_enter Tryz.func23, Tryz.ntmps23
  go_wp2_with fail
  rw [← hW]
  refine (hr _).mono ?_
  rintro e w1 ⟨rfl, t1⟩
  have hx1 := (Bx.mk c0 c1 c2).tch t1 (by simp)
  have t01 := tw.then t1
  have hgl := hx1.lt
  have hw1 := h.tch t01 (by simp) (by simp)
  clear hr c0 c1 c2 hW h
  obtain ⟨c0, c1, c2⟩ := hx1
  go_wp2_with fail
  refine (oct_U8 _ p row l 27 hw1 (by omega) (by omega)).mono ?_
  rintro e w2 ⟨rfl, row2, hw2, hr2, t2⟩
  have hx2 := (Bx.mk c0 c1 c2).tch t2 (by simp; omega)
  have hs01 := t01.size
  have z2 := t2.size
  clear c0 c1 c2 hw1
  obtain ⟨c0, c1, c2⟩ := hx2
  have hl2 : (l ++ putN 27 1).length = l.length + 1 := by simp [putN_length]
  have HL2 := Lib.hid hl2; clear hl2
  have hp2 := hw2.lt
  have hrow2 := hw2.row_lt
  have hg2 : w.heap.size ∉ [p, row2] := by simp; omega
  go_wp2_with fail
  refine (oct_U8 _ p row2 _ a hw2 ha (by rw [HL2.out]; omega)).mono ?_
  rintro e w3 ⟨rfl, row3, hw3, hr3, t3⟩
  have hx3 := (Bx.mk c0 c1 c2).tch t3 hg2
  clear c0 c1 c2 hw2 hg2
  obtain ⟨c0, c1, c2⟩ := hx3
  have hl3 : ((l ++ putN 27 1) ++ putN a 1).length = l.length + 2 := by simp [putN_length]
  go_wp2_with fail
  refine (oct_U8 _ p row3 _ b hw3 hb (by omega)).mono ?_
  rintro e w4 ⟨rfl, h4⟩
  rw [List.append_assoc, List.append_assoc, ← HE.out] at h4
  clear c0 c1 c2 hw3
  go_wp2_with fail
  go_ret
  exact ⟨rfl, WrTo.ahead t01 (WrTo.after hr2 t2 (WrTo.after hr3 t3 h4))⟩

set_option maxRecDepth 100000 in
set_option maxHeartbeats 2000000 in
theorem code_Lay_one (w : World) (p row : Nat) (l : List Int) (op : Int) (hop : -9223372036854775808 ≤ op ∧ op ≤ 9223372036854775807) (a b : Int) (ha : -9223372036854775808 ≤ a ∧ a ≤ 9223372036854775807) (hb : -9223372036854775808 ≤ b ∧ b ≤ 9223372036854775807) (hne : op ≠ 1 ∧ op ≠ 23 ∧ op ≠ 24 ∧ op ≠ 27) (ho : opndN op = 1) (hR : rightI op a b = true) (h : Wr w 95 5 p row l) (hl : l.length + 8 ≤ 140737488355328) :
    Calls Tryz.prog 23 #[.pointer (some ⟨p, 0, none⟩), .agg #[.int .i64 op, .int .i64 a, .int .i64 b]] w fun e w' => e = .returned (.int .i64 0) ∧ WrTo 95 5 p row (l ++ encI op a b) w w' := by
  have hplt := h.lt
  have hrlt := h.row_lt
  have hE := encI_one op a b hne ho
  have k1 : (op == 1) = false := beq_eq_false_iff_ne.2 (by omega)
  have k23 : (op == 23) = false := beq_eq_false_iff_ne.2 (by omega)
  have k24 : (op == 24) = false := beq_eq_false_iff_ne.2 (by omega)
  have k27 : (op == 27) = false := beq_eq_false_iff_ne.2 (by omega)
  have hopn := fun w => code_Operands op w
  rw [ho] at hopn
  clear hne ho
  have HE := Lib.hid hE; clear hE
  have hr := fun w => code_Right op a b w hb
  rw [hR] at hr
  clear hR
  obtain ⟨W, hW⟩ : ∃ W, W = w.alloc (.cells #[.int .i64 op, .int .i64 a, .int .i64 b] 47) := ⟨_, rfl⟩
  have tw : Tch [] w W := by rw [hW]; exact (Tch.refl [] w).alloc _
  have hx : Bx W w.heap.size (.int .i64 op) (.int .i64 a) (.int .i64 b) := by rw [hW]; exact Bx.new _ _ _ _ _
  obtain ⟨c0, c1, c2⟩ := hx
  go_enter Tryz.func23, Tryz.ntmps23
  go_wp2_with fail
  rw [← hW]
  refine (hr _).mono ?_
  rintro e w1 ⟨rfl, t1⟩
  have hx1 := (Bx.mk c0 c1 c2).tch t1 (by simp)
  have t01 := tw.then t1
  have hgl := hx1.lt
  have hw1 := h.tch t01 (by simp) (by simp)
  clear hr c0 c1 c2 hW h
  obtain ⟨c0, c1, c2⟩ := hx1
  go_wp2_with fail
  refine (oct_U8 _ p row l op hw1 (hop) (by omega)).mono ?_
  rintro e w2 ⟨rfl, row2, hw2, hr2, t2⟩
  have hx2 := (Bx.mk c0 c1 c2).tch t2 (by simp; omega)
  have hs01 := t01.size
  have z2 := t2.size
  clear c0 c1 c2 hw1
  obtain ⟨c0, c1, c2⟩ := hx2
  have hl2 : (l ++ putN op 1).length = l.length + 1 := by simp [putN_length]
  have HL2 := Lib.hid hl2; clear hl2
  go_wp2_with fail
  refine (hopn _).mono ?_
  rintro e w' ⟨rfl, rfl⟩
  go_wp2_with fail
  refine (oct_U8 _ p row2 _ a hw2 ha (by rw [HL2.out]; omega)).mono ?_
  rintro e w3 ⟨rfl, h3⟩
  rw [List.append_assoc, ← HE.out] at h3
  clear c0 c1 c2 hw2
  go_wp2_with fail
  go_ret
  exact ⟨rfl, WrTo.ahead t01 (WrTo.after hr2 t2 h3)⟩

set_option maxRecDepth 100000 in
set_option maxHeartbeats 2000000 in
theorem code_Lay_zero (w : World) (p row : Nat) (l : List Int) (op : Int) (hop : -9223372036854775808 ≤ op ∧ op ≤ 9223372036854775807) (a b : Int) (ha : -9223372036854775808 ≤ a ∧ a ≤ 9223372036854775807) (hb : -9223372036854775808 ≤ b ∧ b ≤ 9223372036854775807) (hne : op ≠ 1 ∧ op ≠ 23 ∧ op ≠ 24 ∧ op ≠ 27) (ho : opndN op ≠ 1) (hR : rightI op a b = true) (h : Wr w 95 5 p row l) (hl : l.length + 8 ≤ 140737488355328) :
    Calls Tryz.prog 23 #[.pointer (some ⟨p, 0, none⟩), .agg #[.int .i64 op, .int .i64 a, .int .i64 b]] w fun e w' => e = .returned (.int .i64 0) ∧ WrTo 95 5 p row (l ++ encI op a b) w w' := by
  have hplt := h.lt
  have hrlt := h.row_lt
  have hE := encI_zero op a b hne ho
  have k1 : (op == 1) = false := beq_eq_false_iff_ne.2 (by omega)
  have k23 : (op == 23) = false := beq_eq_false_iff_ne.2 (by omega)
  have k24 : (op == 24) = false := beq_eq_false_iff_ne.2 (by omega)
  have k27 : (op == 27) = false := beq_eq_false_iff_ne.2 (by omega)
  have ho0 := opndN_one op ho (by omega)
  have hopn := fun w => code_Operands op w
  rw [ho0] at hopn
  clear hne ho ho0
  have HE := Lib.hid hE; clear hE
  have hr := fun w => code_Right op a b w hb
  rw [hR] at hr
  clear hR
  obtain ⟨W, hW⟩ : ∃ W, W = w.alloc (.cells #[.int .i64 op, .int .i64 a, .int .i64 b] 47) := ⟨_, rfl⟩
  have tw : Tch [] w W := by rw [hW]; exact (Tch.refl [] w).alloc _
  have hx : Bx W w.heap.size (.int .i64 op) (.int .i64 a) (.int .i64 b) := by rw [hW]; exact Bx.new _ _ _ _ _
  obtain ⟨c0, c1, c2⟩ := hx
  go_enter Tryz.func23, Tryz.ntmps23
  go_wp2_with fail
  rw [← hW]
  refine (hr _).mono ?_
  rintro e w1 ⟨rfl, t1⟩
  have hx1 := (Bx.mk c0 c1 c2).tch t1 (by simp)
  have t01 := tw.then t1
  have hgl := hx1.lt
  have hw1 := h.tch t01 (by simp) (by simp)
  clear hr c0 c1 c2 hW h
  obtain ⟨c0, c1, c2⟩ := hx1
  go_wp2_with fail
  refine (oct_U8 _ p row l op hw1 (hop) (by omega)).mono ?_
  rintro e w2 ⟨rfl, row2, hw2, hr2, t2⟩
  have hx2 := (Bx.mk c0 c1 c2).tch t2 (by simp; omega)
  have hs01 := t01.size
  have z2 := t2.size
  clear c0 c1 c2 hw1
  obtain ⟨c0, c1, c2⟩ := hx2
  have hl2 : (l ++ putN op 1).length = l.length + 1 := by simp [putN_length]
  have HL2 := Lib.hid hl2; clear hl2
  go_wp2_with fail
  refine (hopn _).mono ?_
  rintro e w' ⟨rfl, rfl⟩
  go_wp2_with fail
  go_ret
  exact ⟨rfl, WrTo.ahead t01 ⟨row2, by rw [HE.out]; exact hw2, hr2, t2⟩⟩

theorem code_Lay (w : World) (p row : Nat) (l : List Int) (op a b : Int) (hop : -9223372036854775808 ≤ op ∧ op ≤ 9223372036854775807) (ha : -9223372036854775808 ≤ a ∧ a ≤ 9223372036854775807) (hb : -9223372036854775808 ≤ b ∧ b ≤ 9223372036854775807) (hR : rightI op a b = true) (h : Wr w 95 5 p row l) (hl : l.length + 8 ≤ 140737488355328) :
    Calls Tryz.prog 23 #[.pointer (some ⟨p, 0, none⟩), .agg #[.int .i64 op, .int .i64 a, .int .i64 b]] w fun e w' => e = .returned (.int .i64 0) ∧ WrTo 95 5 p row (l ++ encI op a b) w w' := by
  by_cases h1 : op = 1
  · subst h1; exact code_Lay_1 w p row l a b ha hb hR h hl
  by_cases h2 : op = 23
  · subst h2; exact code_Lay_23 w p row l a b ha hb hR h hl
  by_cases h3 : op = 24
  · subst h3; exact code_Lay_24 w p row l a b ha hb hR h hl
  by_cases h4 : op = 27
  · subst h4; exact code_Lay_27 w p row l a b ha hb hR h hl
  by_cases h5 : opndN op = 1
  · exact code_Lay_one w p row l op hop a b ha hb ⟨h1, h2, h3, h4⟩ h5 hR h hl
  · exact code_Lay_zero w p row l op hop a b ha hb ⟨h1, h2, h3, h4⟩ h5 hR h hl

set_option maxRecDepth 100000 in
set_option maxHeartbeats 2000000 in
theorem ref_Lay_1 (w : World) (p row : Nat) (l : List Int) (a b : Int) (ha : -9223372036854775808 ≤ a ∧ a ≤ 9223372036854775807) (hb : -9223372036854775808 ≤ b ∧ b ≤ 9223372036854775807) (h : Wr w 61 5 p row l) (hl : l.length + 8 ≤ 140737488355328) :
    Calls Tryz.prog 29 #[.pointer (some ⟨p, 0, none⟩), .agg #[.int .i64 1, .int .i64 a, .int .i64 b]] w fun e w' => e = .returned (.tuple #[]) ∧ WrTo 61 5 p row (l ++ encI 1 a b) w w' := by
  have hplt := h.lt
  have hrlt := h.row_lt
  have hE := encI_1 a b
  have HE := Lib.hid hE; clear hE
  obtain ⟨W, hW⟩ : ∃ W, W = w.alloc (.cells #[.int .i64 1, .int .i64 a, .int .i64 b] 47) := ⟨_, rfl⟩
  have tw : Tch [] w W := by rw [hW]; exact (Tch.refl [] w).alloc _
  have hx : Bx W w.heap.size (.int .i64 1) (.int .i64 a) (.int .i64 b) := by rw [hW]; exact Bx.new _ _ _ _ _
  have t01 := tw
  have hgl := hx.lt
  have hw1 := h.tch tw (by simp) (by simp)
  obtain ⟨c0, c1, c2⟩ := hx
  go_enter Tryz.func29, Tryz.ntmps29
  go_wp2_with fail
  rw [← hW]
  refine (ref_U8 _ p row l 1 hw1 (by omega) (by omega)).mono ?_
  rintro e w2 ⟨rfl, row2, hw2, hr2, t2⟩
  have hx2 := (Bx.mk c0 c1 c2).tch t2 (by simp; omega)
  have hs01 := t01.size
  have z2 := t2.size
  clear c0 c1 c2 hw1
  obtain ⟨c0, c1, c2⟩ := hx2
  have hl2 : (l ++ putN 1 1).length = l.length + 1 := by simp [putN_length]
  have HL2 := Lib.hid hl2; clear hl2
  go_wp2_with fail
  refine (ref_S32 _ p row2 _ a hw2 ha (by rw [HL2.out]; omega)).mono ?_
  rintro e w3 ⟨rfl, h3⟩
  rw [List.append_assoc, ← HE.out] at h3
  clear c0 c1 c2 hw2
  go_wp2_with fail
  go_end0
  exact ⟨rfl, WrTo.ahead t01 (WrTo.after hr2 t2 h3)⟩

set_option maxRecDepth 100000 in
set_option maxHeartbeats 2000000 in
theorem ref_Lay_23 (w : World) (p row : Nat) (l : List Int) (a b : Int) (ha : -9223372036854775808 ≤ a ∧ a ≤ 9223372036854775807) (hb : -9223372036854775808 ≤ b ∧ b ≤ 9223372036854775807) (h : Wr w 61 5 p row l) (hl : l.length + 8 ≤ 140737488355328) :
    Calls Tryz.prog 29 #[.pointer (some ⟨p, 0, none⟩), .agg #[.int .i64 23, .int .i64 a, .int .i64 b]] w fun e w' => e = .returned (.tuple #[]) ∧ WrTo 61 5 p row (l ++ encI 23 a b) w w' := by
  have hplt := h.lt
  have hrlt := h.row_lt
  have hE := encI_23 a b
  have HE := Lib.hid hE; clear hE
  obtain ⟨W, hW⟩ : ∃ W, W = w.alloc (.cells #[.int .i64 23, .int .i64 a, .int .i64 b] 47) := ⟨_, rfl⟩
  have tw : Tch [] w W := by rw [hW]; exact (Tch.refl [] w).alloc _
  have hx : Bx W w.heap.size (.int .i64 23) (.int .i64 a) (.int .i64 b) := by rw [hW]; exact Bx.new _ _ _ _ _
  have t01 := tw
  have hgl := hx.lt
  have hw1 := h.tch tw (by simp) (by simp)
  obtain ⟨c0, c1, c2⟩ := hx
  go_enter Tryz.func29, Tryz.ntmps29
  go_wp2_with fail
  rw [← hW]
  refine (ref_U8 _ p row l 23 hw1 (by omega) (by omega)).mono ?_
  rintro e w2 ⟨rfl, row2, hw2, hr2, t2⟩
  have hx2 := (Bx.mk c0 c1 c2).tch t2 (by simp; omega)
  have hs01 := t01.size
  have z2 := t2.size
  clear c0 c1 c2 hw1
  obtain ⟨c0, c1, c2⟩ := hx2
  have hl2 : (l ++ putN 23 1).length = l.length + 1 := by simp [putN_length]
  have HL2 := Lib.hid hl2; clear hl2
  go_wp2_with fail
  refine (ref_U16 _ p row2 _ a hw2 ha (by rw [HL2.out]; omega)).mono ?_
  rintro e w3 ⟨rfl, h3⟩
  rw [List.append_assoc, ← HE.out] at h3
  clear c0 c1 c2 hw2
  go_wp2_with fail
  go_end0
  exact ⟨rfl, WrTo.ahead t01 (WrTo.after hr2 t2 h3)⟩

set_option maxRecDepth 100000 in
set_option maxHeartbeats 2000000 in
theorem ref_Lay_24 (w : World) (p row : Nat) (l : List Int) (a b : Int) (ha : -9223372036854775808 ≤ a ∧ a ≤ 9223372036854775807) (hb : -9223372036854775808 ≤ b ∧ b ≤ 9223372036854775807) (h : Wr w 61 5 p row l) (hl : l.length + 8 ≤ 140737488355328) :
    Calls Tryz.prog 29 #[.pointer (some ⟨p, 0, none⟩), .agg #[.int .i64 24, .int .i64 a, .int .i64 b]] w fun e w' => e = .returned (.tuple #[]) ∧ WrTo 61 5 p row (l ++ encI 24 a b) w w' := by
  have hplt := h.lt
  have hrlt := h.row_lt
  have hE := encI_24 a b
  have HE := Lib.hid hE; clear hE
  obtain ⟨W, hW⟩ : ∃ W, W = w.alloc (.cells #[.int .i64 24, .int .i64 a, .int .i64 b] 47) := ⟨_, rfl⟩
  have tw : Tch [] w W := by rw [hW]; exact (Tch.refl [] w).alloc _
  have hx : Bx W w.heap.size (.int .i64 24) (.int .i64 a) (.int .i64 b) := by rw [hW]; exact Bx.new _ _ _ _ _
  have t01 := tw
  have hgl := hx.lt
  have hw1 := h.tch tw (by simp) (by simp)
  obtain ⟨c0, c1, c2⟩ := hx
  go_enter Tryz.func29, Tryz.ntmps29
  go_wp2_with fail
  rw [← hW]
  refine (ref_U8 _ p row l 24 hw1 (by omega) (by omega)).mono ?_
  rintro e w2 ⟨rfl, row2, hw2, hr2, t2⟩
  have hx2 := (Bx.mk c0 c1 c2).tch t2 (by simp; omega)
  have hs01 := t01.size
  have z2 := t2.size
  clear c0 c1 c2 hw1
  obtain ⟨c0, c1, c2⟩ := hx2
  have hl2 : (l ++ putN 24 1).length = l.length + 1 := by simp [putN_length]
  have HL2 := Lib.hid hl2; clear hl2
  go_wp2_with fail
  refine (ref_U16 _ p row2 _ a hw2 ha (by rw [HL2.out]; omega)).mono ?_
  rintro e w3 ⟨rfl, h3⟩
  rw [List.append_assoc, ← HE.out] at h3
  clear c0 c1 c2 hw2
  go_wp2_with fail
  go_end0
  exact ⟨rfl, WrTo.ahead t01 (WrTo.after hr2 t2 h3)⟩

set_option maxRecDepth 100000 in
set_option maxHeartbeats 2000000 in
theorem ref_Lay_27 (w : World) (p row : Nat) (l : List Int) (a b : Int) (ha : -9223372036854775808 ≤ a ∧ a ≤ 9223372036854775807) (hb : -9223372036854775808 ≤ b ∧ b ≤ 9223372036854775807) (h : Wr w 61 5 p row l) (hl : l.length + 8 ≤ 140737488355328) :
    Calls Tryz.prog 29 #[.pointer (some ⟨p, 0, none⟩), .agg #[.int .i64 27, .int .i64 a, .int .i64 b]] w fun e w' => e = .returned (.tuple #[]) ∧ WrTo 61 5 p row (l ++ encI 27 a b) w w' := by
  have hplt := h.lt
  have hrlt := h.row_lt
  have hE := encI_27 a b
  have HE := Lib.hid hE; clear hE
  obtain ⟨W, hW⟩ : ∃ W, W = w.alloc (.cells #[.int .i64 27, .int .i64 a, .int .i64 b] 47) := ⟨_, rfl⟩
  have tw : Tch [] w W := by rw [hW]; exact (Tch.refl [] w).alloc _
  have hx : Bx W w.heap.size (.int .i64 27) (.int .i64 a) (.int .i64 b) := by rw [hW]; exact Bx.new _ _ _ _ _
  have t01 := tw
  have hgl := hx.lt
  have hw1 := h.tch tw (by simp) (by simp)
  obtain ⟨c0, c1, c2⟩ := hx
  go_enter Tryz.func29, Tryz.ntmps29
  go_wp2_with fail
  rw [← hW]
  refine (ref_U8 _ p row l 27 hw1 (by omega) (by omega)).mono ?_
  rintro e w2 ⟨rfl, row2, hw2, hr2, t2⟩
  have hx2 := (Bx.mk c0 c1 c2).tch t2 (by simp; omega)
  have hs01 := t01.size
  have z2 := t2.size
  clear c0 c1 c2 hw1
  obtain ⟨c0, c1, c2⟩ := hx2
  have hl2 : (l ++ putN 27 1).length = l.length + 1 := by simp [putN_length]
  have HL2 := Lib.hid hl2; clear hl2
  have hp2 := hw2.lt
  have hrow2 := hw2.row_lt
  have hg2 : w.heap.size ∉ [p, row2] := by simp; omega
  go_wp2_with fail
  refine (ref_U8 _ p row2 _ a hw2 ha (by rw [HL2.out]; omega)).mono ?_
  rintro e w3 ⟨rfl, row3, hw3, hr3, t3⟩
  have hx3 := (Bx.mk c0 c1 c2).tch t3 hg2
  clear c0 c1 c2 hw2 hg2
  obtain ⟨c0, c1, c2⟩ := hx3
  have hl3 : ((l ++ putN 27 1) ++ putN a 1).length = l.length + 2 := by simp [putN_length]
  go_wp2_with fail
  refine (ref_U8 _ p row3 _ b hw3 hb (by omega)).mono ?_
  rintro e w4 ⟨rfl, h4⟩
  rw [List.append_assoc, List.append_assoc, ← HE.out] at h4
  clear c0 c1 c2 hw3
  go_wp2_with fail
  go_end0
  exact ⟨rfl, WrTo.ahead t01 (WrTo.after hr2 t2 (WrTo.after hr3 t3 h4))⟩

set_option maxRecDepth 100000 in
set_option maxHeartbeats 2000000 in
theorem ref_Lay_one (w : World) (p row : Nat) (l : List Int) (op : Int) (hop : -9223372036854775808 ≤ op ∧ op ≤ 9223372036854775807) (a b : Int) (ha : -9223372036854775808 ≤ a ∧ a ≤ 9223372036854775807) (hb : -9223372036854775808 ≤ b ∧ b ≤ 9223372036854775807) (hne : op ≠ 1 ∧ op ≠ 23 ∧ op ≠ 24 ∧ op ≠ 27) (ho : opndN op = 1) (h : Wr w 61 5 p row l) (hl : l.length + 8 ≤ 140737488355328) :
    Calls Tryz.prog 29 #[.pointer (some ⟨p, 0, none⟩), .agg #[.int .i64 op, .int .i64 a, .int .i64 b]] w fun e w' => e = .returned (.tuple #[]) ∧ WrTo 61 5 p row (l ++ encI op a b) w w' := by
  have hplt := h.lt
  have hrlt := h.row_lt
  have hE := encI_one op a b hne ho
  have k1 : (op == 1) = false := beq_eq_false_iff_ne.2 (by omega)
  have k23 : (op == 23) = false := beq_eq_false_iff_ne.2 (by omega)
  have k24 : (op == 24) = false := beq_eq_false_iff_ne.2 (by omega)
  have k27 : (op == 27) = false := beq_eq_false_iff_ne.2 (by omega)
  have hopn := fun w => ref_Operands op w
  rw [ho] at hopn
  clear hne ho
  have HE := Lib.hid hE; clear hE
  obtain ⟨W, hW⟩ : ∃ W, W = w.alloc (.cells #[.int .i64 op, .int .i64 a, .int .i64 b] 47) := ⟨_, rfl⟩
  have tw : Tch [] w W := by rw [hW]; exact (Tch.refl [] w).alloc _
  have hx : Bx W w.heap.size (.int .i64 op) (.int .i64 a) (.int .i64 b) := by rw [hW]; exact Bx.new _ _ _ _ _
  have t01 := tw
  have hgl := hx.lt
  have hw1 := h.tch tw (by simp) (by simp)
  obtain ⟨c0, c1, c2⟩ := hx
  go_enter Tryz.func29, Tryz.ntmps29
  go_wp2_with fail
  rw [← hW]
  refine (ref_U8 _ p row l op hw1 (hop) (by omega)).mono ?_
  rintro e w2 ⟨rfl, row2, hw2, hr2, t2⟩
  have hx2 := (Bx.mk c0 c1 c2).tch t2 (by simp; omega)
  have hs01 := t01.size
  have z2 := t2.size
  clear c0 c1 c2 hw1
  obtain ⟨c0, c1, c2⟩ := hx2
  have hl2 : (l ++ putN op 1).length = l.length + 1 := by simp [putN_length]
  have HL2 := Lib.hid hl2; clear hl2
  go_wp2_with fail
  refine (hopn _).mono ?_
  rintro e w' ⟨rfl, rfl⟩
  go_wp2_with fail
  refine (ref_U8 _ p row2 _ a hw2 ha (by rw [HL2.out]; omega)).mono ?_
  rintro e w3 ⟨rfl, h3⟩
  rw [List.append_assoc, ← HE.out] at h3
  clear c0 c1 c2 hw2
  go_wp2_with fail
  go_end0
  exact ⟨rfl, WrTo.ahead t01 (WrTo.after hr2 t2 h3)⟩

set_option maxRecDepth 100000 in
set_option maxHeartbeats 2000000 in
theorem ref_Lay_zero (w : World) (p row : Nat) (l : List Int) (op : Int) (hop : -9223372036854775808 ≤ op ∧ op ≤ 9223372036854775807) (a b : Int) (ha : -9223372036854775808 ≤ a ∧ a ≤ 9223372036854775807) (hb : -9223372036854775808 ≤ b ∧ b ≤ 9223372036854775807) (hne : op ≠ 1 ∧ op ≠ 23 ∧ op ≠ 24 ∧ op ≠ 27) (ho : opndN op ≠ 1) (h : Wr w 61 5 p row l) (hl : l.length + 8 ≤ 140737488355328) :
    Calls Tryz.prog 29 #[.pointer (some ⟨p, 0, none⟩), .agg #[.int .i64 op, .int .i64 a, .int .i64 b]] w fun e w' => e = .returned (.tuple #[]) ∧ WrTo 61 5 p row (l ++ encI op a b) w w' := by
  have hplt := h.lt
  have hrlt := h.row_lt
  have hE := encI_zero op a b hne ho
  have k1 : (op == 1) = false := beq_eq_false_iff_ne.2 (by omega)
  have k23 : (op == 23) = false := beq_eq_false_iff_ne.2 (by omega)
  have k24 : (op == 24) = false := beq_eq_false_iff_ne.2 (by omega)
  have k27 : (op == 27) = false := beq_eq_false_iff_ne.2 (by omega)
  have ho0 := opndN_one op ho (by omega)
  have hopn := fun w => ref_Operands op w
  rw [ho0] at hopn
  clear hne ho ho0
  have HE := Lib.hid hE; clear hE
  obtain ⟨W, hW⟩ : ∃ W, W = w.alloc (.cells #[.int .i64 op, .int .i64 a, .int .i64 b] 47) := ⟨_, rfl⟩
  have tw : Tch [] w W := by rw [hW]; exact (Tch.refl [] w).alloc _
  have hx : Bx W w.heap.size (.int .i64 op) (.int .i64 a) (.int .i64 b) := by rw [hW]; exact Bx.new _ _ _ _ _
  have t01 := tw
  have hgl := hx.lt
  have hw1 := h.tch tw (by simp) (by simp)
  obtain ⟨c0, c1, c2⟩ := hx
  go_enter Tryz.func29, Tryz.ntmps29
  go_wp2_with fail
  rw [← hW]
  refine (ref_U8 _ p row l op hw1 (hop) (by omega)).mono ?_
  rintro e w2 ⟨rfl, row2, hw2, hr2, t2⟩
  have hx2 := (Bx.mk c0 c1 c2).tch t2 (by simp; omega)
  have hs01 := t01.size
  have z2 := t2.size
  clear c0 c1 c2 hw1
  obtain ⟨c0, c1, c2⟩ := hx2
  have hl2 : (l ++ putN op 1).length = l.length + 1 := by simp [putN_length]
  have HL2 := Lib.hid hl2; clear hl2
  go_wp2_with fail
  refine (hopn _).mono ?_
  rintro e w' ⟨rfl, rfl⟩
  go_wp2_with fail
  go_end0
  exact ⟨rfl, WrTo.ahead t01 ⟨row2, by rw [HE.out]; exact hw2, hr2, t2⟩⟩

theorem ref_Lay (w : World) (p row : Nat) (l : List Int) (op a b : Int) (hop : -9223372036854775808 ≤ op ∧ op ≤ 9223372036854775807) (ha : -9223372036854775808 ≤ a ∧ a ≤ 9223372036854775807) (hb : -9223372036854775808 ≤ b ∧ b ≤ 9223372036854775807) (h : Wr w 61 5 p row l) (hl : l.length + 8 ≤ 140737488355328) :
    Calls Tryz.prog 29 #[.pointer (some ⟨p, 0, none⟩), .agg #[.int .i64 op, .int .i64 a, .int .i64 b]] w fun e w' => e = .returned (.tuple #[]) ∧ WrTo 61 5 p row (l ++ encI op a b) w w' := by
  by_cases h1 : op = 1
  · subst h1; exact ref_Lay_1 w p row l a b ha hb h hl
  by_cases h2 : op = 23
  · subst h2; exact ref_Lay_23 w p row l a b ha hb h hl
  by_cases h3 : op = 24
  · subst h3; exact ref_Lay_24 w p row l a b ha hb h hl
  by_cases h4 : op = 27
  · subst h4; exact ref_Lay_27 w p row l a b ha hb h hl
  by_cases h5 : opndN op = 1
  · exact ref_Lay_one w p row l op hop a b ha hb ⟨h1, h2, h3, h4⟩ h5 h hl
  · exact ref_Lay_zero w p row l op hop a b ha hb ⟨h1, h2, h3, h4⟩ h5 h hl

end Go.Proofs.YtapephelfijcbaaGreatDoor
