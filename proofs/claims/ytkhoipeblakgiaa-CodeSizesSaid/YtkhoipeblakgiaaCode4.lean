/-
  CONTRACTS: Right of taciturnref1. Conditions: none.
-/
import Derived.Test.YtkhoipeblakgiaaCode3
namespace Go.Proofs.Ytkhoipeblakgiaa
open Go.RowKit Go.Tcn
set_option linter.unusedVariables false
set_option linter.unusedSimpArgs false
theorem ref_Name_some (op : Int) (h : 1 ≤ op ∧ op ≤ 39) (w : World) : ∃ c l, Calls Try.prog 25 #[.int .i64 op] w fun e w' => e = .returned (.string ⟨(c :: l).toArray⟩) ∧ Tch [] w w' := by
  have hn : nmAt op ≠ [] := fun e => (nmAt_nil op).1 e h
  obtain ⟨c, l, e⟩ := List.exists_cons_of_ne_nil hn
  refine ⟨c, l, ?_⟩
  rw [← e]
  exact ref_Name op w
theorem ref_Name_none (op : Int) (h : ¬ (1 ≤ op ∧ op ≤ 39)) (w : World) : Calls Try.prog 25 #[.int .i64 op] w fun e w' => e = .returned (.string ⟨#[]⟩) ∧ Tch [] w w' := by
  have := ref_Name op w
  rw [(nmAt_nil op).2 h] at this
  exact this
/-- Reads what was laid in a new block. -/
theorem tch_cell {w w' : World} {p : Addr} {v : Value} (t : Tch [] w w') (h : w.cell? p = some v) : w'.cell? p = some v := by rw [t.cell (cell_lt h) (by simp)]; exact h

set_option maxRecDepth 100000 in
set_option maxHeartbeats 2000000 in
theorem ref_Right_1 (a b : Int) (w : World) : Calls Try.prog 12 #[.agg #[.int .i64 1, .int .i64 a, .int .i64 b]] w fun e w' => e = .returned (.bool (rightI 1 a b)) ∧ Tch [] w w' := by
  obtain ⟨W, hW⟩ : ∃ W, W = w.alloc (.cells #[.int .i64 1, .int .i64 a, .int .i64 b] 25) := ⟨_, rfl⟩
  have tw : Tch [] w W := by rw [hW]; exact (Tch.refl [] w).alloc _
  have c0 : W.cell? ⟨w.heap.size, 0, none⟩ = some (.int .i64 1) := by rw [hW]; simp [go_sem]
  have c1 : W.cell? ⟨w.heap.size, 1, none⟩ = some (.int .i64 a) := by rw [hW]; simp [go_sem]
  have c2 : W.cell? ⟨w.heap.size, 2, none⟩ = some (.int .i64 b) := by rw [hW]; simp [go_sem]
  obtain ⟨c, l, hN⟩ := ref_Name_some 1 (by omega) W
  have hR : rightI 1 a b = (decide ((-2147483648) ≤ a ∧ a ≤ 2147483647) && b == 0) := by unfold rightI limLo limHi; rw [Bool.eq_iff_iff]; simp; omega
  have HR := Lib.hid hR; clear hR
  have hop := fun w => ref_Operands 1 w
  have e1 : opndN 1 = 1 := by decide
  rw [e1] at hop
  cases hb : (b == 0)
  · have hb2 : (b != 0) = true := by rw [bne, hb]; rfl
    have HB := Lib.hid hb; clear hb
    go_enter Try.func12, Try.ntmps12
    go_wp2_with fail
    rw [← hW]
    refine hN.mono ?_
    rintro e w1 ⟨rfl, t1⟩
    have d0 := tch_cell t1 c0
    have d1 := tch_cell t1 c1
    have d2 := tch_cell t1 c2
    have t2 := tw.then t1
    clear hN c0 c1 c2 hW
    go_wp2_with fail
    go_ret
    exact ⟨by rw [HR.out, HB.out, Bool.and_false]; rfl, t2⟩
  · obtain rfl : b = 0 := by simpa using hb
    clear hb
    have hw := fun w => ref_within a (-2147483648) 2147483647 w
    go_enter Try.func12, Try.ntmps12
    go_wp2_with fail
    rw [← hW]
    refine hN.mono ?_
    rintro e w1 ⟨rfl, t1⟩
    have d0 := tch_cell t1 c0
    have d1 := tch_cell t1 c1
    have d2 := tch_cell t1 c2
    have t2 := tw.then t1
    clear hN c0 c1 c2 hW
    go_wp2_with fail
    refine (hop _).mono ?_
    rintro e w' ⟨rfl, rfl⟩
    go_wp2_with fail
    refine (hw _).mono ?_
    rintro e w' ⟨rfl, rfl⟩
    go_wp2_with fail
    go_ret
    exact ⟨by rw [HR.out]; simp, t2⟩

set_option maxRecDepth 100000 in
set_option maxHeartbeats 2000000 in
theorem ref_Right_2 (a b : Int) (w : World) : Calls Try.prog 12 #[.agg #[.int .i64 2, .int .i64 a, .int .i64 b]] w fun e w' => e = .returned (.bool (rightI 2 a b)) ∧ Tch [] w w' := by
  obtain ⟨W, hW⟩ : ∃ W, W = w.alloc (.cells #[.int .i64 2, .int .i64 a, .int .i64 b] 25) := ⟨_, rfl⟩
  have tw : Tch [] w W := by rw [hW]; exact (Tch.refl [] w).alloc _
  have c0 : W.cell? ⟨w.heap.size, 0, none⟩ = some (.int .i64 2) := by rw [hW]; simp [go_sem]
  have c1 : W.cell? ⟨w.heap.size, 1, none⟩ = some (.int .i64 a) := by rw [hW]; simp [go_sem]
  have c2 : W.cell? ⟨w.heap.size, 2, none⟩ = some (.int .i64 b) := by rw [hW]; simp [go_sem]
  obtain ⟨c, l, hN⟩ := ref_Name_some 2 (by omega) W
  have hR : rightI 2 a b = (decide (0 ≤ a ∧ a ≤ 9) && b == 0) := by unfold rightI limLo limHi; rw [Bool.eq_iff_iff]; simp; omega
  have HR := Lib.hid hR; clear hR
  have hop := fun w => ref_Operands 2 w
  have e1 : opndN 2 = 1 := by decide
  rw [e1] at hop
  cases hb : (b == 0)
  · have hb2 : (b != 0) = true := by rw [bne, hb]; rfl
    have HB := Lib.hid hb; clear hb
    go_enter Try.func12, Try.ntmps12
    go_wp2_with fail
    rw [← hW]
    refine hN.mono ?_
    rintro e w1 ⟨rfl, t1⟩
    have d0 := tch_cell t1 c0
    have d1 := tch_cell t1 c1
    have d2 := tch_cell t1 c2
    have t2 := tw.then t1
    clear hN c0 c1 c2 hW
    go_wp2_with fail
    go_ret
    exact ⟨by rw [HR.out, HB.out, Bool.and_false]; rfl, t2⟩
  · obtain rfl : b = 0 := by simpa using hb
    clear hb
    have hw := fun w => ref_within a 0 9 w
    go_enter Try.func12, Try.ntmps12
    go_wp2_with fail
    rw [← hW]
    refine hN.mono ?_
    rintro e w1 ⟨rfl, t1⟩
    have d0 := tch_cell t1 c0
    have d1 := tch_cell t1 c1
    have d2 := tch_cell t1 c2
    have t2 := tw.then t1
    clear hN c0 c1 c2 hW
    go_wp2_with fail
    refine (hop _).mono ?_
    rintro e w' ⟨rfl, rfl⟩
    go_wp2_with fail
    refine (hw _).mono ?_
    rintro e w' ⟨rfl, rfl⟩
    go_wp2_with fail
    go_ret
    exact ⟨by rw [HR.out]; simp, t2⟩

set_option maxRecDepth 100000 in
set_option maxHeartbeats 2000000 in
theorem ref_Right_3 (a b : Int) (w : World) : Calls Try.prog 12 #[.agg #[.int .i64 3, .int .i64 a, .int .i64 b]] w fun e w' => e = .returned (.bool (rightI 3 a b)) ∧ Tch [] w w' := by
  obtain ⟨W, hW⟩ : ∃ W, W = w.alloc (.cells #[.int .i64 3, .int .i64 a, .int .i64 b] 25) := ⟨_, rfl⟩
  have tw : Tch [] w W := by rw [hW]; exact (Tch.refl [] w).alloc _
  have c0 : W.cell? ⟨w.heap.size, 0, none⟩ = some (.int .i64 3) := by rw [hW]; simp [go_sem]
  have c1 : W.cell? ⟨w.heap.size, 1, none⟩ = some (.int .i64 a) := by rw [hW]; simp [go_sem]
  have c2 : W.cell? ⟨w.heap.size, 2, none⟩ = some (.int .i64 b) := by rw [hW]; simp [go_sem]
  obtain ⟨c, l, hN⟩ := ref_Name_some 3 (by omega) W
  have hR : rightI 3 a b = (decide (0 ≤ a ∧ a ≤ 9) && b == 0) := by unfold rightI limLo limHi; rw [Bool.eq_iff_iff]; simp; omega
  have HR := Lib.hid hR; clear hR
  have hop := fun w => ref_Operands 3 w
  have e1 : opndN 3 = 1 := by decide
  rw [e1] at hop
  cases hb : (b == 0)
  · have hb2 : (b != 0) = true := by rw [bne, hb]; rfl
    have HB := Lib.hid hb; clear hb
    go_enter Try.func12, Try.ntmps12
    go_wp2_with fail
    rw [← hW]
    refine hN.mono ?_
    rintro e w1 ⟨rfl, t1⟩
    have d0 := tch_cell t1 c0
    have d1 := tch_cell t1 c1
    have d2 := tch_cell t1 c2
    have t2 := tw.then t1
    clear hN c0 c1 c2 hW
    go_wp2_with fail
    go_ret
    exact ⟨by rw [HR.out, HB.out, Bool.and_false]; rfl, t2⟩
  · obtain rfl : b = 0 := by simpa using hb
    clear hb
    have hw := fun w => ref_within a 0 9 w
    go_enter Try.func12, Try.ntmps12
    go_wp2_with fail
    rw [← hW]
    refine hN.mono ?_
    rintro e w1 ⟨rfl, t1⟩
    have d0 := tch_cell t1 c0
    have d1 := tch_cell t1 c1
    have d2 := tch_cell t1 c2
    have t2 := tw.then t1
    clear hN c0 c1 c2 hW
    go_wp2_with fail
    refine (hop _).mono ?_
    rintro e w' ⟨rfl, rfl⟩
    go_wp2_with fail
    refine (hw _).mono ?_
    rintro e w' ⟨rfl, rfl⟩
    go_wp2_with fail
    go_ret
    exact ⟨by rw [HR.out]; simp, t2⟩

set_option maxRecDepth 100000 in
set_option maxHeartbeats 2000000 in
theorem ref_Right_23 (a b : Int) (w : World) : Calls Try.prog 12 #[.agg #[.int .i64 23, .int .i64 a, .int .i64 b]] w fun e w' => e = .returned (.bool (rightI 23 a b)) ∧ Tch [] w w' := by
  obtain ⟨W, hW⟩ : ∃ W, W = w.alloc (.cells #[.int .i64 23, .int .i64 a, .int .i64 b] 25) := ⟨_, rfl⟩
  have tw : Tch [] w W := by rw [hW]; exact (Tch.refl [] w).alloc _
  have c0 : W.cell? ⟨w.heap.size, 0, none⟩ = some (.int .i64 23) := by rw [hW]; simp [go_sem]
  have c1 : W.cell? ⟨w.heap.size, 1, none⟩ = some (.int .i64 a) := by rw [hW]; simp [go_sem]
  have c2 : W.cell? ⟨w.heap.size, 2, none⟩ = some (.int .i64 b) := by rw [hW]; simp [go_sem]
  obtain ⟨c, l, hN⟩ := ref_Name_some 23 (by omega) W
  have hR : rightI 23 a b = (decide (0 ≤ a ∧ a ≤ 119) && b == 0) := by unfold rightI limLo limHi; rw [Bool.eq_iff_iff]; simp; omega
  have HR := Lib.hid hR; clear hR
  have hop := fun w => ref_Operands 23 w
  have e1 : opndN 23 = 1 := by decide
  rw [e1] at hop
  cases hb : (b == 0)
  · have hb2 : (b != 0) = true := by rw [bne, hb]; rfl
    have HB := Lib.hid hb; clear hb
    go_enter Try.func12, Try.ntmps12
    go_wp2_with fail
    rw [← hW]
    refine hN.mono ?_
    rintro e w1 ⟨rfl, t1⟩
    have d0 := tch_cell t1 c0
    have d1 := tch_cell t1 c1
    have d2 := tch_cell t1 c2
    have t2 := tw.then t1
    clear hN c0 c1 c2 hW
    go_wp2_with fail
    go_ret
    exact ⟨by rw [HR.out, HB.out, Bool.and_false]; rfl, t2⟩
  · obtain rfl : b = 0 := by simpa using hb
    clear hb
    have hw := fun w => ref_within a 0 119 w
    go_enter Try.func12, Try.ntmps12
    go_wp2_with fail
    rw [← hW]
    refine hN.mono ?_
    rintro e w1 ⟨rfl, t1⟩
    have d0 := tch_cell t1 c0
    have d1 := tch_cell t1 c1
    have d2 := tch_cell t1 c2
    have t2 := tw.then t1
    clear hN c0 c1 c2 hW
    go_wp2_with fail
    refine (hop _).mono ?_
    rintro e w' ⟨rfl, rfl⟩
    go_wp2_with fail
    refine (hw _).mono ?_
    rintro e w' ⟨rfl, rfl⟩
    go_wp2_with fail
    go_ret
    exact ⟨by rw [HR.out]; simp, t2⟩

set_option maxRecDepth 100000 in
set_option maxHeartbeats 2000000 in
theorem ref_Right_24 (a b : Int) (w : World) : Calls Try.prog 12 #[.agg #[.int .i64 24, .int .i64 a, .int .i64 b]] w fun e w' => e = .returned (.bool (rightI 24 a b)) ∧ Tch [] w w' := by
  obtain ⟨W, hW⟩ : ∃ W, W = w.alloc (.cells #[.int .i64 24, .int .i64 a, .int .i64 b] 25) := ⟨_, rfl⟩
  have tw : Tch [] w W := by rw [hW]; exact (Tch.refl [] w).alloc _
  have c0 : W.cell? ⟨w.heap.size, 0, none⟩ = some (.int .i64 24) := by rw [hW]; simp [go_sem]
  have c1 : W.cell? ⟨w.heap.size, 1, none⟩ = some (.int .i64 a) := by rw [hW]; simp [go_sem]
  have c2 : W.cell? ⟨w.heap.size, 2, none⟩ = some (.int .i64 b) := by rw [hW]; simp [go_sem]
  obtain ⟨c, l, hN⟩ := ref_Name_some 24 (by omega) W
  have hR : rightI 24 a b = (decide (0 ≤ a ∧ a ≤ 119) && b == 0) := by unfold rightI limLo limHi; rw [Bool.eq_iff_iff]; simp; omega
  have HR := Lib.hid hR; clear hR
  have hop := fun w => ref_Operands 24 w
  have e1 : opndN 24 = 1 := by decide
  rw [e1] at hop
  cases hb : (b == 0)
  · have hb2 : (b != 0) = true := by rw [bne, hb]; rfl
    have HB := Lib.hid hb; clear hb
    go_enter Try.func12, Try.ntmps12
    go_wp2_with fail
    rw [← hW]
    refine hN.mono ?_
    rintro e w1 ⟨rfl, t1⟩
    have d0 := tch_cell t1 c0
    have d1 := tch_cell t1 c1
    have d2 := tch_cell t1 c2
    have t2 := tw.then t1
    clear hN c0 c1 c2 hW
    go_wp2_with fail
    go_ret
    exact ⟨by rw [HR.out, HB.out, Bool.and_false]; rfl, t2⟩
  · obtain rfl : b = 0 := by simpa using hb
    clear hb
    have hw := fun w => ref_within a 0 119 w
    go_enter Try.func12, Try.ntmps12
    go_wp2_with fail
    rw [← hW]
    refine hN.mono ?_
    rintro e w1 ⟨rfl, t1⟩
    have d0 := tch_cell t1 c0
    have d1 := tch_cell t1 c1
    have d2 := tch_cell t1 c2
    have t2 := tw.then t1
    clear hN c0 c1 c2 hW
    go_wp2_with fail
    refine (hop _).mono ?_
    rintro e w' ⟨rfl, rfl⟩
    go_wp2_with fail
    refine (hw _).mono ?_
    rintro e w' ⟨rfl, rfl⟩
    go_wp2_with fail
    go_ret
    exact ⟨by rw [HR.out]; simp, t2⟩

set_option maxRecDepth 100000 in
set_option maxHeartbeats 2000000 in
theorem ref_Right_25 (a b : Int) (w : World) : Calls Try.prog 12 #[.agg #[.int .i64 25, .int .i64 a, .int .i64 b]] w fun e w' => e = .returned (.bool (rightI 25 a b)) ∧ Tch [] w w' := by
  obtain ⟨W, hW⟩ : ∃ W, W = w.alloc (.cells #[.int .i64 25, .int .i64 a, .int .i64 b] 25) := ⟨_, rfl⟩
  have tw : Tch [] w W := by rw [hW]; exact (Tch.refl [] w).alloc _
  have c0 : W.cell? ⟨w.heap.size, 0, none⟩ = some (.int .i64 25) := by rw [hW]; simp [go_sem]
  have c1 : W.cell? ⟨w.heap.size, 1, none⟩ = some (.int .i64 a) := by rw [hW]; simp [go_sem]
  have c2 : W.cell? ⟨w.heap.size, 2, none⟩ = some (.int .i64 b) := by rw [hW]; simp [go_sem]
  obtain ⟨c, l, hN⟩ := ref_Name_some 25 (by omega) W
  have hR : rightI 25 a b = (decide (3 ≤ a ∧ a ≤ 4) && b == 0) := by unfold rightI limLo limHi; rw [Bool.eq_iff_iff]; simp; omega
  have HR := Lib.hid hR; clear hR
  have hop := fun w => ref_Operands 25 w
  have e1 : opndN 25 = 1 := by decide
  rw [e1] at hop
  cases hb : (b == 0)
  · have hb2 : (b != 0) = true := by rw [bne, hb]; rfl
    have HB := Lib.hid hb; clear hb
    go_enter Try.func12, Try.ntmps12
    go_wp2_with fail
    rw [← hW]
    refine hN.mono ?_
    rintro e w1 ⟨rfl, t1⟩
    have d0 := tch_cell t1 c0
    have d1 := tch_cell t1 c1
    have d2 := tch_cell t1 c2
    have t2 := tw.then t1
    clear hN c0 c1 c2 hW
    go_wp2_with fail
    go_ret
    exact ⟨by rw [HR.out, HB.out, Bool.and_false]; rfl, t2⟩
  · obtain rfl : b = 0 := by simpa using hb
    clear hb
    have hw := fun w => ref_within a 3 4 w
    go_enter Try.func12, Try.ntmps12
    go_wp2_with fail
    rw [← hW]
    refine hN.mono ?_
    rintro e w1 ⟨rfl, t1⟩
    have d0 := tch_cell t1 c0
    have d1 := tch_cell t1 c1
    have d2 := tch_cell t1 c2
    have t2 := tw.then t1
    clear hN c0 c1 c2 hW
    go_wp2_with fail
    refine (hop _).mono ?_
    rintro e w' ⟨rfl, rfl⟩
    go_wp2_with fail
    refine (hw _).mono ?_
    rintro e w' ⟨rfl, rfl⟩
    go_wp2_with fail
    go_ret
    exact ⟨by rw [HR.out]; simp, t2⟩

set_option maxRecDepth 100000 in
set_option maxHeartbeats 2000000 in
theorem ref_Right_33 (a b : Int) (w : World) : Calls Try.prog 12 #[.agg #[.int .i64 33, .int .i64 a, .int .i64 b]] w fun e w' => e = .returned (.bool (rightI 33 a b)) ∧ Tch [] w w' := by
  obtain ⟨W, hW⟩ : ∃ W, W = w.alloc (.cells #[.int .i64 33, .int .i64 a, .int .i64 b] 25) := ⟨_, rfl⟩
  have tw : Tch [] w W := by rw [hW]; exact (Tch.refl [] w).alloc _
  have c0 : W.cell? ⟨w.heap.size, 0, none⟩ = some (.int .i64 33) := by rw [hW]; simp [go_sem]
  have c1 : W.cell? ⟨w.heap.size, 1, none⟩ = some (.int .i64 a) := by rw [hW]; simp [go_sem]
  have c2 : W.cell? ⟨w.heap.size, 2, none⟩ = some (.int .i64 b) := by rw [hW]; simp [go_sem]
  obtain ⟨c, l, hN⟩ := ref_Name_some 33 (by omega) W
  have hR : rightI 33 a b = (decide (0 ≤ a ∧ a ≤ 7) && b == 0) := by unfold rightI limLo limHi; rw [Bool.eq_iff_iff]; simp; omega
  have HR := Lib.hid hR; clear hR
  have hop := fun w => ref_Operands 33 w
  have e1 : opndN 33 = 1 := by decide
  rw [e1] at hop
  cases hb : (b == 0)
  · have hb2 : (b != 0) = true := by rw [bne, hb]; rfl
    have HB := Lib.hid hb; clear hb
    go_enter Try.func12, Try.ntmps12
    go_wp2_with fail
    rw [← hW]
    refine hN.mono ?_
    rintro e w1 ⟨rfl, t1⟩
    have d0 := tch_cell t1 c0
    have d1 := tch_cell t1 c1
    have d2 := tch_cell t1 c2
    have t2 := tw.then t1
    clear hN c0 c1 c2 hW
    go_wp2_with fail
    go_ret
    exact ⟨by rw [HR.out, HB.out, Bool.and_false]; rfl, t2⟩
  · obtain rfl : b = 0 := by simpa using hb
    clear hb
    have hw := fun w => ref_within a 0 7 w
    go_enter Try.func12, Try.ntmps12
    go_wp2_with fail
    rw [← hW]
    refine hN.mono ?_
    rintro e w1 ⟨rfl, t1⟩
    have d0 := tch_cell t1 c0
    have d1 := tch_cell t1 c1
    have d2 := tch_cell t1 c2
    have t2 := tw.then t1
    clear hN c0 c1 c2 hW
    go_wp2_with fail
    refine (hop _).mono ?_
    rintro e w' ⟨rfl, rfl⟩
    go_wp2_with fail
    refine (hw _).mono ?_
    rintro e w' ⟨rfl, rfl⟩
    go_wp2_with fail
    go_ret
    exact ⟨by rw [HR.out]; simp, t2⟩

set_option maxRecDepth 100000 in
set_option maxHeartbeats 2000000 in
theorem ref_Right_34 (a b : Int) (w : World) : Calls Try.prog 12 #[.agg #[.int .i64 34, .int .i64 a, .int .i64 b]] w fun e w' => e = .returned (.bool (rightI 34 a b)) ∧ Tch [] w w' := by
  obtain ⟨W, hW⟩ : ∃ W, W = w.alloc (.cells #[.int .i64 34, .int .i64 a, .int .i64 b] 25) := ⟨_, rfl⟩
  have tw : Tch [] w W := by rw [hW]; exact (Tch.refl [] w).alloc _
  have c0 : W.cell? ⟨w.heap.size, 0, none⟩ = some (.int .i64 34) := by rw [hW]; simp [go_sem]
  have c1 : W.cell? ⟨w.heap.size, 1, none⟩ = some (.int .i64 a) := by rw [hW]; simp [go_sem]
  have c2 : W.cell? ⟨w.heap.size, 2, none⟩ = some (.int .i64 b) := by rw [hW]; simp [go_sem]
  obtain ⟨c, l, hN⟩ := ref_Name_some 34 (by omega) W
  have hR : rightI 34 a b = (decide (0 ≤ a ∧ a ≤ 7) && b == 0) := by unfold rightI limLo limHi; rw [Bool.eq_iff_iff]; simp; omega
  have HR := Lib.hid hR; clear hR
  have hop := fun w => ref_Operands 34 w
  have e1 : opndN 34 = 1 := by decide
  rw [e1] at hop
  cases hb : (b == 0)
  · have hb2 : (b != 0) = true := by rw [bne, hb]; rfl
    have HB := Lib.hid hb; clear hb
    go_enter Try.func12, Try.ntmps12
    go_wp2_with fail
    rw [← hW]
    refine hN.mono ?_
    rintro e w1 ⟨rfl, t1⟩
    have d0 := tch_cell t1 c0
    have d1 := tch_cell t1 c1
    have d2 := tch_cell t1 c2
    have t2 := tw.then t1
    clear hN c0 c1 c2 hW
    go_wp2_with fail
    go_ret
    exact ⟨by rw [HR.out, HB.out, Bool.and_false]; rfl, t2⟩
  · obtain rfl : b = 0 := by simpa using hb
    clear hb
    have hw := fun w => ref_within a 0 7 w
    go_enter Try.func12, Try.ntmps12
    go_wp2_with fail
    rw [← hW]
    refine hN.mono ?_
    rintro e w1 ⟨rfl, t1⟩
    have d0 := tch_cell t1 c0
    have d1 := tch_cell t1 c1
    have d2 := tch_cell t1 c2
    have t2 := tw.then t1
    clear hN c0 c1 c2 hW
    go_wp2_with fail
    refine (hop _).mono ?_
    rintro e w' ⟨rfl, rfl⟩
    go_wp2_with fail
    refine (hw _).mono ?_
    rintro e w' ⟨rfl, rfl⟩
    go_wp2_with fail
    go_ret
    exact ⟨by rw [HR.out]; simp, t2⟩

set_option maxRecDepth 100000 in
set_option maxHeartbeats 2000000 in
theorem ref_Right_35 (a b : Int) (w : World) : Calls Try.prog 12 #[.agg #[.int .i64 35, .int .i64 a, .int .i64 b]] w fun e w' => e = .returned (.bool (rightI 35 a b)) ∧ Tch [] w w' := by
  obtain ⟨W, hW⟩ : ∃ W, W = w.alloc (.cells #[.int .i64 35, .int .i64 a, .int .i64 b] 25) := ⟨_, rfl⟩
  have tw : Tch [] w W := by rw [hW]; exact (Tch.refl [] w).alloc _
  have c0 : W.cell? ⟨w.heap.size, 0, none⟩ = some (.int .i64 35) := by rw [hW]; simp [go_sem]
  have c1 : W.cell? ⟨w.heap.size, 1, none⟩ = some (.int .i64 a) := by rw [hW]; simp [go_sem]
  have c2 : W.cell? ⟨w.heap.size, 2, none⟩ = some (.int .i64 b) := by rw [hW]; simp [go_sem]
  obtain ⟨c, l, hN⟩ := ref_Name_some 35 (by omega) W
  have hR : rightI 35 a b = (decide (1 ≤ a ∧ a ≤ 2) && b == 0) := by unfold rightI limLo limHi; rw [Bool.eq_iff_iff]; simp; omega
  have HR := Lib.hid hR; clear hR
  have hop := fun w => ref_Operands 35 w
  have e1 : opndN 35 = 1 := by decide
  rw [e1] at hop
  cases hb : (b == 0)
  · have hb2 : (b != 0) = true := by rw [bne, hb]; rfl
    have HB := Lib.hid hb; clear hb
    go_enter Try.func12, Try.ntmps12
    go_wp2_with fail
    rw [← hW]
    refine hN.mono ?_
    rintro e w1 ⟨rfl, t1⟩
    have d0 := tch_cell t1 c0
    have d1 := tch_cell t1 c1
    have d2 := tch_cell t1 c2
    have t2 := tw.then t1
    clear hN c0 c1 c2 hW
    go_wp2_with fail
    go_ret
    exact ⟨by rw [HR.out, HB.out, Bool.and_false]; rfl, t2⟩
  · obtain rfl : b = 0 := by simpa using hb
    clear hb
    have hw := fun w => ref_within a 1 2 w
    go_enter Try.func12, Try.ntmps12
    go_wp2_with fail
    rw [← hW]
    refine hN.mono ?_
    rintro e w1 ⟨rfl, t1⟩
    have d0 := tch_cell t1 c0
    have d1 := tch_cell t1 c1
    have d2 := tch_cell t1 c2
    have t2 := tw.then t1
    clear hN c0 c1 c2 hW
    go_wp2_with fail
    refine (hop _).mono ?_
    rintro e w' ⟨rfl, rfl⟩
    go_wp2_with fail
    refine (hw _).mono ?_
    rintro e w' ⟨rfl, rfl⟩
    go_wp2_with fail
    go_ret
    exact ⟨by rw [HR.out]; simp, t2⟩

set_option maxRecDepth 100000 in
set_option maxHeartbeats 2000000 in
theorem ref_Right_36 (a b : Int) (w : World) : Calls Try.prog 12 #[.agg #[.int .i64 36, .int .i64 a, .int .i64 b]] w fun e w' => e = .returned (.bool (rightI 36 a b)) ∧ Tch [] w w' := by
  obtain ⟨W, hW⟩ : ∃ W, W = w.alloc (.cells #[.int .i64 36, .int .i64 a, .int .i64 b] 25) := ⟨_, rfl⟩
  have tw : Tch [] w W := by rw [hW]; exact (Tch.refl [] w).alloc _
  have c0 : W.cell? ⟨w.heap.size, 0, none⟩ = some (.int .i64 36) := by rw [hW]; simp [go_sem]
  have c1 : W.cell? ⟨w.heap.size, 1, none⟩ = some (.int .i64 a) := by rw [hW]; simp [go_sem]
  have c2 : W.cell? ⟨w.heap.size, 2, none⟩ = some (.int .i64 b) := by rw [hW]; simp [go_sem]
  obtain ⟨c, l, hN⟩ := ref_Name_some 36 (by omega) W
  have hR : rightI 36 a b = (decide (1 ≤ a ∧ a ≤ 2) && b == 0) := by unfold rightI limLo limHi; rw [Bool.eq_iff_iff]; simp; omega
  have HR := Lib.hid hR; clear hR
  have hop := fun w => ref_Operands 36 w
  have e1 : opndN 36 = 1 := by decide
  rw [e1] at hop
  cases hb : (b == 0)
  · have hb2 : (b != 0) = true := by rw [bne, hb]; rfl
    have HB := Lib.hid hb; clear hb
    go_enter Try.func12, Try.ntmps12
    go_wp2_with fail
    rw [← hW]
    refine hN.mono ?_
    rintro e w1 ⟨rfl, t1⟩
    have d0 := tch_cell t1 c0
    have d1 := tch_cell t1 c1
    have d2 := tch_cell t1 c2
    have t2 := tw.then t1
    clear hN c0 c1 c2 hW
    go_wp2_with fail
    go_ret
    exact ⟨by rw [HR.out, HB.out, Bool.and_false]; rfl, t2⟩
  · obtain rfl : b = 0 := by simpa using hb
    clear hb
    have hw := fun w => ref_within a 1 2 w
    go_enter Try.func12, Try.ntmps12
    go_wp2_with fail
    rw [← hW]
    refine hN.mono ?_
    rintro e w1 ⟨rfl, t1⟩
    have d0 := tch_cell t1 c0
    have d1 := tch_cell t1 c1
    have d2 := tch_cell t1 c2
    have t2 := tw.then t1
    clear hN c0 c1 c2 hW
    go_wp2_with fail
    refine (hop _).mono ?_
    rintro e w' ⟨rfl, rfl⟩
    go_wp2_with fail
    refine (hw _).mono ?_
    rintro e w' ⟨rfl, rfl⟩
    go_wp2_with fail
    go_ret
    exact ⟨by rw [HR.out]; simp, t2⟩

set_option maxRecDepth 100000 in
set_option maxHeartbeats 2000000 in
theorem ref_Right_37 (a b : Int) (w : World) : Calls Try.prog 12 #[.agg #[.int .i64 37, .int .i64 a, .int .i64 b]] w fun e w' => e = .returned (.bool (rightI 37 a b)) ∧ Tch [] w w' := by
  obtain ⟨W, hW⟩ : ∃ W, W = w.alloc (.cells #[.int .i64 37, .int .i64 a, .int .i64 b] 25) := ⟨_, rfl⟩
  have tw : Tch [] w W := by rw [hW]; exact (Tch.refl [] w).alloc _
  have c0 : W.cell? ⟨w.heap.size, 0, none⟩ = some (.int .i64 37) := by rw [hW]; simp [go_sem]
  have c1 : W.cell? ⟨w.heap.size, 1, none⟩ = some (.int .i64 a) := by rw [hW]; simp [go_sem]
  have c2 : W.cell? ⟨w.heap.size, 2, none⟩ = some (.int .i64 b) := by rw [hW]; simp [go_sem]
  obtain ⟨c, l, hN⟩ := ref_Name_some 37 (by omega) W
  have hR : rightI 37 a b = (decide (0 ≤ a ∧ a ≤ 7) && b == 0) := by unfold rightI limLo limHi; rw [Bool.eq_iff_iff]; simp; omega
  have HR := Lib.hid hR; clear hR
  have hop := fun w => ref_Operands 37 w
  have e1 : opndN 37 = 1 := by decide
  rw [e1] at hop
  cases hb : (b == 0)
  · have hb2 : (b != 0) = true := by rw [bne, hb]; rfl
    have HB := Lib.hid hb; clear hb
    go_enter Try.func12, Try.ntmps12
    go_wp2_with fail
    rw [← hW]
    refine hN.mono ?_
    rintro e w1 ⟨rfl, t1⟩
    have d0 := tch_cell t1 c0
    have d1 := tch_cell t1 c1
    have d2 := tch_cell t1 c2
    have t2 := tw.then t1
    clear hN c0 c1 c2 hW
    go_wp2_with fail
    go_ret
    exact ⟨by rw [HR.out, HB.out, Bool.and_false]; rfl, t2⟩
  · obtain rfl : b = 0 := by simpa using hb
    clear hb
    have hw := fun w => ref_within a 0 7 w
    go_enter Try.func12, Try.ntmps12
    go_wp2_with fail
    rw [← hW]
    refine hN.mono ?_
    rintro e w1 ⟨rfl, t1⟩
    have d0 := tch_cell t1 c0
    have d1 := tch_cell t1 c1
    have d2 := tch_cell t1 c2
    have t2 := tw.then t1
    clear hN c0 c1 c2 hW
    go_wp2_with fail
    refine (hop _).mono ?_
    rintro e w' ⟨rfl, rfl⟩
    go_wp2_with fail
    refine (hw _).mono ?_
    rintro e w' ⟨rfl, rfl⟩
    go_wp2_with fail
    go_ret
    exact ⟨by rw [HR.out]; simp, t2⟩

set_option maxRecDepth 100000 in
set_option maxHeartbeats 2000000 in
theorem ref_Right_38 (a b : Int) (w : World) : Calls Try.prog 12 #[.agg #[.int .i64 38, .int .i64 a, .int .i64 b]] w fun e w' => e = .returned (.bool (rightI 38 a b)) ∧ Tch [] w w' := by
  obtain ⟨W, hW⟩ : ∃ W, W = w.alloc (.cells #[.int .i64 38, .int .i64 a, .int .i64 b] 25) := ⟨_, rfl⟩
  have tw : Tch [] w W := by rw [hW]; exact (Tch.refl [] w).alloc _
  have c0 : W.cell? ⟨w.heap.size, 0, none⟩ = some (.int .i64 38) := by rw [hW]; simp [go_sem]
  have c1 : W.cell? ⟨w.heap.size, 1, none⟩ = some (.int .i64 a) := by rw [hW]; simp [go_sem]
  have c2 : W.cell? ⟨w.heap.size, 2, none⟩ = some (.int .i64 b) := by rw [hW]; simp [go_sem]
  obtain ⟨c, l, hN⟩ := ref_Name_some 38 (by omega) W
  have hR : rightI 38 a b = (decide (0 ≤ a ∧ a ≤ 3) && b == 0) := by unfold rightI limLo limHi; rw [Bool.eq_iff_iff]; simp; omega
  have HR := Lib.hid hR; clear hR
  have hop := fun w => ref_Operands 38 w
  have e1 : opndN 38 = 1 := by decide
  rw [e1] at hop
  cases hb : (b == 0)
  · have hb2 : (b != 0) = true := by rw [bne, hb]; rfl
    have HB := Lib.hid hb; clear hb
    go_enter Try.func12, Try.ntmps12
    go_wp2_with fail
    rw [← hW]
    refine hN.mono ?_
    rintro e w1 ⟨rfl, t1⟩
    have d0 := tch_cell t1 c0
    have d1 := tch_cell t1 c1
    have d2 := tch_cell t1 c2
    have t2 := tw.then t1
    clear hN c0 c1 c2 hW
    go_wp2_with fail
    go_ret
    exact ⟨by rw [HR.out, HB.out, Bool.and_false]; rfl, t2⟩
  · obtain rfl : b = 0 := by simpa using hb
    clear hb
    have hw := fun w => ref_within a 0 3 w
    go_enter Try.func12, Try.ntmps12
    go_wp2_with fail
    rw [← hW]
    refine hN.mono ?_
    rintro e w1 ⟨rfl, t1⟩
    have d0 := tch_cell t1 c0
    have d1 := tch_cell t1 c1
    have d2 := tch_cell t1 c2
    have t2 := tw.then t1
    clear hN c0 c1 c2 hW
    go_wp2_with fail
    refine (hop _).mono ?_
    rintro e w' ⟨rfl, rfl⟩
    go_wp2_with fail
    refine (hw _).mono ?_
    rintro e w' ⟨rfl, rfl⟩
    go_wp2_with fail
    go_ret
    exact ⟨by rw [HR.out]; simp, t2⟩
end Go.Proofs.Ytkhoipeblakgiaa
