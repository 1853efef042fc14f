/-
  CONTRACTS: Right of taciturnref1, all of it. Conditions: none.
-/
import Derived.Test.YtkhoipeblakgiaaCode4
namespace Go.Proofs.Ytkhoipeblakgiaa
open Go.RowKit Go.Tcn
set_option linter.unusedVariables false
set_option linter.unusedSimpArgs false

set_option maxRecDepth 100000 in
set_option maxHeartbeats 2000000 in
theorem ref_Right_27 (a b : Int) (w : World) : Calls Try.prog 12 #[.agg #[.int .i64 27, .int .i64 a, .int .i64 b]] w fun e w' => e = .returned (.bool (rightI 27 a b)) ∧ Tch [] w w' := by
  obtain ⟨W, hW⟩ : ∃ W, W = w.alloc (.cells #[.int .i64 27, .int .i64 a, .int .i64 b] 25) := ⟨_, rfl⟩
  have tw : Tch [] w W := by rw [hW]; exact (Tch.refl [] w).alloc _
  have c0 : W.cell? ⟨w.heap.size, 0, none⟩ = some (.int .i64 27) := by rw [hW]; simp [go_sem]
  have c1 : W.cell? ⟨w.heap.size, 1, none⟩ = some (.int .i64 a) := by rw [hW]; simp [go_sem]
  have c2 : W.cell? ⟨w.heap.size, 2, none⟩ = some (.int .i64 b) := by rw [hW]; simp [go_sem]
  obtain ⟨c, l, hN⟩ := ref_Name_some 27 (by omega) W
  have hR : rightI 27 a b = (decide (3 ≤ a ∧ a ≤ 4) && (decide (0 ≤ b ∧ b ≤ 2) || decide (4 ≤ b ∧ b ≤ 6))) := by unfold rightI limLo limHi; rw [Bool.eq_iff_iff]; simp; omega
  have HR := Lib.hid hR; clear hR
  have hop := fun w => ref_Operands 27 w
  have e1 : opndN 27 = 2 := by decide
  rw [e1] at hop
  have v1 := fun w => ref_within a 3 4 w
  have v2 := fun w => ref_within b 0 2 w
  have v3 := fun w => ref_within b 4 6 w
  generalize decide (3 ≤ a ∧ a ≤ 4) = x at *
  generalize decide (0 ≤ b ∧ b ≤ 2) = y at *
  generalize decide (4 ≤ b ∧ b ≤ 6) = z at *
  cases x
  · go_enter Try.func12, Try.ntmps12
    go_wp2_with fail
    rw [← hW]
    refine hN.mono ?_
    rintro e w1 ⟨rfl, t1⟩
    have d0 := tch_cell t1 c0
    have d1 := tch_cell t1 c1
    have d2 := tch_cell t1 c2
    have t2 := tw.then t1
    clear hN c0 c1 c2 hW
    go_wp2_with fail
    refine (hop _).mono ?_
    rintro e w' ⟨rfl, rfl⟩
    go_wp2_with fail
    refine (v1 _).mono ?_
    rintro e w' ⟨rfl, rfl⟩
    go_wp2_with fail
    go_ret
    exact ⟨by rw [HR.out]; rfl, t2⟩
  · cases y
    · go_enter Try.func12, Try.ntmps12
      go_wp2_with fail
      rw [← hW]
      refine hN.mono ?_
      rintro e w1 ⟨rfl, t1⟩
      have d0 := tch_cell t1 c0
      have d1 := tch_cell t1 c1
      have d2 := tch_cell t1 c2
      have t2 := tw.then t1
      clear hN c0 c1 c2 hW
      go_wp2_with fail
      refine (hop _).mono ?_
      rintro e w' ⟨rfl, rfl⟩
      go_wp2_with fail
      refine (v1 _).mono ?_
      rintro e w' ⟨rfl, rfl⟩
      go_wp2_with fail
      refine (v2 _).mono ?_
      rintro e w' ⟨rfl, rfl⟩
      go_wp2_with fail
      refine (v3 _).mono ?_
      rintro e w' ⟨rfl, rfl⟩
      go_wp2_with fail
      go_ret
      exact ⟨by rw [HR.out]; simp, t2⟩
    · go_enter Try.func12, Try.ntmps12
      go_wp2_with fail
      rw [← hW]
      refine hN.mono ?_
      rintro e w1 ⟨rfl, t1⟩
      have d0 := tch_cell t1 c0
      have d1 := tch_cell t1 c1
      have d2 := tch_cell t1 c2
      have t2 := tw.then t1
      clear hN c0 c1 c2 hW
      go_wp2_with fail
      refine (hop _).mono ?_
      rintro e w' ⟨rfl, rfl⟩
      go_wp2_with fail
      refine (v1 _).mono ?_
      rintro e w' ⟨rfl, rfl⟩
      go_wp2_with fail
      refine (v2 _).mono ?_
      rintro e w' ⟨rfl, rfl⟩
      go_wp2_with fail
      go_ret
      exact ⟨by rw [HR.out]; simp, t2⟩

set_option maxRecDepth 100000 in
set_option maxHeartbeats 2000000 in
theorem ref_Right_rest (op a b : Int) (h : 1 ≤ op ∧ op ≤ 39) (hne : op ≠ 1 ∧ op ≠ 2 ∧ op ≠ 3 ∧ op ≠ 23 ∧ op ≠ 24 ∧ op ≠ 25 ∧ op ≠ 27 ∧ op ≠ 33 ∧ op ≠ 34 ∧ op ≠ 35 ∧ op ≠ 36 ∧ op ≠ 37 ∧ op ≠ 38) (w : World) : Calls Try.prog 12 #[.agg #[.int .i64 op, .int .i64 a, .int .i64 b]] w fun e w' => e = .returned (.bool (rightI op a b)) ∧ Tch [] w w' := by
  obtain ⟨W, hW⟩ : ∃ W, W = w.alloc (.cells #[.int .i64 op, .int .i64 a, .int .i64 b] 25) := ⟨_, rfl⟩
  have tw : Tch [] w W := by rw [hW]; exact (Tch.refl [] w).alloc _
  have c0 : W.cell? ⟨w.heap.size, 0, none⟩ = some (.int .i64 op) := by rw [hW]; simp [go_sem]
  have c1 : W.cell? ⟨w.heap.size, 1, none⟩ = some (.int .i64 a) := by rw [hW]; simp [go_sem]
  have c2 : W.cell? ⟨w.heap.size, 2, none⟩ = some (.int .i64 b) := by rw [hW]; simp [go_sem]
  obtain ⟨c, l, hN⟩ := ref_Name_some op h W
  have l1 : limLo op = 0 := by unfold limLo; (repeat rw [if_neg (by omega)])
  have l2 : limHi op = 0 := by unfold limHi; (repeat rw [if_neg (by omega)])
  have hR : rightI op a b = (a == 0 && b == 0) := by have h27 : ¬ op = 27 := (by omega); unfold rightI; rw [l1, l2, Bool.eq_iff_iff]; simp [h27]; omega
  clear l1 l2
  have HR := Lib.hid hR; clear hR
  have hop := fun w => ref_Operands op w
  have e1 : opndN op = 0 := by unfold opndN; rw [if_neg (by omega), if_neg (by omega)]
  rw [e1] at hop
  clear e1
  have hz : (op != 27) = true := by rw [bne_iff_ne]; omega
  have k1 : (op == 1) = false := beq_eq_false_iff_ne.2 (by omega)
  have k2 : (op == 2) = false := beq_eq_false_iff_ne.2 (by omega)
  have k3 : (op == 3) = false := beq_eq_false_iff_ne.2 (by omega)
  have k23 : (op == 23) = false := beq_eq_false_iff_ne.2 (by omega)
  have k24 : (op == 24) = false := beq_eq_false_iff_ne.2 (by omega)
  have k25 : (op == 25) = false := beq_eq_false_iff_ne.2 (by omega)
  have k27 : (op == 27) = false := beq_eq_false_iff_ne.2 (by omega)
  have k33 : (op == 33) = false := beq_eq_false_iff_ne.2 (by omega)
  have k34 : (op == 34) = false := beq_eq_false_iff_ne.2 (by omega)
  have k35 : (op == 35) = false := beq_eq_false_iff_ne.2 (by omega)
  have k36 : (op == 36) = false := beq_eq_false_iff_ne.2 (by omega)
  have k37 : (op == 37) = false := beq_eq_false_iff_ne.2 (by omega)
  have k38 : (op == 38) = false := beq_eq_false_iff_ne.2 (by omega)
  clear hne h
  cases hb : (b == 0)
  · have hb2 : (b != 0) = true := by rw [bne, hb]; rfl
    have HB := Lib.hid hb; clear hb
    go_enter Try.func12, Try.ntmps12
    go_wp2_with fail
    rw [← hW]
    refine hN.mono ?_
    rintro e w1 ⟨rfl, t1⟩
    have d0 := tch_cell t1 c0
    have d1 := tch_cell t1 c1
    have d2 := tch_cell t1 c2
    have t2 := tw.then t1
    clear hN c0 c1 c2 hW
    go_wp2_with fail
    go_ret
    exact ⟨by rw [HR.out, HB.out, Bool.and_false]; rfl, t2⟩
  · obtain rfl : b = 0 := by simpa using hb
    clear hb
    cases ha : (a == 0)
    · have ha2 : (a != 0) = true := by rw [bne, ha]; rfl
      have HA := Lib.hid ha; clear ha
      go_enter Try.func12, Try.ntmps12
      go_wp2_with fail
      rw [← hW]
      refine hN.mono ?_
      rintro e w1 ⟨rfl, t1⟩
      have d0 := tch_cell t1 c0
      have d1 := tch_cell t1 c1
      have d2 := tch_cell t1 c2
      have t2 := tw.then t1
      clear hN c0 c1 c2 hW
      go_wp2_with fail
      refine (hop _).mono ?_
      rintro e w' ⟨rfl, rfl⟩
      go_wp2_with fail
      go_ret
      exact ⟨by rw [HR.out, HA.out, Bool.false_and]; rfl, t2⟩
    · obtain rfl : a = 0 := by simpa using ha
      clear ha
      go_enter Try.func12, Try.ntmps12
      go_wp2_with fail
      rw [← hW]
      refine hN.mono ?_
      rintro e w1 ⟨rfl, t1⟩
      have d0 := tch_cell t1 c0
      have d1 := tch_cell t1 c1
      have d2 := tch_cell t1 c2
      have t2 := tw.then t1
      clear hN c0 c1 c2 hW
      go_wp2_with fail
      refine (hop _).mono ?_
      rintro e w' ⟨rfl, rfl⟩
      go_wp2_with fail
      go_ret
      exact ⟨by rw [HR.out]; rfl, t2⟩
set_option maxRecDepth 100000 in
set_option maxHeartbeats 2000000 in
theorem ref_Right_no (op a b : Int) (h : ¬ (1 ≤ op ∧ op ≤ 39)) (w : World) : Calls Try.prog 12 #[.agg #[.int .i64 op, .int .i64 a, .int .i64 b]] w fun e w' => e = .returned (.bool (rightI op a b)) ∧ Tch [] w w' := by
  obtain ⟨W, hW⟩ : ∃ W, W = w.alloc (.cells #[.int .i64 op, .int .i64 a, .int .i64 b] 25) := ⟨_, rfl⟩
  have tw : Tch [] w W := by rw [hW]; exact (Tch.refl [] w).alloc _
  have c0 : W.cell? ⟨w.heap.size, 0, none⟩ = some (.int .i64 op) := by rw [hW]; simp [go_sem]
  have c1 : W.cell? ⟨w.heap.size, 1, none⟩ = some (.int .i64 a) := by rw [hW]; simp [go_sem]
  have c2 : W.cell? ⟨w.heap.size, 2, none⟩ = some (.int .i64 b) := by rw [hW]; simp [go_sem]
  have hN := ref_Name_none op h W
  have hR : rightI op a b = false := by unfold rightI; simp; omega
  have HR := Lib.hid hR; clear hR
  clear h
  go_enter Try.func12, Try.ntmps12
  go_wp2_with fail
  rw [← hW]
  refine hN.mono ?_
  rintro e w1 ⟨rfl, t1⟩
  have d0 := tch_cell t1 c0
  have d1 := tch_cell t1 c1
  have d2 := tch_cell t1 c2
  have t2 := tw.then t1
  clear hN c0 c1 c2 hW
  go_wp2_with fail
  go_ret
  exact ⟨by rw [HR.out]; rfl, t2⟩
theorem ref_Right (op a b : Int) (w : World) : Calls Try.prog 12 #[.agg #[.int .i64 op, .int .i64 a, .int .i64 b]] w fun e w' => e = .returned (.bool (rightI op a b)) ∧ Tch [] w w' := by
  by_cases h : 1 ≤ op ∧ op ≤ 39
  · by_cases hne : op ≠ 1 ∧ op ≠ 2 ∧ op ≠ 3 ∧ op ≠ 23 ∧ op ≠ 24 ∧ op ≠ 25 ∧ op ≠ 27 ∧ op ≠ 33 ∧ op ≠ 34 ∧ op ≠ 35 ∧ op ≠ 36 ∧ op ≠ 37 ∧ op ≠ 38
    · exact ref_Right_rest op a b h hne w
    · have hc : op = 1 ∨ op = 2 ∨ op = 3 ∨ op = 23 ∨ op = 24 ∨ op = 25 ∨ op = 27 ∨ op = 33 ∨ op = 34 ∨ op = 35 ∨ op = 36 ∨ op = 37 ∨ op = 38 := by omega
      rcases hc with rfl | rfl | rfl | rfl | rfl | rfl | rfl | rfl | rfl | rfl | rfl | rfl | rfl
      · exact ref_Right_1 a b w
      · exact ref_Right_2 a b w
      · exact ref_Right_3 a b w
      · exact ref_Right_23 a b w
      · exact ref_Right_24 a b w
      · exact ref_Right_25 a b w
      · exact ref_Right_27 a b w
      · exact ref_Right_33 a b w
      · exact ref_Right_34 a b w
      · exact ref_Right_35 a b w
      · exact ref_Right_36 a b w
      · exact ref_Right_37 a b w
      · exact ref_Right_38 a b w
  · exact ref_Right_no op a b h w
end Go.Proofs.Ytkhoipeblakgiaa
