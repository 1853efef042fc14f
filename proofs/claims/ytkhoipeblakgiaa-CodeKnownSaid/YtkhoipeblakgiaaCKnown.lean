/-
  STATEMENT: CodeKnown: chapter 3's example, and all names: the walk. Conditions: none.
-/
import Derived.Test.YtkhoipeblakgiaaCBackP
namespace Go.Proofs.Ytkhoipeblakgiaa
open Go.RowKit Go.Tcn
set_option linter.unusedVariables false
set_option linter.unusedSimpArgs false

theorem opAt_nmAt (x : Int) (h : 1 ≤ x ∧ x ≤ 39) : opAt (nmAt x) = x := by
  have hall : ∀ k : Nat, k < 39 → opAt (nmAt ((k : Int) + 1)) = (k : Int) + 1 := by decide +kernel
  have := hall (x.toNat - 1) (by omega)
  have e : ((x.toNat - 1 : Nat) : Int) + 1 = x := by omega
  rw [e] at this
  exact this
set_option maxRecDepth 100000 in
set_option maxHeartbeats 4000000 in
theorem codeKnown_walk (w : World) : Calls Try.prog 7 #[] w fun e w' => e = .returned (.bool true) ∧ Tch [] w w' := by
  go_enter Try.func7, Try.ntmps7
  go_wp2_with fail
  go_loopw [1] (fun a wr => ∃ x : Int, -1 ≤ x ∧ x ≤ 45 ∧ a = .int .i64 x ∧ Tch [] w wr) (fun a _ => (45 - intOf a).toNat)
  case atStart => exact ⟨-1, by omega, by omega, rfl, Tch.refl _ _⟩
  case round =>
    obtain ⟨x, hx1, hx2, rfl, ht⟩ := hrel
    by_cases hx : x < 45
    · have hc1 := fun w => code_Name x w
      have hc2 := fun w => ref_Name x w
      by_cases hk : 1 ≤ x ∧ x ≤ 39
      · have hne : nmAt x ≠ [] := fun e => (nmAt_nil x).1 e hk
        have hop := opAt_nmAt x hk
        obtain ⟨c, l, hcl⟩ := List.exists_cons_of_ne_nil hne
        rw [hcl] at hc1 hc2 hop
        clear hne hcl
        have hc3 := fun w => code_Op (c :: l) w
        rw [hop] at hc3
        clear hop
        go_wp2_with fail
        refine (hc1 _).mono ?_
        rintro e w1 ⟨rfl, t1⟩
        go_wp2_with fail
        refine (hc2 _).mono ?_
        rintro e w2 ⟨rfl, t2⟩
        go_wp2_with fail
        refine (code_Operands _ _).mono ?_
        rintro e w3 ⟨rfl, rfl⟩
        go_wp2_with fail
        refine (ref_Operands _ _).mono ?_
        rintro e w3 ⟨rfl, rfl⟩
        go_wp2_with fail
        refine (hc3 _).mono ?_
        rintro e w4 ⟨rfl, t4⟩
        go_wp2_with fail
        go_roundw
        case rel => exact ⟨x + 1, by omega, by omega, rfl, ((ht.then t1).then t2).then t4⟩
        case measure => simp [intOf]; omega
      · have hn : nmAt x = [] := (nmAt_nil x).2 hk
        rw [hn] at hc1 hc2
        clear hn
        go_wp2_with fail
        refine (hc1 _).mono ?_
        rintro e w1 ⟨rfl, t1⟩
        go_wp2_with fail
        refine (hc2 _).mono ?_
        rintro e w2 ⟨rfl, t2⟩
        go_wp2_with fail
        refine (code_Operands _ _).mono ?_
        rintro e w3 ⟨rfl, rfl⟩
        go_wp2_with fail
        refine (ref_Operands _ _).mono ?_
        rintro e w3 ⟨rfl, rfl⟩
        go_wp2_with fail
        go_roundw
        case rel => exact ⟨x + 1, by omega, by omega, rfl, (ht.then t1).then t2⟩
        case measure => simp [intOf]; omega
    · go_wp2_with fail
      refine (oct_new _).mono ?_
      rintro e w1 ⟨rfl, rfl⟩
      have h1 := Wr.new wr 63 5
      have t1 : Tch [] wr (wr.alloc (.cells #[.slice none 0 0] 63)) := (Tch.refl [] wr).alloc _
      go_wp2_with fail
      refine (known3 _).mono ?_
      rintro e w2 ⟨rfl, t2⟩
      have h2 := h1.tch t2 (by simp) (by simp)
      have tw2 := (ht.then t1).then t2
      clear t1 t2 h1
      have s2 : Src w2 [] (.slice none 0 0) 0 (bys []) := ⟨.inl ⟨rfl, rfl, rfl⟩⟩
      have ta2 : Tch [] w2 w2 := Tch.refl _ _
      go_wp2_with fail
      refine (oct_NewReader _ [] (by simp) [] _ [] s2 (by intro x hx; simp at hx) (by simp)).mono ?_
      rintro e wa2 ⟨q2, rfl, hq2, hrd2, tb2⟩
      have hre2 : readI [] false = ((0, 0, 0), 7, [], true) := by decide
      go_wp2_with fail
      refine (code_Read _ q2 [] _ _ hrd2 (by simp) _ hre2).mono ?_
      rintro e wb2 ⟨rfl, _, tc2⟩
      have td2 : Tch [] w2 wb2 := (ta2.then tb2).trans tc2 (by simp) (by intro i hi hx; have := ta2.size; simp at hx; omega)
      obtain ⟨w3, hw3⟩ : ∃ w3, w3 = wb2.alloc (.cells #[.int .i64 0, .int .i64 0, .int .i64 0] 25) := ⟨_, rfl⟩
      have te2 : Tch [] w2 w3 := by rw [hw3]; exact td2.alloc _
      go_upto_region 11 with fail
      rw [← hw3]
      clear s2 ta2 hrd2 tb2 hre2 tc2 td2 hw3 hq2
      have s3 : Src (w3.alloc (.cells #[.int .u8 99] 5)) [] (.slice (some ⟨w3.heap.size, 0, none⟩) 1 1) 1 (bys [99]) := src_new w3 _ [] #[.int .u8 99] 5 1 1 (Tch.refl [] _) (by simp)
      have ta3 : Tch [] w3 (w3.alloc (.cells #[.int .u8 99] 5)) := (Tch.refl [] w3).alloc _
      go_wp2_with fail
      refine (oct_NewReader _ [] (by simp) [] _ [99] s3 (by intro x hx; simp at hx; omega) (by simp)).mono ?_
      rintro e wa3 ⟨q3, rfl, hq3, hrd3, tb3⟩
      have hre3 : readI [99] false = ((0, 0, 0), 8, [], false) := by decide
      go_wp2_with fail
      refine (code_Read _ q3 [] _ _ hrd3 (by simp) _ hre3).mono ?_
      rintro e wb3 ⟨rfl, _, tc3⟩
      have td3 : Tch [] w3 wb3 := (ta3.then tb3).trans tc3 (by simp) (by intro i hi hx; have := ta3.size; simp at hx; omega)
      obtain ⟨w4, hw4⟩ : ∃ w4, w4 = wb3.alloc (.cells #[.int .i64 0, .int .i64 0, .int .i64 0] 25) := ⟨_, rfl⟩
      have te3 : Tch [] w3 w4 := by rw [hw4]; exact td3.alloc _
      go_upto_region 12 with fail
      rw [← hw4]
      clear s3 ta3 hrd3 tb3 hre3 tc3 td3 hw4 hq3
      have s4 : Src (w4.alloc (.cells #[.int .u8 2, .int .u8 99] 5)) [] (.slice (some ⟨w4.heap.size, 0, none⟩) 2 2) 2 (bys [2, 99]) := src_new w4 _ [] #[.int .u8 2, .int .u8 99] 5 2 2 (Tch.refl [] _) (by simp)
      have ta4 : Tch [] w4 (w4.alloc (.cells #[.int .u8 2, .int .u8 99] 5)) := (Tch.refl [] w4).alloc _
      go_wp2_with fail
      refine (oct_NewReader _ [] (by simp) [] _ [2, 99] s4 (by intro x hx; simp at hx; omega) (by simp)).mono ?_
      rintro e wa4 ⟨q4, rfl, hq4, hrd4, tb4⟩
      have hre4 : readI [2, 99] false = ((0, 0, 0), 9, [], false) := by decide
      go_wp2_with fail
      refine (code_Read _ q4 [] _ _ hrd4 (by simp) _ hre4).mono ?_
      rintro e wb4 ⟨rfl, _, tc4⟩
      have td4 : Tch [] w4 wb4 := (ta4.then tb4).trans tc4 (by simp) (by intro i hi hx; have := ta4.size; simp at hx; omega)
      obtain ⟨w5, hw5⟩ : ∃ w5, w5 = wb4.alloc (.cells #[.int .i64 0, .int .i64 0, .int .i64 0] 25) := ⟨_, rfl⟩
      have te4 : Tch [] w4 w5 := by rw [hw5]; exact td4.alloc _
      go_upto_region 13 with fail
      rw [← hw5]
      clear s4 ta4 hrd4 tb4 hre4 tc4 td4 hw5 hq4
      have s5 : Src (w5.alloc (.cells #[.int .u8 27, .int .u8 3] 5)) [] (.slice (some ⟨w5.heap.size, 0, none⟩) 2 2) 2 (bys [27, 3]) := src_new w5 _ [] #[.int .u8 27, .int .u8 3] 5 2 2 (Tch.refl [] _) (by simp)
      have ta5 : Tch [] w5 (w5.alloc (.cells #[.int .u8 27, .int .u8 3] 5)) := (Tch.refl [] w5).alloc _
      go_wp2_with fail
      refine (oct_NewReader _ [] (by simp) [] _ [27, 3] s5 (by intro x hx; simp at hx; omega) (by simp)).mono ?_
      rintro e wa5 ⟨q5, rfl, hq5, hrd5, tb5⟩
      have hre5 : readI [27, 3] false = ((0, 0, 0), 7, [], true) := by decide
      go_wp2_with fail
      refine (code_Read _ q5 [] _ _ hrd5 (by simp) _ hre5).mono ?_
      rintro e wb5 ⟨rfl, _, tc5⟩
      have td5 : Tch [] w5 wb5 := (ta5.then tb5).trans tc5 (by simp) (by intro i hi hx; have := ta5.size; simp at hx; omega)
      obtain ⟨w6, hw6⟩ : ∃ w6, w6 = wb5.alloc (.cells #[.int .i64 0, .int .i64 0, .int .i64 0] 25) := ⟨_, rfl⟩
      have te5 : Tch [] w5 w6 := by rw [hw6]; exact td5.alloc _
      go_upto_region 14 with fail
      rw [← hw6]
      clear s5 ta5 hrd5 tb5 hre5 tc5 td5 hw6 hq5

      have h6 := h2.tch (((te2.then te3).then te4).then te5) (by simp) (by simp)
      have tw6 := tw2.then (((te2.then te3).then te4).then te5)
      clear te2 te3 te4 te5 h2 tw2
      generalize wr.heap.size = p at *
      go_wp2_with fail
      refine (code_Lay_no _ p 0 0 0 (by omega) (by decide)).mono ?_
      rintro e w7 ⟨rfl, t7⟩
      have h7 := h6.tch t7 (by simp) (by simp)
      go_wp2_with fail
      refine (oct_BytesS _ p _ _ h7 (by simp)).mono ?_
      rintro e w8 ⟨ao, cap, rfl, s8, t8⟩
      clear s8
      go_wp2_with fail
      refine (code_Lay_nil _ 39 0 0).mono ?_
      rintro e w9 ⟨rfl, t9⟩
      go_wp2_with fail
      go_ret
      exact ⟨rfl, ((tw6.then t7).then t8).then t9⟩
end Go.Proofs.Ytkhoipeblakgiaa
