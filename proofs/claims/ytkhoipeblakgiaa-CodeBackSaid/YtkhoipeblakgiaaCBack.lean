/-
  STATEMENT: CodeBack: what may be is laid, and read back: the walk. Conditions: none.
-/
import Derived.Test.YtkhoipeblakgiaaCBackP
namespace Go.Proofs.Ytkhoipeblakgiaa
open Go.RowKit Go.Tcn
set_option linter.unusedVariables false
set_option linter.unusedSimpArgs false

set_option maxRecDepth 100000 in
set_option maxHeartbeats 4000000 in
theorem codeBack_walk (W : World) (o a b c : Int) (ho : I6 o) (ha : I6 a) (hb : I6 b) (hc : I6 c) (u : Value) (mo : List Int) (hm : Src W [] u mo.length (bys mo)) (hmb : Byt mo) (hml : mo.length ≤ 140737488351232) :
    Calls Try.prog 6 #[.agg #[.int .i64 o, .int .i64 a, .int .i64 b, .int .i64 c], u] W fun e w' => e = .returned (.bool true) ∧ Tch [] W w' := by
  obtain ⟨aom, capm, rfl⟩ := hm.form
  go_enter Try.func6, Try.ntmps6
  go_wp2_with fail
  have t0 : Tch [] W (W.alloc (.cells #[.int .i64 o, .int .i64 a, .int .i64 b, .int .i64 c] 23)) := (Tch.refl [] W).alloc _
  refine (law3_instr _ o a b c ho ha hb hc).mono ?_
  rintro e w1 ⟨op, x, y, rfl, hop, hx, hy, t1⟩
  clear ho ha hb hc
  obtain ⟨V, hV⟩ : ∃ V, V = w1.alloc (.cells #[.int .i64 op, .int .i64 x, .int .i64 y] 25) := ⟨_, rfl⟩
  have tV : Tch [] w1 V := by rw [hV]; exact (Tch.refl [] w1).alloc _
  have hi : By V w1.heap.size (.int .i64 op) (.int .i64 x) (.int .i64 y) := by rw [hV]; exact By.new _ _ _ _ _
  have tWV := (t0.then t1).then tV
  have z1 := (t0.then t1).size
  go_upto_region 2 with fail
  rw [← hV]
  clear hV tV t0 t1
  generalize w1.heap.size = g at *
  go_wp2_with fail
  refine (oct_new _).mono ?_
  rintro e w2 ⟨rfl, rfl⟩
  have h2 := Wr.new V 63 5
  have t2 : Tch [] V (V.alloc (.cells #[.slice none 0 0] 63)) := (Tch.refl [] V).alloc _
  have hi2 := hi.tch t2 (by simp)
  have lg := hi.lt
  have tV2 := tWV.then t2
  go_wp2_with fail
  refine (known3 _).mono ?_
  rintro e w3 ⟨rfl, t3⟩
  have h3 := h2.tch t3 (by simp) (by simp)
  have hi3 := hi2.tch t3 (by simp)
  have tV3 := tV2.then t3
  have lW := tWV.size
  clear h2 t2 t3 hi2 hi tV2 tWV
  generalize V.heap.size = p at *
  obtain ⟨c0, c1, c2, f0, f1, f2⟩ := hi3
  have hR := fun w => code_Right op x y w hy
  cases hr : rightI op x y
  · rw [hr] at hR
    go_wp2_with fail
    refine (code_Lay_no _ p op x y hy hr).mono ?_
    rintro e w4 ⟨rfl, t4⟩
    have hi4 := (By.mk c0 c1 c2 f0 f1 f2).tch t4 (by simp)
    clear c0 c1 c2 f0 f1 f2
    obtain ⟨c0, c1, c2, f0, f1, f2⟩ := hi4
    go_wp2_with fail
    refine (hR _).mono ?_
    rintro e w5 ⟨rfl, t5⟩
    go_wp2_with fail
    go_ret
    exact ⟨rfl, (tV3.then t4).then t5⟩
  · rw [hr] at hR
    have hel := encI_length op x y
    have heb := encI_byt op x y
    have hre := readI_enc op x y hr mo
    go_wp2_with fail
    refine (code_Lay _ p p [] op x y hop hx hy hr h3 (by simp)).mono ?_
    rintro e w4 ⟨rfl, r4, h4, hr4, t4⟩
    rw [List.nil_append] at h4
    generalize encI op x y = en at *
    have lp3 := h3.lt
    have hi4 := (By.mk c0 c1 c2 f0 f1 f2).tch t4 (by simp; omega)
    have tW4 : Tch [] W w4 := tV3.trans t4 (by simp) (by intro i hi hx; simp at hx; omega)
    have hp4 : W.heap.size ≤ p ∧ W.heap.size ≤ r4 ∧ g ≠ p ∧ g ≠ r4 := by have := tV3.size; omega
    clear c0 c1 c2 f0 f1 f2 h3 t4 tV3
    have di4 := hi4
    obtain ⟨c0, c1, c2, f0, f1, f2⟩ := hi4
    go_wp2_with fail
    refine (hR _).mono ?_
    rintro e w5 ⟨rfl, t5⟩
    have h5 := h4.tch t5 (by simp) (by simp)
    have di5 := di4.tch t5 (by simp)
    have tW5 := tW4.then t5
    clear c0 c1 c2 f0 f1 f2 h4 di4 tW4 t5 hR
    go_wp2_with fail
    refine (oct_BytesS _ p _ _ h5 (by omega)).mono ?_
    rintro e w6 ⟨ao6, cap6, rfl, s6, t6⟩
    have h6 := h5.tch t6 (by simp) (by simp)
    have di6 := di5.tch t6 (by simp)
    have tW6 := tW5.then t6
    clear h5 di5 tW5 t6 s6
    go_wp2_with fail
    refine (oct_Raw _ p r4 en h6 [] _ mo (hm.tch tW6 (by simp)) (by omega)).mono ?_
    rintro e w7 ⟨rfl, r7, h7, hr7, t7⟩
    have lp6 := h6.lt
    have lr6 := h6.row_lt
    have lg6 := di6.lt
    have di7 := di6.tch t7 (by simp; omega)
    have tW7 : Tch [] W w7 := tW6.trans t7 (by simp) (by intro i hi hx; simp at hx; omega)
    clear h6 di6 t7 tW6
    have hemb := heb.append hmb
    have heml : (en ++ mo).length ≤ 140737488355328 := by simp; omega
    generalize en ++ mo = em at h7 hre hemb heml
    go_wp2_with fail
    refine (oct_BytesS _ p _ _ h7 heml).mono ?_
    rintro e w8 ⟨ao8, cap8, rfl, s8, t8⟩
    have di8 := di7.tch t8 (by simp)
    have tW8 := tW7.then t8
    clear h7 di7 t8 tW7
    go_wp2_with fail
    refine (oct_NewReader _ [] (by simp) [] _ _ s8 hemb heml).mono ?_
    rintro e w9 ⟨q, rfl, hq, h9, t9⟩
    have di9 := di8.tch t9 (by simp)
    have lg8 := di8.lt
    have zW8 := tW8.size
    have tW9 := tW8.then t9
    clear s8 di8 t9 tW8
    go_wp2_with fail
    refine (code_Read _ q [] _ _ h9 heml _ hre).mono ?_
    rintro e w10 ⟨rfl, h10, t10⟩
    have di10 := di9.tch t10 (by simp; omega)
    have tW10 : Tch [] W w10 := tW9.trans t10 (by simp) (by intro i hi hx; simp at hx; omega)
    clear h9 di9 t10 tW9 hre
    have hw : 1 ≤ en.length := hel.1
    obtain ⟨Z, hZ⟩ : ∃ Z, Z = w10.alloc (.cells #[.int .i64 op, .int .i64 x, .int .i64 y] 25) := ⟨_, rfl⟩
    have tZ : Tch [] w10 Z := by rw [hZ]; exact (Tch.refl [] w10).alloc _
    have diZ := di10.tch tZ (by simp)
    have djZ : By Z w10.heap.size (.int .i64 op) (.int .i64 x) (.int .i64 y) := by rw [hZ]; exact By.new _ _ _ _ _
    have hZr := h10.tch tZ (by simp) (by simp)
    go_upto_region 14 with fail
    rw [← hZ]
    clear hZ di10 h10
    obtain ⟨c0, c1, c2, f0, f1, f2⟩ := diZ
    obtain ⟨d0, d1, d2, g0, g1, g2⟩ := djZ
    go_wp2_with fail
    refine (oct_Left _ q _ _ _ hZr).mono ?_
    rintro e w11 ⟨rfl, rfl⟩
    go_wp2_with fail
    go_ret
    exact ⟨by simp; omega, tW10.then tZ⟩
end Go.Proofs.Ytkhoipeblakgiaa
