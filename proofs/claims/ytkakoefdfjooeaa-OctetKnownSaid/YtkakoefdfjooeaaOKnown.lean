/-
  STATEMENT: OctetKnown: chapter 1's example, and more: the walk. Conditions: none.
-/
import Derived.Test.YtkakoefdfjooeaaOctKnown
namespace Go.Proofs.Ytkakoefdfjooeaa
open Go.RowKit Go.Tcn
set_option linter.unusedVariables false
set_option linter.unusedSimpArgs false
theorem make_bytes_lit (n : Nat) (hn : n ≤ 1000) (w : World) : (Instr.makeSlice 27 (.int .i64 (n : Int)) (.int .i64 (n : Int))).run Try.prog w = .ok (.slice (some ⟨w.heap.size, 0, none⟩) n n) (w.alloc (.cells (madeCells #[.int .u8 0] n) 5)) := by
  obtain ⟨i0, hi, hz0, hz1, hz2⟩ := info_parts info_u8
  have h := run_make (P := Try.prog) w 27 5 i0 (.int .u8 0) Try.underlying27 hi hz0 .i64 .i64 (n : Int) (n : Int) (by omega) (Int.le_refl _) (by rw [hz2]; omega) (by omega)
  simpa [hz1, Value.cells] using h
theorem made_lit (n : Nat) : (madeCells #[Value.int .u8 0] n).toList = bys (List.replicate n 0) := by
  have := made_bytes n
  rw [Nat.mul_one] at this
  exact this
set_option maxRecDepth 100000 in
set_option maxHeartbeats 2000000 in
theorem octetKnown_walk (w : World) : Calls Try.prog 6 #[] w fun e w' => e = .returned (.bool true) ∧ Tch [] w w' := by
  have mk6 : ∀ wx : World, (Instr.makeSlice 27 (.int .i64 256) (.int .i64 256)).run Try.prog wx = .ok (.slice (some ⟨wx.heap.size, 0, none⟩) 256 256) (wx.alloc (.cells (madeCells #[.int .u8 0] 256) 5)) := make_bytes_lit 256 (by omega)
  have mk5 : ∀ wx : World, (Instr.makeSlice 27 (.int .i64 255) (.int .i64 255)).run Try.prog wx = .ok (.slice (some ⟨wx.heap.size, 0, none⟩) 255 255) (wx.alloc (.cells (madeCells #[.int .u8 0] 255) 5)) := make_bytes_lit 255 (by omega)
  obtain ⟨C6, hC6⟩ : ∃ C, madeCells #[.int .u8 0] 256 = C := ⟨_, rfl⟩
  obtain ⟨C5, hC5⟩ : ∃ C, madeCells #[.int .u8 0] 255 = C := ⟨_, rfl⟩
  rw [hC6] at mk6
  rw [hC5] at mk5
  have HC6 := Lib.hid hC6; have HC5 := Lib.hid hC5; clear hC6 hC5
  have s0 : Src (w.alloc (.cells #[.int .u8 255, .int .u8 255, .int .u8 255, .int .u8 254, .int .u8 1, .int .u8 2] 5)) [] (.slice (some ⟨w.heap.size, 0, none⟩) 6 6) 6 (bys [255, 255, 255, 254, 1, 2]) :=
    src_new w _ [] #[.int .u8 255, .int .u8 255, .int .u8 255, .int .u8 254, .int .u8 1, .int .u8 2] 5 6 6 (Tch.refl [] _) (by simp)
  have b0 : Byt [255, 255, 255, 254, 1, 2] := by intro x hx; simp at hx; omega
  have t0 : Tch [] w (w.alloc (.cells #[.int .u8 255, .int .u8 255, .int .u8 255, .int .u8 254, .int .u8 1, .int .u8 2] 5)) := (Tch.refl [] w).alloc _
  go_enter Try.func6, Try.ntmps6
  go_wp2_with fail
  refine (oct_NewReader _ [] (by simp) [] _ [255, 255, 255, 254, 1, 2] s0 b0 (by simp)).mono ?_
  rintro e w1 ⟨p, rfl, hp, h1, t1⟩
  clear s0 b0
  go_wp2_with fail
  refine (oct_new _).mono ?_
  rintro e w2 ⟨rfl, rfl⟩
  have hq := Wr.new w1 62 5
  have t2 : Tch [] w1 (w1.alloc (.cells #[.slice none 0 0] 62)) := (Tch.refl [] w1).alloc _
  have hplt := h1.lt
  have h2 := (h1.mono (L' := [w1.heap.size]) (by simp)).tch t2 (by simp) (by simp)
  go_wp2_with fail
  refine (oct_known _).mono ?_
  rintro e w3 ⟨rfl, t3⟩
  have h3 := h2.tch t3 (by simp) (by simp)
  have hq3 := hq.tch t3 (by simp) (by simp)
  obtain ⟨q, hqe⟩ : ∃ q, w1.heap.size = q := ⟨_, rfl⟩
  rw [hqe] at h3 hq3 hplt
  simp only [hqe]
  have tq : Tch [] w w3 := ((t0.then t1).then t2).then t3
  have hqw : w.heap.size ≤ q := by have := t0.size; have := t1.size; omega
  have hpw : w.heap.size ≤ p := by have := t0.size; omega
  clear hqe h1 h2 hq t0 t1 t2 t3 hp
  go_wp2_with fail
  refine (oct_RS32 _ _ _ _ _ h3 (by simp)).mono ?_
  rintro e w4 ⟨rfl, h4, t4⟩
  have e4 : s32 (beN (rdOut [255, 255, 255, 254, 1, 2] false 4)) = -2 := by decide
  have r4 : rdRest [255, 255, 255, 254, 1, 2] false 4 = [1, 2] := by decide
  have k4 : (!rdOk [255, 255, 255, 254, 1, 2] false 4) = false := by decide
  rw [r4, k4] at h4
  rw [e4]
  have hq4 := hq3.tch t4 (by simp; omega) (by simp; omega)
  clear h3 hq3 e4 r4 k4
  go_wp2_with fail
  refine (oct_RU16 _ _ _ _ _ h4 (by simp)).mono ?_
  rintro e w5 ⟨rfl, h5, t5⟩
  have e5 : beN (rdOut [1, 2] false 2) = 258 := by decide
  have r5 : rdRest [1, 2] false 2 = [] := by decide
  have k5 : (!rdOk [1, 2] false 2) = false := by decide
  rw [r5, k5] at h5
  rw [e5]
  have hq5 := hq4.tch t5 (by simp; omega) (by simp; omega)
  clear h4 hq4 e5 r5 k5
  go_wp2_with fail
  refine (oct_RU8 _ _ _ _ _ h5 (by simp)).mono ?_
  rintro e w6 ⟨rfl, h6, t6⟩
  have e6 : beN (rdOut [] false 1) = 0 := by decide
  have r6 : rdRest [] false 1 = [] := by decide
  have k6 : (!rdOk [] false 1) = true := by decide
  rw [r6, k6] at h6
  rw [e6]
  have hq6 := hq5.tch t6 (by simp; omega) (by simp; omega)
  have tw6 : Tch [p] w w6 := ((tq.trans (M := [p]) t4 (by simp) (by simp)).trans (M := [p]) t5 (by simp) (by simp)).trans t6 (by simp) (by simp)
  clear h5 hq5 e6 r6 k6
  go_wp2_with fail
  refine (oct_Lack _ _ _ _ _ h6).mono ?_
  rintro e w' ⟨rfl, rfl⟩
  go_wp2_with fail
  refine (oct_Left _ _ _ _ _ h6).mono ?_
  rintro e w' ⟨rfl, rfl⟩
  have ta : Tch [] w6 (w6.alloc (.cells C6 5)) := (Tch.refl [] w6).alloc _
  have hq7 := hq6.tch ta (by simp) (by simp)
  have hql := hq6.lt
  have s7 : Src (w6.alloc (.cells C6 5)) [q] (.slice (some ⟨w6.heap.size, 0, none⟩) 256 256) (List.replicate 256 (0 : Int)).length (bys (List.replicate 256 0)) := by
    have := src_new w6 _ [q] C6 5 256 256 (Tch.refl [] (w6.alloc (.cells C6 5))) (by simp; omega)
    rw [← HC6.out, made_lit] at this
    rw [List.length_replicate, ← HC6.out]
    exact this
  go_wp2_with fail
  refine (oct_Short _ _ _ _ hq7 [q] _ _ s7 (by simp) (by simp) (by simp) (by simp)).mono ?_
  rintro e w8 ⟨rfl, r8, h8, hr8, t8⟩
  have e8 : shortN [] (List.replicate 256 0) = [] := by simp [shortN]
  rw [e8] at h8
  clear s7 hq7 e8
  go_wp2_with fail
  refine (oct_Bytes _ _ _ _ h8 (by simp)).mono ?_
  rintro e w9 ⟨ao9, c9, rfl, _, _, t9⟩
  have h9 := h8.tch t9 (by simp) (by simp)
  have tb : Tch [] w9 (w9.alloc (.cells C5 5)) := (Tch.refl [] w9).alloc _
  have h10 := h9.tch tb (by simp) (by simp)
  have hl9 := h9.lt
  have hl9' := h9.row_lt
  have s10 : Src (w9.alloc (.cells C5 5)) [q, r8] (.slice (some ⟨w9.heap.size, 0, none⟩) 255 255) (List.replicate 255 (0 : Int)).length (bys (List.replicate 255 0)) := by
    have := src_new w9 _ [q, r8] C5 5 255 255 (Tch.refl [] (w9.alloc (.cells C5 5))) (by simp; omega)
    rw [← HC5.out, made_lit] at this
    rw [List.length_replicate, ← HC5.out]
    exact this
  go_wp2_with fail
  refine (oct_Short _ _ _ _ h10 [q, r8] _ _ s10 (by simp) (by simp) (by simp) (by simp)).mono ?_
  rintro e w11 ⟨rfl, r11, h11, hr11, t11⟩
  have e11 : (shortN [] (List.replicate 255 0)).length = 256 := by simp [shortN, putN]
  generalize shortN [] (List.replicate 255 0) = m11 at h11 e11
  clear s10 h10
  go_wp2_with fail
  refine (oct_Bytes _ _ _ _ h11 (by omega)).mono ?_
  rintro e w12 ⟨ao12, c12, rfl, _, _, t12⟩
  rw [e11]
  clear h11 e11 mk5 mk6
  go_wp2
  go_ret
  refine ⟨rfl, ?_⟩
  have u1 : Tch [p, q] w w8 := (tw6.alloc (.cells C6 5)).trans t8 (by intro i hi hx; simp at hx ⊢; omega) (by intro i hi hx; simp at hx ⊢; omega)
  have u2 : Tch [p, q] w (w9.alloc (.cells C5 5)) := (u1.trans (M := [p, q]) t9 (fun _ _ x => x) (by simp)).alloc _
  have u3 : Tch [p, q, r8] w w11 := u2.trans t11 (by intro i hi hx; simp at hx ⊢; omega) (by intro i hi hx; simp at hx ⊢; omega)
  refine (u3.trans t12 ?_ (by simp))
  intro i hi hx
  simp at hx
  have := tq.size
  have := t4.size; have := t5.size; have := t6.size
  rcases hr8 with h | h
  · omega
  · simp at h; omega
end Go.Proofs.Ytkakoefdfjooeaa
