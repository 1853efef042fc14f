/-
  STATEMENT: ImageKnown: chapter 4's example, and more: the walk. Conditions: utf8's tables as they are laid.
-/
import Derived.Test.YtapephelfijcbaaDoorImy
namespace Go.Proofs.YtapephelfijcbaaDoor
open Go.RowKit Go.Tcn
set_option linter.unusedVariables false
set_option linter.unusedSimpArgs false
set_option maxRecDepth 100000 in
theorem no_ok : imgB noImg = false := by decide +kernel
theorem no_z : ImgZ noImg := by simp [ImgZ, noImg]
/-- Reading what is refused. -/
theorem im_ReadE (w : World) (x : Value) (b : List Int) (L' : List Nat) (hx : Src w L' x b.length (bys b)) (hbt : Byt b) (hbl : b.length ≤ 140737488355328) (hV : ∀ nm w', nm.length ≤ 16 → Tch [] w w' → Calls Tryd.prog 40 #[.string ⟨nm.toArray⟩] w' fun e w'' => e = .returned (.bool (Lib.validD nm)) ∧ Tch [] w' w'') (er : Int) (hr : readImg b = (noImg, er)) :
    Calls Tryd.prog 8 #[x] w fun e w' => ∃ p1 c1 p2 c2 p3 c3 p4 c4, e = .returned (.tuple #[.agg #[.string ⟨#[]⟩, .slice p1 0 c1, .slice p2 0 c2, .slice p3 0 c3, .slice p4 0 c4], .int .i64 er]) ∧ Tch [] w w' := by
  have h := im_Read w x b L' hx hbt hbl hV
  rw [hr] at h
  refine h.mono ?_
  rintro e w' ⟨vf, vi, vm, ve, rfl, r1, r2, r3, r4, _, t⟩
  obtain ⟨p1, c1, rfl⟩ : ∃ p c, vf = .slice p 0 c := Src.form r1
  obtain ⟨p2, c2, rfl⟩ : ∃ p c, vi = .slice p 0 c := RImps.form r2
  obtain ⟨p3, c3, rfl⟩ : ∃ p c, vm = .slice p 0 c := RMths.form r3
  obtain ⟨p4, c4, rfl⟩ : ∃ p c, ve = .slice p 0 c := Src.form r4
  exact ⟨p1, c1, p2, c2, p3, c3, p4, c4, rfl, t⟩
set_option maxRecDepth 100000 in
theorem rd_a : readImg [84, 65, 67, 73] = (noImg, 7) := by decide +kernel
set_option maxRecDepth 100000 in
theorem rd_b : readImg [84, 65, 67, 73, 2] = (noImg, 5) := by decide +kernel
theorem rd_c : readImg (List.replicate 8193 0) = (noImg, 6) := by
  unfold readImg; rw [if_pos (by rw [List.length_replicate]; decide)]
set_option maxRecDepth 100000 in
theorem rd_e : readImg (smallB ++ [0]) = (noImg, 5) := by decide +kernel
set_option maxRecDepth 100000 in
theorem rd_f : readImg [] = (noImg, 7) := by decide +kernel
set_option maxRecDepth 100000 in
theorem nm_1 : nameB [98, 195, 169, 116, 97, 46, 49] = true := by decide +kernel
set_option maxRecDepth 100000 in
theorem nm_2 : nameB [] = false := by decide +kernel
set_option maxRecDepth 100000 in
theorem nm_3 : nameB [65] = false := by decide +kernel
set_option maxRecDepth 100000 in
theorem nm_4 : nameB [255] = false := by decide +kernel
set_option maxRecDepth 100000 in
theorem nm_5 : nameB [97, 196, 128] = false := by decide +kernel
theorem make_8193 (w : World) : (Instr.makeSlice 30 (.int .i64 8193) (.int .i64 8193)).run Tryd.prog w = .ok (.slice (some ⟨w.heap.size, 0, none⟩) 8193 8193) (w.alloc (.cells (madeCells #[.int .u8 0] 8193) 5)) := by
  obtain ⟨i0, hi, hz0, hz1, hz2⟩ := info_parts info_u8
  have h := run_make (P := Tryd.prog) w 30 5 i0 (.int .u8 0) Tryd.underlying30 hi hz0 .i64 .i64 8193 8193 (by omega) (Int.le_refl _) (by rw [hz2]; omega) (by omega)
  have e1 : ((8193 : Int).toNat) = 8193 := rfl
  rw [e1, hz1, Nat.mul_one] at h
  exact h
theorem im_Read_c (w : World) (V : World) (hV1 : V = w.alloc (.cells (madeCells #[.int .u8 0] 8193) 5)) (hVx : ∀ nm w', nm.length ≤ 16 → Tch [] V w' → Calls Tryd.prog 40 #[.string ⟨nm.toArray⟩] w' fun e w'' => e = .returned (.bool (Lib.validD nm)) ∧ Tch [] w' w'') : Calls Tryd.prog 8 #[.slice (some ⟨w.heap.size, 0, none⟩) 8193 8193] V fun e w' => ∃ p1 c1 p2 c2 p3 c3 p4 c4, e = .returned (.tuple #[.agg #[.string ⟨#[]⟩, .slice p1 0 c1, .slice p2 0 c2, .slice p3 0 c3, .slice p4 0 c4], .int .i64 6]) ∧ Tch [] V w' := by
  have hlen : (List.replicate 8193 (0 : Int)).length = 8193 := List.length_replicate
  have hbt : Byt (List.replicate 8193 (0 : Int)) := by
    intro x hx
    have := List.eq_of_mem_replicate hx
    subst this
    omega
  have hm := made_bytes 8193
  rw [Nat.mul_one] at hm
  have hr := rd_c
  generalize List.replicate 8193 (0 : Int) = b at *
  have hs : Src V [] (.slice (some ⟨w.heap.size, 0, none⟩) 8193 8193) b.length (bys b) := by
    rw [hlen, ← hm, hV1]
    exact src_new w _ [] _ _ 8193 8193 (Tch.refl [] _) (by simp)
  exact im_ReadE V _ b [] hs hbt (by omega) hVx _ hr
theorem info_image0 : True := trivial
set_option maxRecDepth 100000 in
set_option maxHeartbeats 16000000 in
theorem law4_ImageKnown (w : World) (hV : ∀ nm w', nm.length ≤ 16 → Tch [] w w' → Calls Tryd.prog 40 #[.string ⟨nm.toArray⟩] w' fun e w'' => e = .returned (.bool (Lib.validD nm)) ∧ Tch [] w' w'') : Calls Tryd.prog 3 #[] w fun e w' => e = .returned (.bool true) ∧ Tch [] w w' := by
  have hcv := fun (w : World) (C : Array Value) (n c : Nat) => Lib.run_convert_bytes_const (P := Tryd.prog) w 30 5 C n c Tryd.underlying30 Tryd.underlying5
  obtain ⟨i0, hi, hz0, hz1, hz2⟩ := info_parts info_u8
  have hmk := make_8193
  have hc : ∀ (W : World) (A : Obj), Tch [] w W → Calls Tryd.prog 8 #[.slice (some ⟨W.heap.size + 1, 0, none⟩) 8193 8193] ((W.alloc A).alloc (.cells (madeCells #[.int .u8 0] 8193) 5)) fun e w' => ∃ p1 c1 p2 c2 p3 c3 p4 c4, e = .returned (.tuple #[.agg #[.string ⟨#[]⟩, .slice p1 0 c1, .slice p2 0 c2, .slice p3 0 c3, .slice p4 0 c4], .int .i64 6]) ∧ Tch [] w w' := fun W A t => by
    have t2 : Tch [] w ((W.alloc A).alloc (.cells (madeCells #[.int .u8 0] 8193) 5)) := (t.alloc _).alloc _
    have h := im_Read_c (W.alloc A) _ rfl (fun nm w' h16 t' => hV nm w' h16 (t2.then t'))
    rw [World.size_alloc] at h
    refine h.mono ?_
    rintro e w' ⟨p1, c1, p2, c2, p3, c3, p4, c4, rfl, t3⟩
    exact ⟨p1, c1, p2, c2, p3, c3, p4, c4, rfl, t2.then t3⟩
  generalize madeCells #[.int .u8 0] 8193 = C8 at hmk hc
  have hcv2 : ∀ (W : World) (A : Obj) (C : Array Value) (n c : Nat), (convert 30 30 (.slice (some ⟨W.heap.size + 1, 0, none⟩) n c)).run Tryd.prog ((W.alloc A).alloc (.cells C 5)) = .ok (.slice (some ⟨W.heap.size + 1, 0, none⟩) n c) ((W.alloc A).alloc (.cells C 5 (C.size, C.size + 1))) := fun W A C n c => by
    have h := hcv (W.alloc A) C n c
    rw [World.size_alloc] at h
    exact h
  have hEm : ∀ W, Tch [] w W → Calls Tryd.prog 9 #[.agg #[.string ⟨#[]⟩, .slice none 0 0, .slice none 0 0, .slice none 0 0, .slice none 0 0]] W fun e w' => e = .returned (.tuple #[.slice none 0 0, .int .i64 1]) ∧ Tch [] W w' := fun W t => im_Lay_no W noImg (.slice none 0 0) (.slice none 0 0) (.slice none 0 0) (.slice none 0 0) (nilI _) (nilP _) (nilM _) (nilI _) no_z (fun nm w' h16 t' => hV nm w' h16 (t.then t')) no_ok
  have hEr : ∀ W, Tch [] w W → Calls Tryd.prog 13 #[.agg #[.string ⟨#[]⟩, .slice none 0 0, .slice none 0 0, .slice none 0 0, .slice none 0 0]] W fun e w' => e = .returned (.bool false) ∧ Tch [] W w' := fun W t => by
    have h := im_Right W noImg (.slice none 0 0) (.slice none 0 0) (.slice none 0 0) (.slice none 0 0) (nilI _) (nilP _) (nilM _) (nilI _) no_z (fun nm w' h16 t' => hV nm w' h16 (t.then t'))
    rw [no_ok] at h
    exact h
  have hSr : ∀ W am, Tch [] w W → RMths W [] (.slice (some am) 1 1) smallI.methods → Calls Tryd.prog 13 #[.agg #[.string ⟨#[112, 105, 110, 45, 49]⟩, .slice none 0 0, .slice none 0 0, .slice (some am) 1 1, .slice none 0 0]] W fun e w' => e = .returned (.bool true) ∧ Tch [] W w' := fun W am t rm => by
    have h := im_Right W smallI (.slice none 0 0) (.slice none 0 0) (.slice (some am) 1 1) (.slice none 0 0) (nilI _) (nilP _) rm (nilI _) small_z (fun nm w' h16 t' => hV nm w' h16 (t.then t'))
    rw [small_ok] at h
    exact h
  have hSl : ∀ W am, Tch [] w W → RMths W [] (.slice (some am) 1 1) smallI.methods → Calls Tryd.prog 9 #[.agg #[.string ⟨#[112, 105, 110, 45, 49]⟩, .slice none 0 0, .slice none 0 0, .slice (some am) 1 1, .slice none 0 0]] W fun e w' => ∃ g cap, e = .returned (.tuple #[.slice (some ⟨g, 0, none⟩) 20 cap, .int .i64 0]) ∧ w'.ownsRow 0 5 1 (.slice (some ⟨g, 0, none⟩) 20 cap) 20 (bys smallB) ∧ w.heap.size ≤ g ∧ Tch [] W w' := fun W am t rm => by
    have h := im_Lay_ok W smallI (.slice none 0 0) (.slice none 0 0) (.slice (some am) 1 1) (.slice none 0 0) (nilI _) (nilP _) rm (nilI _) small_z (fun nm w' h16 t' => hV nm w' h16 (t.then t')) small_ok
    rw [small_enc] at h
    refine h.mono ?_
    rintro e w2 ⟨ao, cap, rfl, ho, ⟨g, rfl, hg⟩, t2⟩
    have := t.size
    exact ⟨g, cap, rfl, ho, by omega, t2⟩
  have hKn : ∀ W, Tch [] w W → Calls Tryd.prog 11 #[] W fun e w' => e = .returned (.bool true) ∧ Tch [] W w' := fun W t => law4_known W (fun nm w' h16 t' => hV nm w' h16 (t.then t'))
  have hN1 : ∀ W, Tch [] w W → Calls Tryd.prog 12 #[.string ⟨#[98, 195, 169, 116, 97, 46, 49]⟩] W fun e w' => e = .returned (.bool true) ∧ Tch [] W w' := fun W t => by
    have h := im_IsName W [98, 195, 169, 116, 97, 46, 49] (fun h16 w' t' => hV _ w' h16 (t.then t'))
    rw [nm_1] at h
    exact h
  have hN2 : ∀ W, Tch [] w W → Calls Tryd.prog 12 #[.string ⟨#[]⟩] W fun e w' => e = .returned (.bool false) ∧ Tch [] W w' := fun W t => by
    have h := im_IsName W [] (fun h16 w' t' => hV _ w' h16 (t.then t'))
    rw [nm_2] at h
    exact h
  have hN3 : ∀ W, Tch [] w W → Calls Tryd.prog 12 #[.string ⟨#[65]⟩] W fun e w' => e = .returned (.bool false) ∧ Tch [] W w' := fun W t => by
    have h := im_IsName W [65] (fun h16 w' t' => hV _ w' h16 (t.then t'))
    rw [nm_3] at h
    exact h
  have hN4 : ∀ W, Tch [] w W → Calls Tryd.prog 12 #[.string ⟨#[255]⟩] W fun e w' => e = .returned (.bool false) ∧ Tch [] W w' := fun W t => by
    have h := im_IsName W [255] (fun h16 w' t' => hV _ w' h16 (t.then t'))
    rw [nm_4] at h
    exact h
  have hN5 : ∀ W, Tch [] w W → Calls Tryd.prog 12 #[.string ⟨#[97, 196, 128]⟩] W fun e w' => e = .returned (.bool false) ∧ Tch [] W w' := fun W t => by
    have h := im_IsName W [97, 196, 128] (fun h16 w' t' => hV _ w' h16 (t.then t'))
    rw [nm_5] at h
    exact h
  have hRd : ∀ (W : World) (x : Value) (b : List Int) (er : Int), Tch [] w W → Src W [] x b.length (bys b) → Byt b → b.length ≤ 140737488355328 → readImg b = (noImg, er) → Calls Tryd.prog 8 #[x] W fun e w' => ∃ p1 c1 p2 c2 p3 c3 p4 c4, e = .returned (.tuple #[.agg #[.string ⟨#[]⟩, .slice p1 0 c1, .slice p2 0 c2, .slice p3 0 c3, .slice p4 0 c4], .int .i64 er]) ∧ Tch [] W w' := fun W x b er t hs hb hl hr => im_ReadE W x b [] hs hb hl (fun nm w' h16 t' => hV nm w' h16 (t.then t')) er hr
  have hRdA : ∀ (W : World) (A : Obj) (cs : Array Value) (T : TypeId) (fr : Nat × Nat) (b : List Int) (er : Int), Tch [] w W → cs.toList = bys b → Byt b → b.length ≤ 140737488355328 → readImg b = (noImg, er) → Calls Tryd.prog 8 #[.slice (some ⟨W.heap.size + 1, 0, none⟩) b.length b.length] ((W.alloc A).alloc (.cells cs T fr)) fun e w' => ∃ p1 c1 p2 c2 p3 c3 p4 c4, e = .returned (.tuple #[.agg #[.string ⟨#[]⟩, .slice p1 0 c1, .slice p2 0 c2, .slice p3 0 c3, .slice p4 0 c4], .int .i64 er]) ∧ Tch [] w w' := fun W A cs T fr b er t hcs hb hl hr => by
    have t2 : Tch [] w ((W.alloc A).alloc (.cells cs T fr)) := (t.alloc _).alloc _
    have hs : Src ((W.alloc A).alloc (.cells cs T fr)) [] (.slice (some ⟨(W.alloc A).heap.size, 0, none⟩) b.length b.length) b.length (bys b) := by
      rw [← hcs]
      exact src_new (W.alloc A) _ [] cs T b.length b.length (Tch.refl [] _) (by simp)
    have h := hRd _ _ b er t2 hs hb hl hr
    rw [World.size_alloc] at h
    refine h.mono ?_
    rintro e w' ⟨p1, c1, p2, c2, p3, c3, p4, c4, rfl, t3⟩
    exact ⟨p1, c1, p2, c2, p3, c3, p4, c4, rfl, t2.then t3⟩
  clear hV
  go_enter Tryd.func3, Tryd.ntmps3
  go_wp2_with fail
  refine (hRd _ _ [84, 65, 67, 73] 7 ((Tch.refl [] w).alloc _) (src_new _ _ [] _ _ 4 4 (Tch.refl _ _) (by simp)) (by intro x hx; simp at hx; omega) (by decide) rd_a).mono ?_
  rintro e w1 ⟨p1, c1, p2, c2, p3, c3, p4, c4, rfl, t1⟩
  have T1 : Tch [] w w1 := ((Tch.refl [] w).alloc _).then t1
  clear t1
  go_wp2_with fail
  refine (hRdA w1 _ _ _ _ [84, 65, 67, 73, 2] 5 T1 rfl (by intro x hx; simp at hx; omega) (by decide) rd_b).mono ?_
  rintro e w2 ⟨p1, c1, p2, c2, p3, c3, p4, c4, rfl, T2⟩
  clear T1
  go_wp2_with fail
  refine (hc w2 _ T2).mono ?_
  rintro e w3 ⟨p1, c1, p2, c2, p3, c3, p4, c4, rfl, T3⟩
  clear T2
  go_wp2_with fail
  refine (hEm _ (T3.alloc _)).mono ?_
  rintro e w4 ⟨rfl, t4⟩
  have T4 : Tch [] w w4 := (T3.alloc _).then t4
  clear t4 T3
  go_wp2_with fail
  refine (law4_small w4).mono ?_
  rintro e w5 ⟨am, rfl, rm, t5⟩
  have T5 := T4.then t5
  go_wp2_with fail
  refine (hSl w5 am T5 rm).mono ?_
  rintro e w6 ⟨g, cap, rfl, ho, hg, t6⟩
  have T6 := T5.then t6
  clear t5 t6 T5 T4 rm
  have hoV : (w6.alloc (.cells #[.int .u8 0] 5)).ownsRow 0 5 1 (.slice (some ⟨g, 0, none⟩) 20 cap) 20 (bys smallB) := ownsRow_tch ho ((Tch.refl [] w6).alloc _) (by simp)
  have hsrc : Src (w6.alloc (.cells #[.int .u8 0] 5)) [] (.slice (some ⟨w6.heap.size, 0, none⟩) 1 1) 1 [.int .u8 0] := src_new _ _ [] _ _ 1 1 (Tch.refl _ _) (by simp)
  have h1c : ∀ u ∈ [Value.int .u8 0], u.oneCell' = true := bys_one [0]
  have TV : Tch [] w (w6.alloc (.cells #[.int .u8 0] 5)) := T6.alloc _
  clear ho
  go_wp2_with (at_builtin; refine wpList_append_any _ rfl (.tmp 43) (.tmp 44) 30 rfl 5 i0 (.int .u8 0) 1 1 Tryd.underlying30 hi hz0 hz1 hz2 rfl (by decide) (.slice (some ⟨g, 0, none⟩) 20 cap) 20 (bys smallB) rfl hoV [] _ 1 [.int .u8 0] rfl hsrc rfl h1c (by omega) ?_; intro ao7 cap7 w7 ho7 hgrow hat)
  have T7 : Tch [] w w7 := TV.grown hgrow (by
    intro k hk
    simp [Value.ownBlock] at hk
    right
    omega)
  have hs7 : Src w7 [] (.slice ao7 21 cap7) (smallB ++ [0]).length (bys (smallB ++ [0])) := by
    have h := src_of_owns ho7 [] (by simp)
    rw [bys_append]
    exact h
  clear ho7 hgrow hat hoV hsrc TV T6 h1c
  refine (hRd w7 (.slice ao7 21 cap7) (smallB ++ [0]) 5 T7 hs7 (by intro x hx; simp [smallB] at hx; omega) (by decide) rd_e).mono ?_
  rintro e w8 ⟨p1, c1, p2, c2, p3, c3, p4, c4, rfl, t8⟩
  have T8 := T7.then t8
  clear T7 t8 hs7
  go_wp2_with fail
  refine (hRd _ _ [] 7 (T8.alloc _) ⟨.inl ⟨rfl, rfl, rfl⟩⟩ (by intro x hx; cases hx) (by decide) rd_f).mono ?_
  rintro e w9 ⟨p1, c1, p2, c2, p3, c3, p4, c4, rfl, t9⟩
  have T9 : Tch [] w w9 := (T8.alloc _).then t9
  clear T8 t9
  go_wp2_with fail
  refine (hKn _ (T9.alloc _)).mono ?_
  rintro e x1 ⟨rfl, u1⟩
  have U1 : Tch [] w x1 := (T9.alloc _).then u1
  clear T9 u1
  go_wp2_with fail
  refine (hN1 x1 U1).mono ?_
  rintro e x2 ⟨rfl, u2⟩
  have U2 := U1.then u2
  clear U1 u2
  go_wp2_with fail
  refine (hN2 x2 U2).mono ?_
  rintro e x3 ⟨rfl, u3⟩
  have U3 := U2.then u3
  clear U2 u3
  go_wp2_with fail
  refine (hN3 x3 U3).mono ?_
  rintro e x4 ⟨rfl, u4⟩
  have U4 := U3.then u4
  clear U3 u4
  go_wp2_with fail
  refine (hN4 x4 U4).mono ?_
  rintro e x5 ⟨rfl, u5⟩
  have U5 := U4.then u5
  clear U4 u5
  go_wp2_with fail
  refine (hN5 x5 U5).mono ?_
  rintro e x6 ⟨rfl, u6⟩
  have U6 := U5.then u6
  clear U5 u6
  go_wp2_with fail
  refine (law4_small x6).mono ?_
  rintro e x7 ⟨am2, rfl, rm2, u7⟩
  have U7 := U6.then u7
  go_wp2_with fail
  refine (hSr x7 am2 U7 rm2).mono ?_
  rintro e x8 ⟨rfl, u8⟩
  have U8 := U7.then u8
  go_wp2_with fail
  refine (hEr x8 U8).mono ?_
  rintro e x9 ⟨rfl, u9⟩
  have U9 : Tch [] w x9 := U8.then u9
  go_wp2_with fail
  go_ret
  exact ⟨rfl, U9⟩
end Go.Proofs.YtapephelfijcbaaDoor
