/-
  THE 54 of VerifyKnown. Conditions: none.
-/
import Derived.Test.YtpabkjjonbhdeaaDoorHVe18
namespace Go.Proofs.YtpabkjjonbhdeaaDoor
open Go.RowKit Go.Tcn
set_option linter.unusedVariables false
set_option linter.unusedSimpArgs false
theorem l7_none (W : World) (hV : ∀ nm w', nm.length ≤ 16 → Tch [] W w' → Calls Tryd.prog 31 #[.string ⟨nm.toArray⟩] w' fun e w'' => e = .returned (.bool (Lib.validD nm)) ∧ Tch [] w' w'') :
    Calls Tryd.prog 7 #[.agg #[.string ⟨#[]⟩, .slice none 0 0, .slice none 0 0, .slice none 0 0, .slice none 0 0]] W fun e w' => e = .returned (.tuple #[.agg #[.int .i64 0, .int .i64 0], .int .i64 1]) ∧ Tch [] W w' :=
  ve_Verify W noImg _ _ _ _ nil_ints nil_imps nil_mths nil_ints (by unfold ImgZ noImg; exact ⟨by simp, by simp, by simp, by simp, by simp, by simp⟩) hV (by simp [noImg]) 9 0 0 1 ver_k0
/-- The states of an applet of one method. -/
theorem l7_states (W : World) (gm : Nat) (c : List Ins) (hm : RMths W [] (.slice (some ⟨gm, 0, none⟩) 1 1) [oneM c]) (hV : ∀ nm w', nm.length ≤ 16 → Tch [] W w' → Calls Tryd.prog 31 #[.string ⟨nm.toArray⟩] w' fun e w'' => e = .returned (.bool (Lib.validD nm)) ∧ Tch [] w' w'') (hl : 1 ≤ c.length ∧ c.length ≤ 120) (h1 : c.all insB = true) (hc : ∀ x ∈ c, 0 ≤ x.a ∧ x.b = 0) (hv : verF (oneI c) 9 = some ((0, 0), 0)) (τ : VS) (hn : c.findIdx? (fun x => !namesF (oneI c) (oneM c) x) = none) (hg : runG (oneI c) (oneM c) 9 (initF c.length) = some ((0, 0), τ)) :
    Calls Tryd.prog 10 #[.agg #[.string ⟨#[97]⟩, .slice none 0 0, .slice none 0 0, .slice (some ⟨gm, 0, none⟩) 1 1, .slice none 0 0], .int .i64 0] W fun e w' => (∃ V, e = .returned (.tuple #[.slice (some ⟨V.bs, 0, none⟩) c.length c.length, .bool true]) ∧ StR w' V c.length τ) ∧ Tch [] W w' :=
  ve_States W (oneI c) _ _ _ _ nil_ints nil_imps hm nil_ints (oneI_z c (by omega) hc) hV (fun m hm' x hx => by
    simp [oneI] at hm'
    subst hm'
    exact (hc x hx).1) 9 hv (one_right c h1 hl) 0 (by simp [oneI]) (oneM c) rfl τ (.inr ⟨hn, 9, hg⟩)
theorem l7_height (W : World) (gm : Nat) (c : List Ins) (hm : RMths W [] (.slice (some ⟨gm, 0, none⟩) 1 1) [oneM c]) (hV : ∀ nm w', nm.length ≤ 16 → Tch [] W w' → Calls Tryd.prog 31 #[.string ⟨nm.toArray⟩] w' fun e w'' => e = .returned (.bool (Lib.validD nm)) ∧ Tch [] w' w'') (hl : 1 ≤ c.length ∧ c.length ≤ 120) (h1 : c.all insB = true) (hc : ∀ x ∈ c, 0 ≤ x.a ∧ x.b = 0) (hv : verF (oneI c) 9 = some ((0, 0), 0)) (τ : VS) (hn : c.findIdx? (fun x => !namesF (oneI c) (oneM c) x) = none) (hg : runG (oneI c) (oneM c) 9 (initF c.length) = some ((0, 0), τ)) (pc : Nat) (hp : pc < c.length) :
    Calls Tryd.prog 12 #[.agg #[.string ⟨#[97]⟩, .slice none 0 0, .slice none 0 0, .slice (some ⟨gm, 0, none⟩) 1 1, .slice none 0 0], .int .i64 0, .int .i64 (pc : Int)] W fun e w' => e = .returned (.int .i64 (heightI τ pc)) ∧ Tch [] W w' :=
  ve_Height W (oneI c) _ _ _ _ nil_ints nil_imps hm nil_ints (oneI_z c (by omega) hc) hV (fun m hm' x hx => by
    simp [oneI] at hm'
    subst hm'
    exact (hc x hx).1) 9 hv (one_right c h1 hl) 0 (by simp [oneI]) (oneM c) rfl τ (.inr ⟨hn, 9, hg⟩) pc hp
set_option maxRecDepth 100000 in
set_option maxHeartbeats 16000000 in
theorem law7_VerifyKnown (w : World) (hV : ∀ nm w', nm.length ≤ 16 → Tch [] w w' → Calls Tryd.prog 31 #[.string ⟨nm.toArray⟩] w' fun e w'' => e = .returned (.bool (Lib.validD nm)) ∧ Tch [] w' w'') :
    Calls Tryd.prog 5 #[] w fun e w' => e = .returned (.bool true) ∧ Tch [] w w' := by
  have hV2 := fun (W : World) (t : Tch [] w W) nm w' h t' => hV nm w' h (t.then t')
  clear hV
  have HV := Lib.hid hV2
  clear hV2
  have h01 := l7_none w (HV.out w (Tch.refl _ _))
  go_enter Tryd.func5, Tryd.ntmps5
  go_wp2_with fail
  refine h01.mono ?_
  rintro e w03 ⟨rfl, t03⟩
  clear h01
  go_upto_region 2 with fail
  obtain ⟨W1, hW1⟩ : ∃ W, W = w03.alloc (.cells #[.int .i64 0, .int .i64 0] 34) := ⟨_, rfl⟩
  have tW1 : Tch [] w03 W1 := by rw [hW1]; exact (Tch.refl [] w03).alloc _
  obtain ⟨g1, hg1⟩ : ∃ g, g = w03.heap.size := ⟨_, rfl⟩
  rw [← hW1, ← hg1]
  clear hW1 hg1
  have TT1 : Tch [] w W1 := t03.then tW1
  have h21 : Calls Tryd.prog 11 #[.slice (some ⟨W1.heap.size, 0, none⟩) 2 2] (W1.alloc (.cells #[.int .i64 2, .int .i64 0, .int .i64 0, .int .i64 39, .int .i64 0, .int .i64 0] 24)) _ := l7_one (W1.alloc (.cells #[.int .i64 2, .int .i64 0, .int .i64 0, .int .i64 39, .int .i64 0, .int .i64 0] 24)) (some ⟨W1.heap.size, 0, none⟩) 2 [⟨2, 0, 0⟩, ⟨39, 0, 0⟩] (code_lit W1 [⟨2, 0, 0⟩, ⟨39, 0, 0⟩] #[.int .i64 2, .int .i64 0, .int .i64 0, .int .i64 39, .int .i64 0, .int .i64 0] 24 rfl)
  go_wp2_with fail
  refine h21.mono ?_
  rintro e w22 ⟨⟨gm2, rfl, hm2⟩, t22⟩
  have u2 : Tch [] W1 w22 := ((Tch.refl [] W1).alloc _).then t22
  have h22 : Calls Tryd.prog 7 #[.agg #[.string ⟨#[97]⟩, .slice none 0 0, .slice none 0 0, .slice (some ⟨gm2, 0, none⟩) 1 1, .slice none 0 0]] w22 fun e w' => e = .returned (.tuple #[.agg #[.int .i64 0, .int .i64 0], .int .i64 9]) ∧ Tch [] w22 w' := l7_ver w22 gm2 [⟨2, 0, 0⟩, ⟨39, 0, 0⟩] hm2 (HV.out w22 (TT1.then u2)) (by decide) (by decide) 9 0 0 9 ver_k1
  clear h21
  go_wp2_with fail
  refine h22.mono ?_
  rintro e w23 ⟨rfl, t23⟩
  clear h22
  go_upto_region 3 with fail
  obtain ⟨W2, hW2⟩ : ∃ W, W = w23.alloc (.cells #[.int .i64 0, .int .i64 0] 34) := ⟨_, rfl⟩
  have tW2 : Tch [] w23 W2 := by rw [hW2]; exact (Tch.refl [] w23).alloc _
  have hB2 : W2.heap[w23.heap.size]? = some (.cells #[.int .i64 0, .int .i64 0] 34 (0, 0)) := by rw [hW2]; exact heap_alloc_new w23 _
  obtain ⟨g2, hg2⟩ : ∃ g, g = w23.heap.size := ⟨_, rfl⟩
  rw [← hW2, ← hg2]
  rw [← hg2] at hB2
  clear hW2 hg2
  have TT2 : Tch [] w W2 := (TT1.then u2).then (t23.then tW2)
  have TS2 : Tch [] W1 W2 := u2.then (t23.then tW2)
  have zc2 : W2.cell? ⟨g2, 1, none⟩ = some (.int .i64 0) := by simp [World.cell?, hB2]
  have HZ2 := Lib.hid zc2
  clear zc2 hB2
  have h31 : Calls Tryd.prog 11 #[.slice (some ⟨W2.heap.size, 0, none⟩) 2 2] (W2.alloc (.cells #[.int .i64 4, .int .i64 0, .int .i64 0, .int .i64 39, .int .i64 0, .int .i64 0] 24)) _ := l7_one (W2.alloc (.cells #[.int .i64 4, .int .i64 0, .int .i64 0, .int .i64 39, .int .i64 0, .int .i64 0] 24)) (some ⟨W2.heap.size, 0, none⟩) 2 [⟨4, 0, 0⟩, ⟨39, 0, 0⟩] (code_lit W2 [⟨4, 0, 0⟩, ⟨39, 0, 0⟩] #[.int .i64 4, .int .i64 0, .int .i64 0, .int .i64 39, .int .i64 0, .int .i64 0] 24 rfl)
  go_wp2_with fail
  refine h31.mono ?_
  rintro e w32 ⟨⟨gm3, rfl, hm3⟩, t32⟩
  have u3 : Tch [] W2 w32 := ((Tch.refl [] W2).alloc _).then t32
  have h32 : Calls Tryd.prog 7 #[.agg #[.string ⟨#[97]⟩, .slice none 0 0, .slice none 0 0, .slice (some ⟨gm3, 0, none⟩) 1 1, .slice none 0 0]] w32 fun e w' => e = .returned (.tuple #[.agg #[.int .i64 0, .int .i64 0], .int .i64 10]) ∧ Tch [] w32 w' := l7_ver w32 gm3 [⟨4, 0, 0⟩, ⟨39, 0, 0⟩] hm3 (HV.out w32 (TT2.then u3)) (by decide) (by decide) 9 0 0 10 ver_k2
  clear h31
  go_wp2_with fail
  refine h32.mono ?_
  rintro e w33 ⟨rfl, t33⟩
  clear h32
  go_upto_region 4 with fail
  obtain ⟨W3, hW3⟩ : ∃ W, W = w33.alloc (.cells #[.int .i64 0, .int .i64 0] 34) := ⟨_, rfl⟩
  have tW3 : Tch [] w33 W3 := by rw [hW3]; exact (Tch.refl [] w33).alloc _
  have hB3 : W3.heap[w33.heap.size]? = some (.cells #[.int .i64 0, .int .i64 0] 34 (0, 0)) := by rw [hW3]; exact heap_alloc_new w33 _
  obtain ⟨g3, hg3⟩ : ∃ g, g = w33.heap.size := ⟨_, rfl⟩
  rw [← hW3, ← hg3]
  rw [← hg3] at hB3
  clear hW3 hg3
  have TT3 : Tch [] w W3 := (TT2.then u3).then (t33.then tW3)
  have TS3 : Tch [] W2 W3 := u3.then (t33.then tW3)
  have zc3 : W3.cell? ⟨g3, 1, none⟩ = some (.int .i64 0) := by simp [World.cell?, hB3]
  have HZ3 := Lib.hid zc3
  clear zc3 hB3
  have h41 : Calls Tryd.prog 11 #[.slice (some ⟨W3.heap.size, 0, none⟩) 3 3] (W3.alloc (.cells #[.int .i64 35, .int .i64 1, .int .i64 0, .int .i64 15, .int .i64 0, .int .i64 0, .int .i64 39, .int .i64 0, .int .i64 0] 24)) _ := l7_one (W3.alloc (.cells #[.int .i64 35, .int .i64 1, .int .i64 0, .int .i64 15, .int .i64 0, .int .i64 0, .int .i64 39, .int .i64 0, .int .i64 0] 24)) (some ⟨W3.heap.size, 0, none⟩) 3 [⟨35, 1, 0⟩, ⟨15, 0, 0⟩, ⟨39, 0, 0⟩] (code_lit W3 [⟨35, 1, 0⟩, ⟨15, 0, 0⟩, ⟨39, 0, 0⟩] #[.int .i64 35, .int .i64 1, .int .i64 0, .int .i64 15, .int .i64 0, .int .i64 0, .int .i64 39, .int .i64 0, .int .i64 0] 24 rfl)
  go_wp2_with fail
  refine h41.mono ?_
  rintro e w42 ⟨⟨gm4, rfl, hm4⟩, t42⟩
  have u4 : Tch [] W3 w42 := ((Tch.refl [] W3).alloc _).then t42
  have h42 : Calls Tryd.prog 7 #[.agg #[.string ⟨#[97]⟩, .slice none 0 0, .slice none 0 0, .slice (some ⟨gm4, 0, none⟩) 1 1, .slice none 0 0]] w42 fun e w' => e = .returned (.tuple #[.agg #[.int .i64 0, .int .i64 1], .int .i64 11]) ∧ Tch [] w42 w' := l7_ver w42 gm4 [⟨35, 1, 0⟩, ⟨15, 0, 0⟩, ⟨39, 0, 0⟩] hm4 (HV.out w42 (TT3.then u4)) (by decide) (by decide) 9 0 1 11 ver_k3
  clear h41
  go_wp2_with fail
  refine h42.mono ?_
  rintro e w43 ⟨rfl, t43⟩
  clear h42
  go_upto_region 5 with fail
  obtain ⟨W4, hW4⟩ : ∃ W, W = w43.alloc (.cells #[.int .i64 0, .int .i64 1] 34) := ⟨_, rfl⟩
  have tW4 : Tch [] w43 W4 := by rw [hW4]; exact (Tch.refl [] w43).alloc _
  have hB4 : W4.heap[w43.heap.size]? = some (.cells #[.int .i64 0, .int .i64 1] 34 (0, 0)) := by rw [hW4]; exact heap_alloc_new w43 _
  obtain ⟨g4, hg4⟩ : ∃ g, g = w43.heap.size := ⟨_, rfl⟩
  rw [← hW4, ← hg4]
  rw [← hg4] at hB4
  clear hW4 hg4
  have TT4 : Tch [] w W4 := (TT3.then u4).then (t43.then tW4)
  have TS4 : Tch [] W3 W4 := u4.then (t43.then tW4)
  have zc4 : W4.cell? ⟨g4, 1, none⟩ = some (.int .i64 1) := by simp [World.cell?, hB4]
  have HZ4 := Lib.hid zc4
  clear zc4 hB4
  have h51 : Calls Tryd.prog 11 #[.slice (some ⟨W4.heap.size, 0, none⟩) 1 1] (W4.alloc (.cells #[.int .i64 1, .int .i64 0, .int .i64 0] 24)) _ := l7_one (W4.alloc (.cells #[.int .i64 1, .int .i64 0, .int .i64 0] 24)) (some ⟨W4.heap.size, 0, none⟩) 1 [⟨1, 0, 0⟩] (code_lit W4 [⟨1, 0, 0⟩] #[.int .i64 1, .int .i64 0, .int .i64 0] 24 rfl)
  go_wp2_with fail
  refine h51.mono ?_
  rintro e w52 ⟨⟨gm5, rfl, hm5⟩, t52⟩
  have u5 : Tch [] W4 w52 := ((Tch.refl [] W4).alloc _).then t52
  have h52 : Calls Tryd.prog 7 #[.agg #[.string ⟨#[97]⟩, .slice none 0 0, .slice none 0 0, .slice (some ⟨gm5, 0, none⟩) 1 1, .slice none 0 0]] w52 fun e w' => e = .returned (.tuple #[.agg #[.int .i64 0, .int .i64 0], .int .i64 13]) ∧ Tch [] w52 w' := l7_ver w52 gm5 [⟨1, 0, 0⟩] hm5 (HV.out w52 (TT4.then u5)) (by decide) (by decide) 9 0 0 13 ver_k4
  clear h51
  go_wp2_with fail
  refine h52.mono ?_
  rintro e w53 ⟨rfl, t53⟩
  clear h52
  go_upto_region 6 with fail
  obtain ⟨W5, hW5⟩ : ∃ W, W = w53.alloc (.cells #[.int .i64 0, .int .i64 0] 34) := ⟨_, rfl⟩
  have tW5 : Tch [] w53 W5 := by rw [hW5]; exact (Tch.refl [] w53).alloc _
  have hB5 : W5.heap[w53.heap.size]? = some (.cells #[.int .i64 0, .int .i64 0] 34 (0, 0)) := by rw [hW5]; exact heap_alloc_new w53 _
  obtain ⟨g5, hg5⟩ : ∃ g, g = w53.heap.size := ⟨_, rfl⟩
  rw [← hW5, ← hg5]
  rw [← hg5] at hB5
  clear hW5 hg5
  have TT5 : Tch [] w W5 := (TT4.then u5).then (t53.then tW5)
  have TS5 : Tch [] W4 W5 := u5.then (t53.then tW5)
  have zc5 : W5.cell? ⟨g5, 1, none⟩ = some (.int .i64 0) := by simp [World.cell?, hB5]
  have HZ5 := Lib.hid zc5
  clear zc5 hB5
  have h61 : Calls Tryd.prog 11 #[.slice (some ⟨W5.heap.size, 0, none⟩) 4 4] (W5.alloc (.cells #[.int .i64 1, .int .i64 0, .int .i64 0, .int .i64 24, .int .i64 3, .int .i64 0, .int .i64 1, .int .i64 0, .int .i64 0, .int .i64 39, .int .i64 0, .int .i64 0] 24)) _ := l7_one (W5.alloc (.cells #[.int .i64 1, .int .i64 0, .int .i64 0, .int .i64 24, .int .i64 3, .int .i64 0, .int .i64 1, .int .i64 0, .int .i64 0, .int .i64 39, .int .i64 0, .int .i64 0] 24)) (some ⟨W5.heap.size, 0, none⟩) 4 [⟨1, 0, 0⟩, ⟨24, 3, 0⟩, ⟨1, 0, 0⟩, ⟨39, 0, 0⟩] (code_lit W5 [⟨1, 0, 0⟩, ⟨24, 3, 0⟩, ⟨1, 0, 0⟩, ⟨39, 0, 0⟩] #[.int .i64 1, .int .i64 0, .int .i64 0, .int .i64 24, .int .i64 3, .int .i64 0, .int .i64 1, .int .i64 0, .int .i64 0, .int .i64 39, .int .i64 0, .int .i64 0] 24 rfl)
  go_wp2_with fail
  refine h61.mono ?_
  rintro e w62 ⟨⟨gm6, rfl, hm6⟩, t62⟩
  have u6 : Tch [] W5 w62 := ((Tch.refl [] W5).alloc _).then t62
  have h62 : Calls Tryd.prog 7 #[.agg #[.string ⟨#[97]⟩, .slice none 0 0, .slice none 0 0, .slice (some ⟨gm6, 0, none⟩) 1 1, .slice none 0 0]] w62 fun e w' => e = .returned (.tuple #[.agg #[.int .i64 0, .int .i64 2], .int .i64 14]) ∧ Tch [] w62 w' := l7_ver w62 gm6 [⟨1, 0, 0⟩, ⟨24, 3, 0⟩, ⟨1, 0, 0⟩, ⟨39, 0, 0⟩] hm6 (HV.out w62 (TT5.then u6)) (by decide) (by decide) 9 0 2 14 ver_k5
  clear h61
  go_wp2_with fail
  refine h62.mono ?_
  rintro e w63 ⟨rfl, t63⟩
  clear h62
  go_upto_region 7 with fail
  obtain ⟨W6, hW6⟩ : ∃ W, W = w63.alloc (.cells #[.int .i64 0, .int .i64 2] 34) := ⟨_, rfl⟩
  have tW6 : Tch [] w63 W6 := by rw [hW6]; exact (Tch.refl [] w63).alloc _
  have hB6 : W6.heap[w63.heap.size]? = some (.cells #[.int .i64 0, .int .i64 2] 34 (0, 0)) := by rw [hW6]; exact heap_alloc_new w63 _
  obtain ⟨g6, hg6⟩ : ∃ g, g = w63.heap.size := ⟨_, rfl⟩
  rw [← hW6, ← hg6]
  rw [← hg6] at hB6
  clear hW6 hg6
  have TT6 : Tch [] w W6 := (TT5.then u6).then (t63.then tW6)
  have TS6 : Tch [] W5 W6 := u6.then (t63.then tW6)
  have zc6 : W6.cell? ⟨g6, 1, none⟩ = some (.int .i64 2) := by simp [World.cell?, hB6]
  have HZ6 := Lib.hid zc6
  clear zc6 hB6
  obtain ⟨hvS, τS, hgS, hsS, hhS⟩ := ver_k8
  have h71 : Calls Tryd.prog 11 #[.slice (some ⟨W6.heap.size, 0, none⟩) 3 3] (W6.alloc (.cells #[.int .i64 1, .int .i64 0, .int .i64 0, .int .i64 39, .int .i64 0, .int .i64 0, .int .i64 39, .int .i64 0, .int .i64 0] 24)) _ := l7_one (W6.alloc (.cells #[.int .i64 1, .int .i64 0, .int .i64 0, .int .i64 39, .int .i64 0, .int .i64 0, .int .i64 39, .int .i64 0, .int .i64 0] 24)) (some ⟨W6.heap.size, 0, none⟩) 3 [⟨1, 0, 0⟩, ⟨39, 0, 0⟩, ⟨39, 0, 0⟩] (code_lit W6 [⟨1, 0, 0⟩, ⟨39, 0, 0⟩, ⟨39, 0, 0⟩] #[.int .i64 1, .int .i64 0, .int .i64 0, .int .i64 39, .int .i64 0, .int .i64 0, .int .i64 39, .int .i64 0, .int .i64 0] 24 rfl)
  have HVS := Lib.hid hvS
  have HGS := Lib.hid hgS
  have HSS := Lib.hid hsS
  clear hvS hgS hsS hhS
  go_wp2_with fail
  refine h71.mono ?_
  rintro e w72 ⟨⟨gm7, rfl, hm7⟩, t72⟩
  have u7 : Tch [] W6 w72 := ((Tch.refl [] W6).alloc _).then t72
  have h72 : Calls Tryd.prog 10 #[.agg #[.string ⟨#[97]⟩, .slice none 0 0, .slice none 0 0, .slice (some ⟨gm7, 0, none⟩) 1 1, .slice none 0 0], .int .i64 0] w72 fun e w' => (∃ V, e = .returned (.tuple #[.slice (some ⟨V.bs, 0, none⟩) 3 3, .bool true]) ∧ StR w' V 3 τS) ∧ Tch [] w72 w' := l7_states w72 gm7 [⟨1, 0, 0⟩, ⟨39, 0, 0⟩, ⟨39, 0, 0⟩] hm7 (HV.out w72 (TT6.then u7)) (by decide) (by decide) (by decide) HVS.out τS rfl HGS.out
  clear h71
  go_wp2_with fail
  refine h72.mono ?_
  rintro e w73 ⟨⟨V, rfl, hsr⟩, t73⟩
  clear h72
  obtain ⟨s0, k0, c0, _, _⟩ := hsr.cs (k := 0) (by omega)
  obtain ⟨s1, k1, c1, _, _⟩ := hsr.cs (k := 1) (by omega)
  obtain ⟨s2, k2, c2, _, _⟩ := hsr.cs (k := 2) (by omega)
  rw [HSS.out] at c0 c1 c2
  have c0' : w73.cell? ⟨V.bs, 0, none⟩ = some (.slice s0 0 k0) := c0
  have c1' : w73.cell? ⟨V.bs, 1, none⟩ = some (.slice s1 1 k1) := c1
  have c2' : w73.cell? ⟨V.bs, 2, none⟩ = some (.slice s2 0 k2) := c2
  have T73 := (TT6.then u7).then t73
  have hK := l7_known w73 (HV.out w73 T73)
  clear c0 c1 c2 hsr
  go_wp2_with fail
  refine hK.mono ?_
  rintro e w74 ⟨rfl, t74⟩
  clear hK
  have T74 := T73.then t74
  have zd2 := (((((((TS3.then TS4).then TS5).then TS6).then u7).then t73).then t74).cell (cell_lt HZ2.out) (by simp)).trans HZ2.out
  have zd3 := ((((((TS4.then TS5).then TS6).then u7).then t73).then t74).cell (cell_lt HZ3.out) (by simp)).trans HZ3.out
  have zd4 := (((((TS5.then TS6).then u7).then t73).then t74).cell (cell_lt HZ4.out) (by simp)).trans HZ4.out
  have zd5 := ((((TS6.then u7).then t73).then t74).cell (cell_lt HZ5.out) (by simp)).trans HZ5.out
  have zd6 := (((u7.then t73).then t74).cell (cell_lt HZ6.out) (by simp)).trans HZ6.out
  have d0 := (t74.cell (cell_lt c0') (by simp)).trans c0'
  have d1 := (t74.cell (cell_lt c1') (by simp)).trans c1'
  have d2 := (t74.cell (cell_lt c2') (by simp)).trans c2'
  clear c0' c1' c2'
  have h81 : Calls Tryd.prog 11 #[.slice (some ⟨w74.heap.size, 0, none⟩) 2 2] (w74.alloc (.cells #[.int .i64 39, .int .i64 0, .int .i64 0, .int .i64 39, .int .i64 0, .int .i64 0] 24)) _ := l7_one (w74.alloc (.cells #[.int .i64 39, .int .i64 0, .int .i64 0, .int .i64 39, .int .i64 0, .int .i64 0] 24)) (some ⟨w74.heap.size, 0, none⟩) 2 [⟨39, 0, 0⟩, ⟨39, 0, 0⟩] (code_lit w74 [⟨39, 0, 0⟩, ⟨39, 0, 0⟩] #[.int .i64 39, .int .i64 0, .int .i64 0, .int .i64 39, .int .i64 0, .int .i64 0] 24 rfl)
  go_wp2_with fail
  refine h81.mono ?_
  rintro e w82 ⟨⟨gm8, rfl, hm8⟩, t82⟩
  have u8 : Tch [] w74 w82 := ((Tch.refl [] w74).alloc _).then t82
  have h82 : Calls Tryd.prog 12 #[.agg #[.string ⟨#[97]⟩, .slice none 0 0, .slice none 0 0, .slice (some ⟨gm8, 0, none⟩) 1 1, .slice none 0 0], .int .i64 0, .int .i64 1] w82 fun e w' => e = .returned (.int .i64 (-1)) ∧ Tch [] w82 w' := by
    obtain ⟨hv, τ, hg, hs, hh⟩ := ver_k9
    have h := l7_height w82 gm8 [⟨39, 0, 0⟩, ⟨39, 0, 0⟩] hm8 (HV.out w82 (T74.then u8)) (by decide) (by decide) (by decide) hv τ rfl hg 1 (by decide)
    rw [show heightI τ 1 = -1 by unfold heightI; rw [hh]; rfl] at h
    exact h
  clear h81
  go_wp2_with fail
  refine h82.mono ?_
  rintro e w83 ⟨rfl, t83⟩
  clear h82
  have T83 := (T74.then u8).then t83
  have h91 : Calls Tryd.prog 11 #[.slice (some ⟨w83.heap.size, 0, none⟩) 1 1] (w83.alloc (.cells #[.int .i64 39, .int .i64 0, .int .i64 0] 24)) _ := l7_one (w83.alloc (.cells #[.int .i64 39, .int .i64 0, .int .i64 0] 24)) (some ⟨w83.heap.size, 0, none⟩) 1 [⟨39, 0, 0⟩] (code_lit w83 [⟨39, 0, 0⟩] #[.int .i64 39, .int .i64 0, .int .i64 0] 24 rfl)
  go_wp2_with fail
  refine h91.mono ?_
  rintro e w92 ⟨⟨gm9, rfl, hm9⟩, t92⟩
  have u9 : Tch [] w83 w92 := ((Tch.refl [] w83).alloc _).then t92
  have h92 : Calls Tryd.prog 12 #[.agg #[.string ⟨#[97]⟩, .slice none 0 0, .slice none 0 0, .slice (some ⟨gm9, 0, none⟩) 1 1, .slice none 0 0], .int .i64 0, .int .i64 0] w92 fun e w' => e = .returned (.int .i64 0) ∧ Tch [] w92 w' := by
    obtain ⟨hv, τ, hg, hs, hh⟩ := ver_k10
    have h := l7_height w92 gm9 [⟨39, 0, 0⟩] hm9 (HV.out w92 (T83.then u9)) (by decide) (by decide) (by decide) hv τ rfl hg 0 (by decide)
    rw [show heightI τ 0 = 0 by unfold heightI; rw [hh, hs]; rfl] at h
    exact h
  clear h91
  go_wp2_with fail
  refine h92.mono ?_
  rintro e w93 ⟨rfl, t93⟩
  clear h92
  go_wp2_with fail
  go_ret
  exact ⟨rfl, (T83.then u9).then t93⟩
end Go.Proofs.YtpabkjjonbhdeaaDoor
