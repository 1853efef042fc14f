/-
  CONTRACTS: verify: what an instruction takes. Conditions: sizes of 64 bits.
-/
import Derived.Test.YtpabkjjonbhdeaaDoorHVe1
import Derived.Test.YtpabkjjonbhdeaaDoorHTail
namespace Go.Proofs.YtpabkjjonbhdeaaDoor
open Go.RowKit Go.Tcn
set_option linter.unusedVariables false
set_option linter.unusedSimpArgs false
theorem ints_get (l : List Int) (k : Nat) (h : k < (ints l).length) : (ints l)[k] = .int .i64 (l[k]'(by simpa using h)) := by simp [ints]
set_option maxRecDepth 100000 in
set_option maxHeartbeats 16000000 in
theorem ve_takes (w : World) (p : Nat) (M : List Nat) (i : Img) (m : Mth) (V : WV) (h : WkR w 54 p M i m V) (x : Ins) (hx : 1 ≤ x.op ∧ x.op ≤ 39 ∧ 0 ≤ x.a) (hn : namesF i m x = true) (hM : ∀ n ∈ ([] : List Nat), n ∈ M) :
    Calls Tryd.prog 48 #[.pointer (some ⟨p, 0, none⟩), .agg #[.int .i64 x.op, .int .i64 x.a, .int .i64 x.b]] w fun e w' => ∃ ao cap, e = .returned (.slice ao (takesF i m x).length cap) ∧ RInts w' [] (.slice ao (takesF i m x).length cap) (takesF i m x) ∧ Tch [] w w' := by
  obtain ⟨op, a, b⟩ := x
  obtain ⟨hx1, hx2, hx3⟩ := hx
  dsimp only at hx1 hx2 hx3
  obtain ⟨V1, hV1⟩ : ∃ W, W = w.alloc (.cells #[.int .i64 op, .int .i64 a, .int .i64 b] 24) := ⟨_, rfl⟩
  have tV : Tch [] w V1 := by rw [hV1]; exact (Tch.refl [] w).alloc _
  have di : By V1 w.heap.size (.int .i64 op) (.int .i64 a) (.int .i64 b) := by rw [hV1]; exact By.new _ _ _ _ _
  have h1 := h.tch tV (by simp) (by simp)
  have e1 := h1.c1
  have e2 := h1.c2
  have e3 := h1.c3
  have e6 := h1.c6
  have e9 := h1.c9
  obtain ⟨g, hg⟩ : ∃ g, g = w.heap.size := ⟨_, rfl⟩
  rw [← hg] at di
  obtain ⟨d0, d1, d2, f0, f1, f2⟩ := di
  have hf := fun v w => ve_fitting v w
  have hr := fun k w => ve_result k w
  clear h
  have hc : op = 1 ∨ op = 2 ∨ op = 3 ∨ op = 4 ∨ op = 5 ∨ op = 6 ∨ op = 7 ∨ op = 8 ∨ op = 9 ∨ op = 10 ∨ op = 11 ∨ op = 12 ∨ op = 13 ∨ op = 14 ∨ op = 15 ∨ op = 16 ∨ op = 17 ∨ op = 18 ∨ op = 19 ∨ op = 20 ∨ op = 21 ∨ op = 22 ∨ op = 23 ∨ op = 24 ∨ op = 25 ∨ op = 26 ∨ op = 27 ∨ op = 28 ∨ op = 29 ∨ op = 30 ∨ op = 31 ∨ op = 32 ∨ op = 33 ∨ op = 34 ∨ op = 35 ∨ op = 36 ∨ op = 37 ∨ op = 38 ∨ op = 39 := by omega
  rcases hc with rfl | rfl | rfl | rfl | rfl | rfl | rfl | rfl | rfl | rfl | rfl | rfl | rfl | rfl | rfl | rfl | rfl | rfl | rfl | rfl | rfl | rfl | rfl | rfl | rfl | rfl | rfl | rfl | rfl | rfl | rfl | rfl | rfl | rfl | rfl | rfl | rfl | rfl | rfl
  · have ht : takesF i m ⟨1, a, b⟩ = [] := by simp [takesF, twoB]
    rw [ht]
    clear ht
    go_enter Tryd.func48, Tryd.ntmps48
    go_upto_region 1 with fail
    rw [← hV1, ← hg]
    clear hV1 hg
    go_wp2_with fail
    go_ret
    exact ⟨none, 0, rfl, ⟨.inl ⟨rfl, rfl, rfl⟩⟩, tV⟩
  · have ht : takesF i m ⟨2, a, b⟩ = [] := by simp [takesF, twoB]
    rw [ht]
    clear ht
    go_enter Tryd.func48, Tryd.ntmps48
    go_upto_region 1 with fail
    rw [← hV1, ← hg]
    clear hV1 hg
    go_wp2_with fail
    go_ret
    exact ⟨none, 0, rfl, ⟨.inl ⟨rfl, rfl, rfl⟩⟩, tV⟩
  · have ha : a.toNat < (m.params ++ m.locals).length := by simp [namesF, locF] at hn; simp; omega
    have ht : takesF i m ⟨3, a, b⟩ = [(m.params ++ m.locals)[a.toNat]] := by simp [takesF, locF, List.getD, List.getElem?_eq_getElem ha]
    rw [ht]
    clear ht
    obtain ⟨ad, hax, _, _, hq⟩ := Src.at h1.ro (j := a.toNat) (by simpa using ha)
    have hq0 : V1.cell? (ad.add a.toNat) = some (.int .i64 (m.params ++ m.locals)[a.toNat]) := by rw [ints_get] at hq; exact hq
    obtain ⟨k, hk⟩ : ∃ k : Nat, a = k := ⟨a.toNat, by omega⟩
    subst hk
    simp only [Int.toNat_natCast] at hq0 ha ⊢
    have hcx : ∀ x : TW [] V1, x.w.cell? (ad.add k) = some (.int .i64 (m.params ++ m.locals)[k]) := fun x => by rw [x.t.cell (cell_lt hq0) (by simp)]; exact hq0
    have hc9 : ∀ x : TW [] V1, x.w.cell? ⟨p, 9, none⟩ = some (.slice (some ad) (m.params ++ m.locals).length V.co) := fun x => by rw [x.t.cell (cell_lt e9) (by simp), e9, hax]
    have hd1 : ∀ x : TW [] V1, x.w.cell? ⟨g, 1, none⟩ = some (.int .i64 (k : Int)) := fun x => by rw [x.t.cell (cell_lt d1) (by simp)]; exact d1
    clear hq hq0 e9 hax
    generalize (m.params ++ m.locals)[k] = x0 at *
    generalize (m.params ++ m.locals).length = nl at *
    go_enter Tryd.func48, Tryd.ntmps48
    go_upto_region 1 with fail
    rw [← hV1, ← hg]
    clear hV1 hg
    go_wp2_with fail
    refine wp_region_tch_tail (L := []) (w0 := V1) 8 (by kernel_rfl) (by kernel_rfl) (Tch.refl [] V1) ?_
    simp only [List.take_succ_cons, List.take_zero, List.drop_succ_cons, List.drop_zero]
    repeat (go_big_quiet_step (rfl))
    refine wpQuiet_nil ?_
    intro w5 t5
    go_wp2_with fail
    refine (hf _ _).mono ?_
    rintro e w' ⟨rfl, rfl⟩
    go_wp2_with fail
    go_ret
    exact ⟨_, _, rfl, new_lit w5 [x0] #[.int .i64 x0] rfl [] (by simp), (tV.then t5).alloc _⟩
  · have ht : takesF i m ⟨4, a, b⟩ = [-1] := by simp [takesF, twoB]
    rw [ht]
    clear ht
    go_enter Tryd.func48, Tryd.ntmps48
    go_upto_region 1 with fail
    rw [← hV1, ← hg]
    clear hV1 hg
    go_wp2_with fail
    refine (hf _ _).mono ?_
    rintro e w' ⟨rfl, rfl⟩
    go_wp2_with fail
    go_ret
    exact ⟨_, _, rfl, new_lit V1 [-1] #[.int .i64 (-1)] rfl [] (by simp), tV.alloc _⟩
  · have ht : takesF i m ⟨5, a, b⟩ = [-1] := by simp [takesF, twoB]
    rw [ht]
    clear ht
    go_enter Tryd.func48, Tryd.ntmps48
    go_upto_region 1 with fail
    rw [← hV1, ← hg]
    clear hV1 hg
    go_wp2_with fail
    refine (hf _ _).mono ?_
    rintro e w' ⟨rfl, rfl⟩
    go_wp2_with fail
    go_ret
    exact ⟨_, _, rfl, new_lit V1 [-1] #[.int .i64 (-1)] rfl [] (by simp), tV.alloc _⟩
  · have ht : takesF i m ⟨6, a, b⟩ = [-2, -2] := by simp [takesF, twoB]
    rw [ht]
    clear ht
    go_enter Tryd.func48, Tryd.ntmps48
    go_upto_region 1 with fail
    rw [← hV1, ← hg]
    clear hV1 hg
    go_wp2_with fail
    refine (hf _ _).mono ?_
    rintro e w' ⟨rfl, rfl⟩
    go_wp2_with fail
    go_ret
    exact ⟨_, _, rfl, new_lit V1 [-2, -2] #[.int .i64 (-2), .int .i64 (-2)] rfl [] (by simp), tV.alloc _⟩
  · have ht : takesF i m ⟨7, a, b⟩ = [-2, -2] := by simp [takesF, twoB]
    rw [ht]
    clear ht
    go_enter Tryd.func48, Tryd.ntmps48
    go_upto_region 1 with fail
    rw [← hV1, ← hg]
    clear hV1 hg
    go_wp2_with fail
    refine (hf _ _).mono ?_
    rintro e w' ⟨rfl, rfl⟩
    go_wp2_with fail
    go_ret
    exact ⟨_, _, rfl, new_lit V1 [-2, -2] #[.int .i64 (-2), .int .i64 (-2)] rfl [] (by simp), tV.alloc _⟩
  · have ht : takesF i m ⟨8, a, b⟩ = [-2, -2] := by simp [takesF, twoB]
    rw [ht]
    clear ht
    go_enter Tryd.func48, Tryd.ntmps48
    go_upto_region 1 with fail
    rw [← hV1, ← hg]
    clear hV1 hg
    go_wp2_with fail
    refine (hf _ _).mono ?_
    rintro e w' ⟨rfl, rfl⟩
    go_wp2_with fail
    go_ret
    exact ⟨_, _, rfl, new_lit V1 [-2, -2] #[.int .i64 (-2), .int .i64 (-2)] rfl [] (by simp), tV.alloc _⟩
  · have ht : takesF i m ⟨9, a, b⟩ = [-2, -2] := by simp [takesF, twoB]
    rw [ht]
    clear ht
    go_enter Tryd.func48, Tryd.ntmps48
    go_upto_region 1 with fail
    rw [← hV1, ← hg]
    clear hV1 hg
    go_wp2_with fail
    refine (hf _ _).mono ?_
    rintro e w' ⟨rfl, rfl⟩
    go_wp2_with fail
    go_ret
    exact ⟨_, _, rfl, new_lit V1 [-2, -2] #[.int .i64 (-2), .int .i64 (-2)] rfl [] (by simp), tV.alloc _⟩
  · have ht : takesF i m ⟨10, a, b⟩ = [-2, -2] := by simp [takesF, twoB]
    rw [ht]
    clear ht
    go_enter Tryd.func48, Tryd.ntmps48
    go_upto_region 1 with fail
    rw [← hV1, ← hg]
    clear hV1 hg
    go_wp2_with fail
    refine (hf _ _).mono ?_
    rintro e w' ⟨rfl, rfl⟩
    go_wp2_with fail
    go_ret
    exact ⟨_, _, rfl, new_lit V1 [-2, -2] #[.int .i64 (-2), .int .i64 (-2)] rfl [] (by simp), tV.alloc _⟩
  · have ht : takesF i m ⟨11, a, b⟩ = [-2, -2] := by simp [takesF, twoB]
    rw [ht]
    clear ht
    go_enter Tryd.func48, Tryd.ntmps48
    go_upto_region 1 with fail
    rw [← hV1, ← hg]
    clear hV1 hg
    go_wp2_with fail
    refine (hf _ _).mono ?_
    rintro e w' ⟨rfl, rfl⟩
    go_wp2_with fail
    go_ret
    exact ⟨_, _, rfl, new_lit V1 [-2, -2] #[.int .i64 (-2), .int .i64 (-2)] rfl [] (by simp), tV.alloc _⟩
  · have ht : takesF i m ⟨12, a, b⟩ = [-2, -2] := by simp [takesF, twoB]
    rw [ht]
    clear ht
    go_enter Tryd.func48, Tryd.ntmps48
    go_upto_region 1 with fail
    rw [← hV1, ← hg]
    clear hV1 hg
    go_wp2_with fail
    refine (hf _ _).mono ?_
    rintro e w' ⟨rfl, rfl⟩
    go_wp2_with fail
    go_ret
    exact ⟨_, _, rfl, new_lit V1 [-2, -2] #[.int .i64 (-2), .int .i64 (-2)] rfl [] (by simp), tV.alloc _⟩
  · have ht : takesF i m ⟨13, a, b⟩ = [-2, -2] := by simp [takesF, twoB]
    rw [ht]
    clear ht
    go_enter Tryd.func48, Tryd.ntmps48
    go_upto_region 1 with fail
    rw [← hV1, ← hg]
    clear hV1 hg
    go_wp2_with fail
    refine (hf _ _).mono ?_
    rintro e w' ⟨rfl, rfl⟩
    go_wp2_with fail
    go_ret
    exact ⟨_, _, rfl, new_lit V1 [-2, -2] #[.int .i64 (-2), .int .i64 (-2)] rfl [] (by simp), tV.alloc _⟩
  · have ht : takesF i m ⟨14, a, b⟩ = [-2, -2] := by simp [takesF, twoB]
    rw [ht]
    clear ht
    go_enter Tryd.func48, Tryd.ntmps48
    go_upto_region 1 with fail
    rw [← hV1, ← hg]
    clear hV1 hg
    go_wp2_with fail
    refine (hf _ _).mono ?_
    rintro e w' ⟨rfl, rfl⟩
    go_wp2_with fail
    go_ret
    exact ⟨_, _, rfl, new_lit V1 [-2, -2] #[.int .i64 (-2), .int .i64 (-2)] rfl [] (by simp), tV.alloc _⟩
  · have ht : takesF i m ⟨15, a, b⟩ = [-2] := by simp [takesF, twoB]
    rw [ht]
    clear ht
    go_enter Tryd.func48, Tryd.ntmps48
    go_upto_region 1 with fail
    rw [← hV1, ← hg]
    clear hV1 hg
    go_wp2_with fail
    refine (hf _ _).mono ?_
    rintro e w' ⟨rfl, rfl⟩
    go_wp2_with fail
    go_ret
    exact ⟨_, _, rfl, new_lit V1 [-2] #[.int .i64 (-2)] rfl [] (by simp), tV.alloc _⟩
  · have ht : takesF i m ⟨16, a, b⟩ = [-2] := by simp [takesF, twoB]
    rw [ht]
    clear ht
    go_enter Tryd.func48, Tryd.ntmps48
    go_upto_region 1 with fail
    rw [← hV1, ← hg]
    clear hV1 hg
    go_wp2_with fail
    refine (hf _ _).mono ?_
    rintro e w' ⟨rfl, rfl⟩
    go_wp2_with fail
    go_ret
    exact ⟨_, _, rfl, new_lit V1 [-2] #[.int .i64 (-2)] rfl [] (by simp), tV.alloc _⟩
  · have ht : takesF i m ⟨17, a, b⟩ = [-3, -3] := by simp [takesF, twoB]
    rw [ht]
    clear ht
    go_enter Tryd.func48, Tryd.ntmps48
    go_upto_region 1 with fail
    rw [← hV1, ← hg]
    clear hV1 hg
    go_wp2_with fail
    refine (hf _ _).mono ?_
    rintro e w' ⟨rfl, rfl⟩
    go_wp2_with fail
    go_ret
    exact ⟨_, _, rfl, new_lit V1 [-3, -3] #[.int .i64 (-3), .int .i64 (-3)] rfl [] (by simp), tV.alloc _⟩
  · have ht : takesF i m ⟨18, a, b⟩ = [-3, -3] := by simp [takesF, twoB]
    rw [ht]
    clear ht
    go_enter Tryd.func48, Tryd.ntmps48
    go_upto_region 1 with fail
    rw [← hV1, ← hg]
    clear hV1 hg
    go_wp2_with fail
    refine (hf _ _).mono ?_
    rintro e w' ⟨rfl, rfl⟩
    go_wp2_with fail
    go_ret
    exact ⟨_, _, rfl, new_lit V1 [-3, -3] #[.int .i64 (-3), .int .i64 (-3)] rfl [] (by simp), tV.alloc _⟩
  · have ht : takesF i m ⟨19, a, b⟩ = [-2, -2] := by simp [takesF, twoB]
    rw [ht]
    clear ht
    go_enter Tryd.func48, Tryd.ntmps48
    go_upto_region 1 with fail
    rw [← hV1, ← hg]
    clear hV1 hg
    go_wp2_with fail
    refine (hf _ _).mono ?_
    rintro e w' ⟨rfl, rfl⟩
    go_wp2_with fail
    go_ret
    exact ⟨_, _, rfl, new_lit V1 [-2, -2] #[.int .i64 (-2), .int .i64 (-2)] rfl [] (by simp), tV.alloc _⟩
  · have ht : takesF i m ⟨20, a, b⟩ = [-2, -2] := by simp [takesF, twoB]
    rw [ht]
    clear ht
    go_enter Tryd.func48, Tryd.ntmps48
    go_upto_region 1 with fail
    rw [← hV1, ← hg]
    clear hV1 hg
    go_wp2_with fail
    refine (hf _ _).mono ?_
    rintro e w' ⟨rfl, rfl⟩
    go_wp2_with fail
    go_ret
    exact ⟨_, _, rfl, new_lit V1 [-2, -2] #[.int .i64 (-2), .int .i64 (-2)] rfl [] (by simp), tV.alloc _⟩
  · have ht : takesF i m ⟨21, a, b⟩ = [-2, -2] := by simp [takesF, twoB]
    rw [ht]
    clear ht
    go_enter Tryd.func48, Tryd.ntmps48
    go_upto_region 1 with fail
    rw [← hV1, ← hg]
    clear hV1 hg
    go_wp2_with fail
    refine (hf _ _).mono ?_
    rintro e w' ⟨rfl, rfl⟩
    go_wp2_with fail
    go_ret
    exact ⟨_, _, rfl, new_lit V1 [-2, -2] #[.int .i64 (-2), .int .i64 (-2)] rfl [] (by simp), tV.alloc _⟩
  · have ht : takesF i m ⟨22, a, b⟩ = [-2, -1, -1] := by simp [takesF, twoB]
    rw [ht]
    clear ht
    go_enter Tryd.func48, Tryd.ntmps48
    go_upto_region 1 with fail
    rw [← hV1, ← hg]
    clear hV1 hg
    go_wp2_with fail
    refine (hf _ _).mono ?_
    rintro e w' ⟨rfl, rfl⟩
    go_wp2_with fail
    go_ret
    exact ⟨_, _, rfl, new_lit V1 [-2, -1, -1] #[.int .i64 (-2), .int .i64 (-1), .int .i64 (-1)] rfl [] (by simp), tV.alloc _⟩
  · have ht : takesF i m ⟨23, a, b⟩ = [] := by simp [takesF, twoB]
    rw [ht]
    clear ht
    go_enter Tryd.func48, Tryd.ntmps48
    go_upto_region 1 with fail
    rw [← hV1, ← hg]
    clear hV1 hg
    go_wp2_with fail
    go_ret
    exact ⟨none, 0, rfl, ⟨.inl ⟨rfl, rfl, rfl⟩⟩, tV⟩
  · have ht : takesF i m ⟨24, a, b⟩ = [-3] := by simp [takesF, twoB]
    rw [ht]
    clear ht
    go_enter Tryd.func48, Tryd.ntmps48
    go_upto_region 1 with fail
    rw [← hV1, ← hg]
    clear hV1 hg
    go_wp2_with fail
    refine (hf _ _).mono ?_
    rintro e w' ⟨rfl, rfl⟩
    go_wp2_with fail
    go_ret
    exact ⟨_, _, rfl, new_lit V1 [-3] #[.int .i64 (-3)] rfl [] (by simp), tV.alloc _⟩
  · have ht : takesF i m ⟨25, a, b⟩ = [] := by simp [takesF, twoB]
    rw [ht]
    clear ht
    go_enter Tryd.func48, Tryd.ntmps48
    go_upto_region 1 with fail
    rw [← hV1, ← hg]
    clear hV1 hg
    go_wp2_with fail
    go_ret
    exact ⟨none, 0, rfl, ⟨.inl ⟨rfl, rfl, rfl⟩⟩, tV⟩
  · have ht : takesF i m ⟨26, a, b⟩ = [-4] := by simp [takesF, twoB]
    rw [ht]
    clear ht
    go_enter Tryd.func48, Tryd.ntmps48
    go_upto_region 1 with fail
    rw [← hV1, ← hg]
    clear hV1 hg
    go_wp2_with fail
    refine (hf _ _).mono ?_
    rintro e w' ⟨rfl, rfl⟩
    go_wp2_with fail
    go_ret
    exact ⟨_, _, rfl, new_lit V1 [-4] #[.int .i64 (-4)] rfl [] (by simp), tV.alloc _⟩
  · have ht : takesF i m ⟨27, a, b⟩ = [-3] := by simp [takesF, twoB]
    rw [ht]
    clear ht
    go_enter Tryd.func48, Tryd.ntmps48
    go_upto_region 1 with fail
    rw [← hV1, ← hg]
    clear hV1 hg
    go_wp2_with fail
    refine (hf _ _).mono ?_
    rintro e w' ⟨rfl, rfl⟩
    go_wp2_with fail
    go_ret
    exact ⟨_, _, rfl, new_lit V1 [-3] #[.int .i64 (-3)] rfl [] (by simp), tV.alloc _⟩
  · have ht : takesF i m ⟨28, a, b⟩ = [-4] := by simp [takesF, twoB]
    rw [ht]
    clear ht
    go_enter Tryd.func48, Tryd.ntmps48
    go_upto_region 1 with fail
    rw [← hV1, ← hg]
    clear hV1 hg
    go_wp2_with fail
    refine (hf _ _).mono ?_
    rintro e w' ⟨rfl, rfl⟩
    go_wp2_with fail
    go_ret
    exact ⟨_, _, rfl, new_lit V1 [-4] #[.int .i64 (-4)] rfl [] (by simp), tV.alloc _⟩
  · have ht : takesF i m ⟨29, a, b⟩ = [-4, -3] := by simp [takesF, twoB]
    rw [ht]
    clear ht
    go_enter Tryd.func48, Tryd.ntmps48
    go_upto_region 1 with fail
    rw [← hV1, ← hg]
    clear hV1 hg
    go_wp2_with fail
    refine (hf _ _).mono ?_
    rintro e w' ⟨rfl, rfl⟩
    go_wp2_with fail
    go_ret
    exact ⟨_, _, rfl, new_lit V1 [-4, -3] #[.int .i64 (-4), .int .i64 (-3)] rfl [] (by simp), tV.alloc _⟩
  · have ht : takesF i m ⟨30, a, b⟩ = [-4, -3, -2] := by simp [takesF, twoB]
    rw [ht]
    clear ht
    go_enter Tryd.func48, Tryd.ntmps48
    go_upto_region 1 with fail
    rw [← hV1, ← hg]
    clear hV1 hg
    go_wp2_with fail
    refine (hf _ _).mono ?_
    rintro e w' ⟨rfl, rfl⟩
    go_wp2_with fail
    go_ret
    exact ⟨_, _, rfl, new_lit V1 [-4, -3, -2] #[.int .i64 (-4), .int .i64 (-3), .int .i64 (-2)] rfl [] (by simp), tV.alloc _⟩
  · have ht : takesF i m ⟨31, a, b⟩ = [-4, -3, -4, -3, -3] := by simp [takesF, twoB]
    rw [ht]
    clear ht
    go_enter Tryd.func48, Tryd.ntmps48
    go_upto_region 1 with fail
    rw [← hV1, ← hg]
    clear hV1 hg
    go_wp2_with fail
    refine (hf _ _).mono ?_
    rintro e w' ⟨rfl, rfl⟩
    go_wp2_with fail
    go_ret
    exact ⟨_, _, rfl, new_lit V1 [-4, -3, -4, -3, -3] #[.int .i64 (-4), .int .i64 (-3), .int .i64 (-4), .int .i64 (-3), .int .i64 (-3)] rfl [] (by simp), tV.alloc _⟩
  · have ht : takesF i m ⟨32, a, b⟩ = [-4, -3, -4, -3, -3] := by simp [takesF, twoB]
    rw [ht]
    clear ht
    go_enter Tryd.func48, Tryd.ntmps48
    go_upto_region 1 with fail
    rw [← hV1, ← hg]
    clear hV1 hg
    go_wp2_with fail
    refine (hf _ _).mono ?_
    rintro e w' ⟨rfl, rfl⟩
    go_wp2_with fail
    go_ret
    exact ⟨_, _, rfl, new_lit V1 [-4, -3, -4, -3, -3] #[.int .i64 (-4), .int .i64 (-3), .int .i64 (-4), .int .i64 (-3), .int .i64 (-3)] rfl [] (by simp), tV.alloc _⟩
  · have ht : takesF i m ⟨33, a, b⟩ = [] := by simp [takesF, twoB]
    rw [ht]
    clear ht
    go_enter Tryd.func48, Tryd.ntmps48
    go_upto_region 1 with fail
    rw [← hV1, ← hg]
    clear hV1 hg
    go_wp2_with fail
    go_ret
    exact ⟨none, 0, rfl, ⟨.inl ⟨rfl, rfl, rfl⟩⟩, tV⟩
  · have ha : a.toNat < i.fields.length := by simp [namesF] at hn; omega
    have ht : takesF i m ⟨34, a, b⟩ = [i.fields[a.toNat]] := by simp [takesF, List.getD, List.getElem?_eq_getElem ha]
    rw [ht]
    clear ht
    obtain ⟨ad, hax, _, _, hq⟩ := Src.at h1.rf (j := a.toNat) (by simpa using ha)
    have hq0 : V1.cell? (ad.add a.toNat) = some (.int .i64 i.fields[a.toNat]) := by rw [ints_get] at hq; exact hq
    obtain ⟨k, hk⟩ : ∃ k : Nat, a = k := ⟨a.toNat, by omega⟩
    subst hk
    simp only [Int.toNat_natCast] at hq0 ha ⊢
    have hcx : ∀ x : TW [] V1, x.w.cell? (ad.add k) = some (.int .i64 i.fields[k]) := fun x => by rw [x.t.cell (cell_lt hq0) (by simp)]; exact hq0
    have hc1 : ∀ x : TW [] V1, x.w.cell? ⟨p, 1, none⟩ = some (.slice (some ad) i.fields.length V.cf) := fun x => by rw [x.t.cell (cell_lt e1) (by simp), e1, hax]
    have hd1 : ∀ x : TW [] V1, x.w.cell? ⟨g, 1, none⟩ = some (.int .i64 (k : Int)) := fun x => by rw [x.t.cell (cell_lt d1) (by simp)]; exact d1
    clear hq hq0 e1 hax
    generalize i.fields[k] = x0 at *
    generalize i.fields.length = nl at *
    go_enter Tryd.func48, Tryd.ntmps48
    go_upto_region 1 with fail
    rw [← hV1, ← hg]
    clear hV1 hg
    go_wp2_with fail
    refine wp_region_tch_tail (L := []) (w0 := V1) 9 (by kernel_rfl) (by kernel_rfl) (Tch.refl [] V1) ?_
    simp only [List.take_succ_cons, List.take_zero, List.drop_succ_cons, List.drop_zero]
    repeat (go_big_quiet_step (rfl))
    refine wpQuiet_nil ?_
    intro w5 t5
    go_wp2_with fail
    refine (hf _ _).mono ?_
    rintro e w' ⟨rfl, rfl⟩
    go_wp2_with fail
    go_ret
    exact ⟨_, _, rfl, new_lit w5 [x0] #[.int .i64 x0] rfl [] (by simp), (tV.then t5).alloc _⟩
  · have ht : takesF i m ⟨35, a, b⟩ = [] := by simp [takesF, twoB]
    rw [ht]
    clear ht
    go_enter Tryd.func48, Tryd.ntmps48
    go_upto_region 1 with fail
    rw [← hV1, ← hg]
    clear hV1 hg
    go_wp2_with fail
    go_ret
    exact ⟨none, 0, rfl, ⟨.inl ⟨rfl, rfl, rfl⟩⟩, tV⟩
  · have ht : takesF i m ⟨36, a, b⟩ = [-4, -3, -3] := by simp [takesF, twoB]
    rw [ht]
    clear ht
    go_enter Tryd.func48, Tryd.ntmps48
    go_upto_region 1 with fail
    rw [← hV1, ← hg]
    clear hV1 hg
    go_wp2_with fail
    refine (hf _ _).mono ?_
    rintro e w' ⟨rfl, rfl⟩
    go_wp2_with fail
    go_ret
    exact ⟨_, _, rfl, new_lit V1 [-4, -3, -3] #[.int .i64 (-4), .int .i64 (-3), .int .i64 (-3)] rfl [] (by simp), tV.alloc _⟩
  · have ha : a.toNat < i.methods.length := by simp [namesF] at hn; omega
    obtain ⟨k, hk⟩ : ∃ k : Nat, a = k := ⟨a.toNat, by omega⟩
    subst hk
    simp only [Int.toNat_natCast] at ha
    have ht : takesF i m ⟨37, k, b⟩ = (i.methods[k]).params := by simp [takesF, twoB, methAt, List.getD, List.getElem?_eq_getElem ha]
    rw [ht]
    clear ht
    obtain ⟨ad, vp, vl, vc, hax, hadl, ip, _, _, hcc⟩ := RMths.at h1.rm ha
    obtain ⟨aq, cq, rfl⟩ := Src.form ip
    have q0 := hcc 0 _ rfl
    rw [Addr_add_zero] at q0
    rw [hax] at e3
    clear hcc hax
    generalize (i.methods[k]).params = ps at *
    go_enter Tryd.func48, Tryd.ntmps48
    go_upto_region 1 with fail
    rw [← hV1, ← hg]
    clear hV1 hg
    go_wp2_with fail
    go_quiet (fail)
    go_wp2_with fail
    go_ret
    exact ⟨aq, cq, rfl, (RInts.mono ip (by simp)).tch ((Tch.refl [] V1).drewN _) (by simp), tV.drewN _⟩
  · have ha : a.toNat < i.imports.length := by simp [namesF] at hn; omega
    obtain ⟨k, hk⟩ : ∃ k : Nat, a = k := ⟨a.toNat, by omega⟩
    subst hk
    simp only [Int.toNat_natCast] at ha
    have ht : takesF i m ⟨38, k, b⟩ = (i.imports[k]).params := by simp [takesF, twoB, impAt, List.getD, List.getElem?_eq_getElem ha]
    rw [ht]
    clear ht
    obtain ⟨ad, vp, hax, hadl, ip, hcc⟩ := RImps.at h1.ri ha
    obtain ⟨aq, cq, rfl⟩ := Src.form ip
    have q0 := hcc 2 _ rfl
    have q1 : V1.cell? ⟨(ad.add (k * 4)).block, (ad.add (k * 4)).off + 2, none⟩ = some (.slice aq (i.imports[k]).params.length cq) := q0
    rw [hax] at e2
    clear hcc hax
    generalize (i.imports[k]).params = ps at *
    go_enter Tryd.func48, Tryd.ntmps48
    go_upto_region 1 with fail
    rw [← hV1, ← hg]
    clear hV1 hg
    go_wp2_with fail
    go_quiet (fail)
    go_wp2_with fail
    go_ret
    exact ⟨aq, cq, rfl, (RInts.mono ip (by simp)).tch ((Tch.refl [] V1).drewN _) (by simp), tV.drewN _⟩
  · have ht : takesF i m ⟨39, a, b⟩ = resL m.result := by simp [takesF, twoB]
    rw [ht]
    clear ht
    go_enter Tryd.func48, Tryd.ntmps48
    go_upto_region 1 with fail
    rw [← hV1, ← hg]
    clear hV1 hg
    go_wp2_with fail
    refine (hr _ _).mono ?_
    rintro e w' ⟨⟨ao, cap, rfl, hN⟩, t⟩
    go_wp2_with fail
    go_ret
    exact ⟨ao, cap, rfl, hN [] (by simp), tV.then t⟩
end Go.Proofs.YtpabkjjonbhdeaaDoor
