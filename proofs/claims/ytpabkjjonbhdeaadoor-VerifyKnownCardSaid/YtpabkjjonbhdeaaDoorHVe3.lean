/-
  CONTRACTS: verify: what an instruction gives. Conditions: sizes of 64 bits.
-/
import Derived.Test.YtpabkjjonbhdeaaDoorHVe2
namespace Go.Proofs.YtpabkjjonbhdeaaDoor
open Go.RowKit Go.Tcn
set_option linter.unusedVariables false
set_option linter.unusedSimpArgs false
/-- The numbers of a list at whatever later world. -/
theorem at_ints {w : World} {ao : Option Addr} {c : Nat} {l : List Int} (h : RInts w [] (.slice ao l.length c) l) (j : Nat) (hj : j < l.length) :
    ∃ y, l.getD j 0 = y ∧ ∃ ad, ao = some ad ∧ (∀ w', Tch [] w w' → w'.cell? (ad.add j) = some (.int .i64 y)) ∧ (j ≠ 0 → ∀ w', Tch [] w w' → w'.cell? ⟨ad.block, ad.off + j, none⟩ = some (.int .i64 y)) := by
  obtain ⟨ad, hax, _, _, hq⟩ := Src.at h (j := j) (by simpa using hj)
  rw [ints_get] at hq
  exact ⟨l[j], by simp [List.getD, List.getElem?_eq_getElem hj], ad, hax, fun w' t => by rw [t.cell (cell_lt hq) (by simp)]; exact hq, fun h0 w' t => by
    have ea : ad.add j = ⟨ad.block, ad.off + j, none⟩ := by simp [Addr.add, h0]
    rw [← ea, t.cell (cell_lt hq) (by simp)]; exact hq⟩
set_option maxRecDepth 100000 in
set_option maxHeartbeats 4000000 in
theorem ve_pick (w : World) (ao : Option Addr) (c : Nat) (l : List Int) (h : RInts w [] (.slice ao l.length c) l) (h3 : 3 ≤ l.length) :
    Calls Tryd.prog 68 #[.slice ao l.length c] w fun e w' => e = .returned (.int .i64 (pickV l)) ∧ Tch [] w w' := by
  obtain ⟨y0, e0, ad, rfl, q0, _⟩ := at_ints h 0 (by omega)
  obtain ⟨y1, e1, _, ha1, _, q1'⟩ := at_ints h 1 (by omega)
  obtain ⟨y2, e2, _, ha2, _, q2'⟩ := at_ints h 2 (by omega)
  have q1 := q1' (by decide)
  have q2 := q2' (by decide)
  clear q1' q2'
  simp only [Option.some.injEq] at ha1 ha2
  subst ha1 ha2
  have hp : pickV l = if isArrB y1 then y1 else bothV y0 (bothV y1 y2) := by unfold pickV; rw [e0, e1, e2]
  rw [hp]
  clear hp e0 e1 e2
  have hl1 : 1 < l.length := by omega
  have hl2 : 2 < l.length := by omega
  have hl0 : 0 < l.length := by omega
  have p1 := q1 w (Tch.refl [] w)
  have hA := lab_IsArr y1
  generalize l.length = n at *
  cases ha : isArrB y1
  · rw [ha] at hA
    go_enter Tryd.func68, Tryd.ntmps68
    go_wp2_with fail
    refine (hA w).mono ?_
    rintro e w' ⟨rfl, rfl⟩
    have r0 : ∀ x : TW [] w, x.w.cell? (ad.add 0) = some (.int .i64 y0) := fun x => q0 _ x.t
    have r0' : ∀ x : TW [] w, x.w.cell? ad = some (.int .i64 y0) := fun x => by have := q0 _ x.t; rwa [Addr_add_zero] at this
    have r1 : ∀ x : TW [] w, x.w.cell? ⟨ad.block, ad.off + 1, none⟩ = some (.int .i64 y1) := fun x => q1 _ x.t
    have r2 : ∀ x : TW [] w, x.w.cell? ⟨ad.block, ad.off + 2, none⟩ = some (.int .i64 y2) := fun x => q2 _ x.t
    clear q0 q1 q2 p1 hA
    go_wp2_with fail
    refine wp_region_tch (L := []) (w0 := w) (by kernel_rfl) (by kernel_rfl) (Tch.refl [] w) ?_
    repeat (go_big_quiet_step ((first | rfl | (go_at_call 67; exact tch_of_same (lab_Both _ _ _)))))
    refine wpQuiet_nil ?_
    intro _ hw'
    obtain ⟨x, rfl⟩ := hw'
    go_wp2_with fail
    go_ret
    exact ⟨by simp, x.t⟩
  · rw [ha] at hA
    go_enter Tryd.func68, Tryd.ntmps68
    go_wp2_with fail
    refine (hA w).mono ?_
    rintro e w' ⟨rfl, rfl⟩
    go_wp2_with fail
    go_ret
    exact ⟨by simp, Tch.refl _ _⟩
set_option maxRecDepth 100000 in
set_option maxHeartbeats 16000000 in
theorem ve_gives (w : World) (p : Nat) (M : List Nat) (i : Img) (m : Mth) (V : WV) (h : WkR w 54 p M i m V) (x : Ins) (hx : 1 ≤ x.op ∧ x.op ≤ 39 ∧ 0 ≤ x.a ∧ x.a ≤ 4294967295) (hn : namesF i m x = true) (ao : Option Addr) (c : Nat) (l : List Int) (hl : RInts w [] (.slice ao l.length c) l) (hlen : (takesF i m x).length ≤ l.length) :
    Calls Tryd.prog 52 #[.pointer (some ⟨p, 0, none⟩), .agg #[.int .i64 x.op, .int .i64 x.a, .int .i64 x.b], .slice ao l.length c] w fun e w' => ∃ ao cap, e = .returned (.slice ao (givesF i m x l).length cap) ∧ RInts w' [] (.slice ao (givesF i m x l).length cap) (givesF i m x l) ∧ Tch [] w w' := by
  obtain ⟨op, a, b⟩ := x
  obtain ⟨hx1, hx2, hx3, hx4⟩ := hx
  dsimp only at hx1 hx2 hx3 hx4
  obtain ⟨V1, hV1⟩ : ∃ W, W = w.alloc (.cells #[.int .i64 op, .int .i64 a, .int .i64 b] 24) := ⟨_, rfl⟩
  have tV : Tch [] w V1 := by rw [hV1]; exact (Tch.refl [] w).alloc _
  have di : By V1 w.heap.size (.int .i64 op) (.int .i64 a) (.int .i64 b) := by rw [hV1]; exact By.new _ _ _ _ _
  have h1 := h.tch tV (by simp) (by simp)
  have c1 := h1.c1
  have c2 := h1.c2
  have c3 := h1.c3
  have c9 := h1.c9
  obtain ⟨g, hg⟩ : ∃ g, g = w.heap.size := ⟨_, rfl⟩
  rw [← hg] at di
  obtain ⟨d0, d1, d2, f0, f1, f2⟩ := di
  have hf := fun v w => ve_fitting v w
  have hr := fun k w => ve_result k w
  clear h
  have hc : op = 1 ∨ op = 2 ∨ op = 3 ∨ op = 4 ∨ op = 5 ∨ op = 6 ∨ op = 7 ∨ op = 8 ∨ op = 9 ∨ op = 10 ∨ op = 11 ∨ op = 12 ∨ op = 13 ∨ op = 14 ∨ op = 15 ∨ op = 16 ∨ op = 17 ∨ op = 18 ∨ op = 19 ∨ op = 20 ∨ op = 21 ∨ op = 22 ∨ op = 23 ∨ op = 24 ∨ op = 25 ∨ op = 26 ∨ op = 27 ∨ op = 28 ∨ op = 29 ∨ op = 30 ∨ op = 31 ∨ op = 32 ∨ op = 33 ∨ op = 34 ∨ op = 35 ∨ op = 36 ∨ op = 37 ∨ op = 38 ∨ op = 39 := by omega
  rcases hc with rfl | rfl | rfl | rfl | rfl | rfl | rfl | rfl | rfl | rfl | rfl | rfl | rfl | rfl | rfl | rfl | rfl | rfl | rfl | rfl | rfl | rfl | rfl | rfl | rfl | rfl | rfl | rfl | rfl | rfl | rfl | rfl | rfl | rfl | rfl | rfl | rfl | rfl | rfl
  · have ht : givesF i m ⟨1, a, b⟩ l = [1] := by simp [givesF, twoB]
    rw [ht]
    clear ht
    go_enter Tryd.func52, Tryd.ntmps52
    go_upto_region 1 with fail
    rw [← hV1, ← hg]
    clear hV1 hg
    go_wp2_with fail
    refine (hf _ _).mono ?_
    rintro e w' ⟨rfl, rfl⟩
    go_wp2_with fail
    go_ret
    exact ⟨_, _, rfl, new_lit V1 [1] #[.int .i64 (1)] rfl [] (by simp), tV.alloc _⟩
  · have ha : a.toNat < (m.params ++ m.locals).length := by simp [namesF, locF] at hn; simp; omega
    have ht : givesF i m ⟨2, a, b⟩ l = [(m.params ++ m.locals)[a.toNat]] := by simp [givesF, twoB, locF, List.getD, List.getElem?_eq_getElem ha]
    rw [ht]
    clear ht
    obtain ⟨ad, hax, _, _, hq⟩ := Src.at h1.ro (j := a.toNat) (by simpa using ha)
    have hq0 : V1.cell? (ad.add a.toNat) = some (.int .i64 (m.params ++ m.locals)[a.toNat]) := by rw [ints_get] at hq; exact hq
    obtain ⟨k, hk⟩ : ∃ k : Nat, a = k := ⟨a.toNat, by omega⟩
    subst hk
    simp only [Int.toNat_natCast] at hq0 ha ⊢
    have hcx : ∀ x : TW [] V1, x.w.cell? (ad.add k) = some (.int .i64 (m.params ++ m.locals)[k]) := fun x => by rw [x.t.cell (cell_lt hq0) (by simp)]; exact hq0
    have hc9 : ∀ x : TW [] V1, x.w.cell? ⟨p, 9, none⟩ = some (.slice (some ad) (m.params ++ m.locals).length V.co) := fun x => by rw [x.t.cell (cell_lt c9) (by simp), c9, hax]
    have hd1 : ∀ x : TW [] V1, x.w.cell? ⟨g, 1, none⟩ = some (.int .i64 (k : Int)) := fun x => by rw [x.t.cell (cell_lt d1) (by simp)]; exact d1
    clear hl hlen
    clear hq hq0 c9 hax
    generalize (m.params ++ m.locals)[k] = x0 at *
    generalize (m.params ++ m.locals).length = nl at *
    go_enter Tryd.func52, Tryd.ntmps52
    go_upto_region 1 with fail
    rw [← hV1, ← hg]
    clear hV1 hg
    go_wp2_with fail
    refine wp_region_tch_tail (L := []) (w0 := V1) 8 (by kernel_rfl) (by kernel_rfl) (Tch.refl [] V1) ?_
    simp only [List.take_succ_cons, List.take_zero, List.drop_succ_cons, List.drop_zero]
    repeat (go_big_quiet_step (rfl))
    refine wpQuiet_nil ?_
    intro w5 t5
    go_wp2_with fail
    refine (hf _ _).mono ?_
    rintro e w' ⟨rfl, rfl⟩
    go_wp2_with fail
    go_ret
    exact ⟨_, _, rfl, new_lit w5 [x0] #[.int .i64 x0] rfl [] (by simp), (tV.then t5).alloc _⟩
  · have ht : givesF i m ⟨3, a, b⟩ l = [] := by simp [givesF, twoB]
    rw [ht]
    clear ht
    go_enter Tryd.func52, Tryd.ntmps52
    go_upto_region 1 with fail
    rw [← hV1, ← hg]
    clear hV1 hg
    go_wp2_with fail
    go_ret
    exact ⟨none, 0, rfl, ⟨.inl ⟨rfl, rfl, rfl⟩⟩, tV⟩
  · have ht : givesF i m ⟨4, a, b⟩ l = [] := by simp [givesF, twoB]
    rw [ht]
    clear ht
    go_enter Tryd.func52, Tryd.ntmps52
    go_upto_region 1 with fail
    rw [← hV1, ← hg]
    clear hV1 hg
    go_wp2_with fail
    go_ret
    exact ⟨none, 0, rfl, ⟨.inl ⟨rfl, rfl, rfl⟩⟩, tV⟩
  · obtain ⟨y0, e0, ad, rfl, q0, _⟩ := at_ints hl 0 (by have := hlen; simp [takesF, twoB] at this; omega)
    have q0a : ∀ w', Tch [] w w' → w'.cell? ad = some (.int .i64 y0) := fun w' t => by have := q0 w' t; rwa [Addr_add_zero] at this
    have hl0 : 0 < l.length := (by have := hlen; simp [takesF, twoB] at this; omega)
    have r0 : ∀ x : TW [] V1, x.w.cell? (ad.add 0) = some (.int .i64 y0) := fun x => q0 _ (tV.then x.t)
    have r0a : ∀ x : TW [] V1, x.w.cell? ad = some (.int .i64 y0) := fun x => q0a _ (tV.then x.t)
    have u0 := q0 _ tV
    have u0a := q0a _ tV
    clear q0 q0a
    have ht : givesF i m ⟨5, a, b⟩ l = [y0, y0] := by rw [← e0]; simp [givesF, twoB]
    rw [ht]
    clear ht e0 hlen hl
    generalize l.length = nl at *
    go_enter Tryd.func52, Tryd.ntmps52
    go_upto_region 1 with fail
    rw [← hV1, ← hg]
    clear hV1 hg
    go_wp2_with fail
    refine wp_region_tch_tail (L := []) (w0 := V1) 6 (by kernel_rfl) (by kernel_rfl) (Tch.refl [] V1) ?_
    simp only [List.take_succ_cons, List.take_zero, List.drop_succ_cons, List.drop_zero]
    repeat (go_big_quiet_step ((first | rfl)))
    refine wpQuiet_nil ?_
    intro w5 t5
    go_wp2_with fail
    refine (hf _ _).mono ?_
    rintro e w' ⟨rfl, rfl⟩
    go_wp2_with fail
    go_ret
    exact ⟨_, _, rfl, new_lit w5 [y0, y0] #[.int .i64 (y0), .int .i64 (y0)] rfl [] (by simp), (tV.then t5).alloc _⟩
  · obtain ⟨y0, e0, ad, rfl, q0, _⟩ := at_ints hl 0 (by have := hlen; simp [takesF, twoB] at this; omega)
    have q0a : ∀ w', Tch [] w w' → w'.cell? ad = some (.int .i64 y0) := fun w' t => by have := q0 w' t; rwa [Addr_add_zero] at this
    have hl0 : 0 < l.length := (by have := hlen; simp [takesF, twoB] at this; omega)
    obtain ⟨y1, e1, _, ha1, _, q1i⟩ := at_ints hl 1 (by have := hlen; simp [takesF, twoB] at this; omega)
    simp only [Option.some.injEq] at ha1
    subst ha1
    have q1 := q1i (by decide)
    clear q1i
    have hl1 : 1 < l.length := (by have := hlen; simp [takesF, twoB] at this; omega)
    have r0 : ∀ x : TW [] V1, x.w.cell? (ad.add 0) = some (.int .i64 y0) := fun x => q0 _ (tV.then x.t)
    have r0a : ∀ x : TW [] V1, x.w.cell? ad = some (.int .i64 y0) := fun x => q0a _ (tV.then x.t)
    have u0 := q0 _ tV
    have u0a := q0a _ tV
    clear q0 q0a
    have r1 : ∀ x : TW [] V1, x.w.cell? ⟨ad.block, ad.off + 1, none⟩ = some (.int .i64 y1) := fun x => q1 _ (tV.then x.t)
    have u1 := q1 _ tV
    clear q1
    have ht : givesF i m ⟨6, a, b⟩ l = [bothV y0 y1] := by rw [← e0, ← e1]; simp [givesF, twoB]
    rw [ht]
    clear ht e0 e1 hlen hl
    generalize l.length = nl at *
    go_enter Tryd.func52, Tryd.ntmps52
    go_upto_region 1 with fail
    rw [← hV1, ← hg]
    clear hV1 hg
    go_wp2_with fail
    refine wp_region_tch_tail (L := []) (w0 := V1) 7 (by kernel_rfl) (by kernel_rfl) (Tch.refl [] V1) ?_
    simp only [List.take_succ_cons, List.take_zero, List.drop_succ_cons, List.drop_zero]
    repeat (go_big_quiet_step ((first | rfl | (go_at_call 67; exact tch_of_same (lab_Both _ _ _)))))
    refine wpQuiet_nil ?_
    intro w5 t5
    go_wp2_with fail
    refine (hf _ _).mono ?_
    rintro e w' ⟨rfl, rfl⟩
    go_wp2_with fail
    go_ret
    exact ⟨_, _, rfl, new_lit w5 [bothV y0 y1] #[.int .i64 (bothV y0 y1)] rfl [] (by simp), (tV.then t5).alloc _⟩
  · obtain ⟨y0, e0, ad, rfl, q0, _⟩ := at_ints hl 0 (by have := hlen; simp [takesF, twoB] at this; omega)
    have q0a : ∀ w', Tch [] w w' → w'.cell? ad = some (.int .i64 y0) := fun w' t => by have := q0 w' t; rwa [Addr_add_zero] at this
    have hl0 : 0 < l.length := (by have := hlen; simp [takesF, twoB] at this; omega)
    obtain ⟨y1, e1, _, ha1, _, q1i⟩ := at_ints hl 1 (by have := hlen; simp [takesF, twoB] at this; omega)
    simp only [Option.some.injEq] at ha1
    subst ha1
    have q1 := q1i (by decide)
    clear q1i
    have hl1 : 1 < l.length := (by have := hlen; simp [takesF, twoB] at this; omega)
    have r0 : ∀ x : TW [] V1, x.w.cell? (ad.add 0) = some (.int .i64 y0) := fun x => q0 _ (tV.then x.t)
    have r0a : ∀ x : TW [] V1, x.w.cell? ad = some (.int .i64 y0) := fun x => q0a _ (tV.then x.t)
    have u0 := q0 _ tV
    have u0a := q0a _ tV
    clear q0 q0a
    have r1 : ∀ x : TW [] V1, x.w.cell? ⟨ad.block, ad.off + 1, none⟩ = some (.int .i64 y1) := fun x => q1 _ (tV.then x.t)
    have u1 := q1 _ tV
    clear q1
    have ht : givesF i m ⟨7, a, b⟩ l = [bothV y0 y1] := by rw [← e0, ← e1]; simp [givesF, twoB]
    rw [ht]
    clear ht e0 e1 hlen hl
    generalize l.length = nl at *
    go_enter Tryd.func52, Tryd.ntmps52
    go_upto_region 1 with fail
    rw [← hV1, ← hg]
    clear hV1 hg
    go_wp2_with fail
    refine wp_region_tch_tail (L := []) (w0 := V1) 7 (by kernel_rfl) (by kernel_rfl) (Tch.refl [] V1) ?_
    simp only [List.take_succ_cons, List.take_zero, List.drop_succ_cons, List.drop_zero]
    repeat (go_big_quiet_step ((first | rfl | (go_at_call 67; exact tch_of_same (lab_Both _ _ _)))))
    refine wpQuiet_nil ?_
    intro w5 t5
    go_wp2_with fail
    refine (hf _ _).mono ?_
    rintro e w' ⟨rfl, rfl⟩
    go_wp2_with fail
    go_ret
    exact ⟨_, _, rfl, new_lit w5 [bothV y0 y1] #[.int .i64 (bothV y0 y1)] rfl [] (by simp), (tV.then t5).alloc _⟩
  · obtain ⟨y0, e0, ad, rfl, q0, _⟩ := at_ints hl 0 (by have := hlen; simp [takesF, twoB] at this; omega)
    have q0a : ∀ w', Tch [] w w' → w'.cell? ad = some (.int .i64 y0) := fun w' t => by have := q0 w' t; rwa [Addr_add_zero] at this
    have hl0 : 0 < l.length := (by have := hlen; simp [takesF, twoB] at this; omega)
    obtain ⟨y1, e1, _, ha1, _, q1i⟩ := at_ints hl 1 (by have := hlen; simp [takesF, twoB] at this; omega)
    simp only [Option.some.injEq] at ha1
    subst ha1
    have q1 := q1i (by decide)
    clear q1i
    have hl1 : 1 < l.length := (by have := hlen; simp [takesF, twoB] at this; omega)
    have r0 : ∀ x : TW [] V1, x.w.cell? (ad.add 0) = some (.int .i64 y0) := fun x => q0 _ (tV.then x.t)
    have r0a : ∀ x : TW [] V1, x.w.cell? ad = some (.int .i64 y0) := fun x => q0a _ (tV.then x.t)
    have u0 := q0 _ tV
    have u0a := q0a _ tV
    clear q0 q0a
    have r1 : ∀ x : TW [] V1, x.w.cell? ⟨ad.block, ad.off + 1, none⟩ = some (.int .i64 y1) := fun x => q1 _ (tV.then x.t)
    have u1 := q1 _ tV
    clear q1
    have ht : givesF i m ⟨8, a, b⟩ l = [bothV y0 y1] := by rw [← e0, ← e1]; simp [givesF, twoB]
    rw [ht]
    clear ht e0 e1 hlen hl
    generalize l.length = nl at *
    go_enter Tryd.func52, Tryd.ntmps52
    go_upto_region 1 with fail
    rw [← hV1, ← hg]
    clear hV1 hg
    go_wp2_with fail
    refine wp_region_tch_tail (L := []) (w0 := V1) 7 (by kernel_rfl) (by kernel_rfl) (Tch.refl [] V1) ?_
    simp only [List.take_succ_cons, List.take_zero, List.drop_succ_cons, List.drop_zero]
    repeat (go_big_quiet_step ((first | rfl | (go_at_call 67; exact tch_of_same (lab_Both _ _ _)))))
    refine wpQuiet_nil ?_
    intro w5 t5
    go_wp2_with fail
    refine (hf _ _).mono ?_
    rintro e w' ⟨rfl, rfl⟩
    go_wp2_with fail
    go_ret
    exact ⟨_, _, rfl, new_lit w5 [bothV y0 y1] #[.int .i64 (bothV y0 y1)] rfl [] (by simp), (tV.then t5).alloc _⟩
  · obtain ⟨y0, e0, ad, rfl, q0, _⟩ := at_ints hl 0 (by have := hlen; simp [takesF, twoB] at this; omega)
    have q0a : ∀ w', Tch [] w w' → w'.cell? ad = some (.int .i64 y0) := fun w' t => by have := q0 w' t; rwa [Addr_add_zero] at this
    have hl0 : 0 < l.length := (by have := hlen; simp [takesF, twoB] at this; omega)
    obtain ⟨y1, e1, _, ha1, _, q1i⟩ := at_ints hl 1 (by have := hlen; simp [takesF, twoB] at this; omega)
    simp only [Option.some.injEq] at ha1
    subst ha1
    have q1 := q1i (by decide)
    clear q1i
    have hl1 : 1 < l.length := (by have := hlen; simp [takesF, twoB] at this; omega)
    have r0 : ∀ x : TW [] V1, x.w.cell? (ad.add 0) = some (.int .i64 y0) := fun x => q0 _ (tV.then x.t)
    have r0a : ∀ x : TW [] V1, x.w.cell? ad = some (.int .i64 y0) := fun x => q0a _ (tV.then x.t)
    have u0 := q0 _ tV
    have u0a := q0a _ tV
    clear q0 q0a
    have r1 : ∀ x : TW [] V1, x.w.cell? ⟨ad.block, ad.off + 1, none⟩ = some (.int .i64 y1) := fun x => q1 _ (tV.then x.t)
    have u1 := q1 _ tV
    clear q1
    have ht : givesF i m ⟨9, a, b⟩ l = [bothV y0 y1] := by rw [← e0, ← e1]; simp [givesF, twoB]
    rw [ht]
    clear ht e0 e1 hlen hl
    generalize l.length = nl at *
    go_enter Tryd.func52, Tryd.ntmps52
    go_upto_region 1 with fail
    rw [← hV1, ← hg]
    clear hV1 hg
    go_wp2_with fail
    refine wp_region_tch_tail (L := []) (w0 := V1) 7 (by kernel_rfl) (by kernel_rfl) (Tch.refl [] V1) ?_
    simp only [List.take_succ_cons, List.take_zero, List.drop_succ_cons, List.drop_zero]
    repeat (go_big_quiet_step ((first | rfl | (go_at_call 67; exact tch_of_same (lab_Both _ _ _)))))
    refine wpQuiet_nil ?_
    intro w5 t5
    go_wp2_with fail
    refine (hf _ _).mono ?_
    rintro e w' ⟨rfl, rfl⟩
    go_wp2_with fail
    go_ret
    exact ⟨_, _, rfl, new_lit w5 [bothV y0 y1] #[.int .i64 (bothV y0 y1)] rfl [] (by simp), (tV.then t5).alloc _⟩
  · obtain ⟨y0, e0, ad, rfl, q0, _⟩ := at_ints hl 0 (by have := hlen; simp [takesF, twoB] at this; omega)
    have q0a : ∀ w', Tch [] w w' → w'.cell? ad = some (.int .i64 y0) := fun w' t => by have := q0 w' t; rwa [Addr_add_zero] at this
    have hl0 : 0 < l.length := (by have := hlen; simp [takesF, twoB] at this; omega)
    obtain ⟨y1, e1, _, ha1, _, q1i⟩ := at_ints hl 1 (by have := hlen; simp [takesF, twoB] at this; omega)
    simp only [Option.some.injEq] at ha1
    subst ha1
    have q1 := q1i (by decide)
    clear q1i
    have hl1 : 1 < l.length := (by have := hlen; simp [takesF, twoB] at this; omega)
    have r0 : ∀ x : TW [] V1, x.w.cell? (ad.add 0) = some (.int .i64 y0) := fun x => q0 _ (tV.then x.t)
    have r0a : ∀ x : TW [] V1, x.w.cell? ad = some (.int .i64 y0) := fun x => q0a _ (tV.then x.t)
    have u0 := q0 _ tV
    have u0a := q0a _ tV
    clear q0 q0a
    have r1 : ∀ x : TW [] V1, x.w.cell? ⟨ad.block, ad.off + 1, none⟩ = some (.int .i64 y1) := fun x => q1 _ (tV.then x.t)
    have u1 := q1 _ tV
    clear q1
    have ht : givesF i m ⟨10, a, b⟩ l = [bothV y0 y1] := by rw [← e0, ← e1]; simp [givesF, twoB]
    rw [ht]
    clear ht e0 e1 hlen hl
    generalize l.length = nl at *
    go_enter Tryd.func52, Tryd.ntmps52
    go_upto_region 1 with fail
    rw [← hV1, ← hg]
    clear hV1 hg
    go_wp2_with fail
    refine wp_region_tch_tail (L := []) (w0 := V1) 7 (by kernel_rfl) (by kernel_rfl) (Tch.refl [] V1) ?_
    simp only [List.take_succ_cons, List.take_zero, List.drop_succ_cons, List.drop_zero]
    repeat (go_big_quiet_step ((first | rfl | (go_at_call 67; exact tch_of_same (lab_Both _ _ _)))))
    refine wpQuiet_nil ?_
    intro w5 t5
    go_wp2_with fail
    refine (hf _ _).mono ?_
    rintro e w' ⟨rfl, rfl⟩
    go_wp2_with fail
    go_ret
    exact ⟨_, _, rfl, new_lit w5 [bothV y0 y1] #[.int .i64 (bothV y0 y1)] rfl [] (by simp), (tV.then t5).alloc _⟩
  · obtain ⟨y0, e0, ad, rfl, q0, _⟩ := at_ints hl 0 (by have := hlen; simp [takesF, twoB] at this; omega)
    have q0a : ∀ w', Tch [] w w' → w'.cell? ad = some (.int .i64 y0) := fun w' t => by have := q0 w' t; rwa [Addr_add_zero] at this
    have hl0 : 0 < l.length := (by have := hlen; simp [takesF, twoB] at this; omega)
    obtain ⟨y1, e1, _, ha1, _, q1i⟩ := at_ints hl 1 (by have := hlen; simp [takesF, twoB] at this; omega)
    simp only [Option.some.injEq] at ha1
    subst ha1
    have q1 := q1i (by decide)
    clear q1i
    have hl1 : 1 < l.length := (by have := hlen; simp [takesF, twoB] at this; omega)
    have r0 : ∀ x : TW [] V1, x.w.cell? (ad.add 0) = some (.int .i64 y0) := fun x => q0 _ (tV.then x.t)
    have r0a : ∀ x : TW [] V1, x.w.cell? ad = some (.int .i64 y0) := fun x => q0a _ (tV.then x.t)
    have u0 := q0 _ tV
    have u0a := q0a _ tV
    clear q0 q0a
    have r1 : ∀ x : TW [] V1, x.w.cell? ⟨ad.block, ad.off + 1, none⟩ = some (.int .i64 y1) := fun x => q1 _ (tV.then x.t)
    have u1 := q1 _ tV
    clear q1
    have ht : givesF i m ⟨11, a, b⟩ l = [bothV y0 y1] := by rw [← e0, ← e1]; simp [givesF, twoB]
    rw [ht]
    clear ht e0 e1 hlen hl
    generalize l.length = nl at *
    go_enter Tryd.func52, Tryd.ntmps52
    go_upto_region 1 with fail
    rw [← hV1, ← hg]
    clear hV1 hg
    go_wp2_with fail
    refine wp_region_tch_tail (L := []) (w0 := V1) 7 (by kernel_rfl) (by kernel_rfl) (Tch.refl [] V1) ?_
    simp only [List.take_succ_cons, List.take_zero, List.drop_succ_cons, List.drop_zero]
    repeat (go_big_quiet_step ((first | rfl | (go_at_call 67; exact tch_of_same (lab_Both _ _ _)))))
    refine wpQuiet_nil ?_
    intro w5 t5
    go_wp2_with fail
    refine (hf _ _).mono ?_
    rintro e w' ⟨rfl, rfl⟩
    go_wp2_with fail
    go_ret
    exact ⟨_, _, rfl, new_lit w5 [bothV y0 y1] #[.int .i64 (bothV y0 y1)] rfl [] (by simp), (tV.then t5).alloc _⟩
  · obtain ⟨y0, e0, ad, rfl, q0, _⟩ := at_ints hl 0 (by have := hlen; simp [takesF, twoB] at this; omega)
    have q0a : ∀ w', Tch [] w w' → w'.cell? ad = some (.int .i64 y0) := fun w' t => by have := q0 w' t; rwa [Addr_add_zero] at this
    have hl0 : 0 < l.length := (by have := hlen; simp [takesF, twoB] at this; omega)
    obtain ⟨y1, e1, _, ha1, _, q1i⟩ := at_ints hl 1 (by have := hlen; simp [takesF, twoB] at this; omega)
    simp only [Option.some.injEq] at ha1
    subst ha1
    have q1 := q1i (by decide)
    clear q1i
    have hl1 : 1 < l.length := (by have := hlen; simp [takesF, twoB] at this; omega)
    have r0 : ∀ x : TW [] V1, x.w.cell? (ad.add 0) = some (.int .i64 y0) := fun x => q0 _ (tV.then x.t)
    have r0a : ∀ x : TW [] V1, x.w.cell? ad = some (.int .i64 y0) := fun x => q0a _ (tV.then x.t)
    have u0 := q0 _ tV
    have u0a := q0a _ tV
    clear q0 q0a
    have r1 : ∀ x : TW [] V1, x.w.cell? ⟨ad.block, ad.off + 1, none⟩ = some (.int .i64 y1) := fun x => q1 _ (tV.then x.t)
    have u1 := q1 _ tV
    clear q1
    have ht : givesF i m ⟨12, a, b⟩ l = [bothV y0 y1] := by rw [← e0, ← e1]; simp [givesF, twoB]
    rw [ht]
    clear ht e0 e1 hlen hl
    generalize l.length = nl at *
    go_enter Tryd.func52, Tryd.ntmps52
    go_upto_region 1 with fail
    rw [← hV1, ← hg]
    clear hV1 hg
    go_wp2_with fail
    refine wp_region_tch_tail (L := []) (w0 := V1) 7 (by kernel_rfl) (by kernel_rfl) (Tch.refl [] V1) ?_
    simp only [List.take_succ_cons, List.take_zero, List.drop_succ_cons, List.drop_zero]
    repeat (go_big_quiet_step ((first | rfl | (go_at_call 67; exact tch_of_same (lab_Both _ _ _)))))
    refine wpQuiet_nil ?_
    intro w5 t5
    go_wp2_with fail
    refine (hf _ _).mono ?_
    rintro e w' ⟨rfl, rfl⟩
    go_wp2_with fail
    go_ret
    exact ⟨_, _, rfl, new_lit w5 [bothV y0 y1] #[.int .i64 (bothV y0 y1)] rfl [] (by simp), (tV.then t5).alloc _⟩
  · obtain ⟨y0, e0, ad, rfl, q0, _⟩ := at_ints hl 0 (by have := hlen; simp [takesF, twoB] at this; omega)
    have q0a : ∀ w', Tch [] w w' → w'.cell? ad = some (.int .i64 y0) := fun w' t => by have := q0 w' t; rwa [Addr_add_zero] at this
    have hl0 : 0 < l.length := (by have := hlen; simp [takesF, twoB] at this; omega)
    obtain ⟨y1, e1, _, ha1, _, q1i⟩ := at_ints hl 1 (by have := hlen; simp [takesF, twoB] at this; omega)
    simp only [Option.some.injEq] at ha1
    subst ha1
    have q1 := q1i (by decide)
    clear q1i
    have hl1 : 1 < l.length := (by have := hlen; simp [takesF, twoB] at this; omega)
    have r0 : ∀ x : TW [] V1, x.w.cell? (ad.add 0) = some (.int .i64 y0) := fun x => q0 _ (tV.then x.t)
    have r0a : ∀ x : TW [] V1, x.w.cell? ad = some (.int .i64 y0) := fun x => q0a _ (tV.then x.t)
    have u0 := q0 _ tV
    have u0a := q0a _ tV
    clear q0 q0a
    have r1 : ∀ x : TW [] V1, x.w.cell? ⟨ad.block, ad.off + 1, none⟩ = some (.int .i64 y1) := fun x => q1 _ (tV.then x.t)
    have u1 := q1 _ tV
    clear q1
    have ht : givesF i m ⟨13, a, b⟩ l = [bothV y0 y1] := by rw [← e0, ← e1]; simp [givesF, twoB]
    rw [ht]
    clear ht e0 e1 hlen hl
    generalize l.length = nl at *
    go_enter Tryd.func52, Tryd.ntmps52
    go_upto_region 1 with fail
    rw [← hV1, ← hg]
    clear hV1 hg
    go_wp2_with fail
    refine wp_region_tch_tail (L := []) (w0 := V1) 7 (by kernel_rfl) (by kernel_rfl) (Tch.refl [] V1) ?_
    simp only [List.take_succ_cons, List.take_zero, List.drop_succ_cons, List.drop_zero]
    repeat (go_big_quiet_step ((first | rfl | (go_at_call 67; exact tch_of_same (lab_Both _ _ _)))))
    refine wpQuiet_nil ?_
    intro w5 t5
    go_wp2_with fail
    refine (hf _ _).mono ?_
    rintro e w' ⟨rfl, rfl⟩
    go_wp2_with fail
    go_ret
    exact ⟨_, _, rfl, new_lit w5 [bothV y0 y1] #[.int .i64 (bothV y0 y1)] rfl [] (by simp), (tV.then t5).alloc _⟩
  · obtain ⟨y0, e0, ad, rfl, q0, _⟩ := at_ints hl 0 (by have := hlen; simp [takesF, twoB] at this; omega)
    have q0a : ∀ w', Tch [] w w' → w'.cell? ad = some (.int .i64 y0) := fun w' t => by have := q0 w' t; rwa [Addr_add_zero] at this
    have hl0 : 0 < l.length := (by have := hlen; simp [takesF, twoB] at this; omega)
    obtain ⟨y1, e1, _, ha1, _, q1i⟩ := at_ints hl 1 (by have := hlen; simp [takesF, twoB] at this; omega)
    simp only [Option.some.injEq] at ha1
    subst ha1
    have q1 := q1i (by decide)
    clear q1i
    have hl1 : 1 < l.length := (by have := hlen; simp [takesF, twoB] at this; omega)
    have r0 : ∀ x : TW [] V1, x.w.cell? (ad.add 0) = some (.int .i64 y0) := fun x => q0 _ (tV.then x.t)
    have r0a : ∀ x : TW [] V1, x.w.cell? ad = some (.int .i64 y0) := fun x => q0a _ (tV.then x.t)
    have u0 := q0 _ tV
    have u0a := q0a _ tV
    clear q0 q0a
    have r1 : ∀ x : TW [] V1, x.w.cell? ⟨ad.block, ad.off + 1, none⟩ = some (.int .i64 y1) := fun x => q1 _ (tV.then x.t)
    have u1 := q1 _ tV
    clear q1
    have ht : givesF i m ⟨14, a, b⟩ l = [bothV y0 y1] := by rw [← e0, ← e1]; simp [givesF, twoB]
    rw [ht]
    clear ht e0 e1 hlen hl
    generalize l.length = nl at *
    go_enter Tryd.func52, Tryd.ntmps52
    go_upto_region 1 with fail
    rw [← hV1, ← hg]
    clear hV1 hg
    go_wp2_with fail
    refine wp_region_tch_tail (L := []) (w0 := V1) 7 (by kernel_rfl) (by kernel_rfl) (Tch.refl [] V1) ?_
    simp only [List.take_succ_cons, List.take_zero, List.drop_succ_cons, List.drop_zero]
    repeat (go_big_quiet_step ((first | rfl | (go_at_call 67; exact tch_of_same (lab_Both _ _ _)))))
    refine wpQuiet_nil ?_
    intro w5 t5
    go_wp2_with fail
    refine (hf _ _).mono ?_
    rintro e w' ⟨rfl, rfl⟩
    go_wp2_with fail
    go_ret
    exact ⟨_, _, rfl, new_lit w5 [bothV y0 y1] #[.int .i64 (bothV y0 y1)] rfl [] (by simp), (tV.then t5).alloc _⟩
  · obtain ⟨y0, e0, ad, rfl, q0, _⟩ := at_ints hl 0 (by have := hlen; simp [takesF, twoB] at this; omega)
    have q0a : ∀ w', Tch [] w w' → w'.cell? ad = some (.int .i64 y0) := fun w' t => by have := q0 w' t; rwa [Addr_add_zero] at this
    have hl0 : 0 < l.length := (by have := hlen; simp [takesF, twoB] at this; omega)
    have r0 : ∀ x : TW [] V1, x.w.cell? (ad.add 0) = some (.int .i64 y0) := fun x => q0 _ (tV.then x.t)
    have r0a : ∀ x : TW [] V1, x.w.cell? ad = some (.int .i64 y0) := fun x => q0a _ (tV.then x.t)
    have u0 := q0 _ tV
    have u0a := q0a _ tV
    clear q0 q0a
    have ht : givesF i m ⟨15, a, b⟩ l = [y0] := by rw [← e0]; simp [givesF, twoB]
    rw [ht]
    clear ht e0 hlen hl
    generalize l.length = nl at *
    go_enter Tryd.func52, Tryd.ntmps52
    go_upto_region 1 with fail
    rw [← hV1, ← hg]
    clear hV1 hg
    go_wp2_with fail
    refine (hf _ _).mono ?_
    rintro e w' ⟨rfl, rfl⟩
    go_wp2_with fail
    go_ret
    exact ⟨_, _, rfl, new_lit V1 [y0] #[.int .i64 (y0)] rfl [] (by simp), tV.alloc _⟩
  · obtain ⟨y0, e0, ad, rfl, q0, _⟩ := at_ints hl 0 (by have := hlen; simp [takesF, twoB] at this; omega)
    have q0a : ∀ w', Tch [] w w' → w'.cell? ad = some (.int .i64 y0) := fun w' t => by have := q0 w' t; rwa [Addr_add_zero] at this
    have hl0 : 0 < l.length := (by have := hlen; simp [takesF, twoB] at this; omega)
    have r0 : ∀ x : TW [] V1, x.w.cell? (ad.add 0) = some (.int .i64 y0) := fun x => q0 _ (tV.then x.t)
    have r0a : ∀ x : TW [] V1, x.w.cell? ad = some (.int .i64 y0) := fun x => q0a _ (tV.then x.t)
    have u0 := q0 _ tV
    have u0a := q0a _ tV
    clear q0 q0a
    have ht : givesF i m ⟨16, a, b⟩ l = [y0] := by rw [← e0]; simp [givesF, twoB]
    rw [ht]
    clear ht e0 hlen hl
    generalize l.length = nl at *
    go_enter Tryd.func52, Tryd.ntmps52
    go_upto_region 1 with fail
    rw [← hV1, ← hg]
    clear hV1 hg
    go_wp2_with fail
    refine (hf _ _).mono ?_
    rintro e w' ⟨rfl, rfl⟩
    go_wp2_with fail
    go_ret
    exact ⟨_, _, rfl, new_lit V1 [y0] #[.int .i64 (y0)] rfl [] (by simp), tV.alloc _⟩
  · have ht : givesF i m ⟨17, a, b⟩ l = [1] := by simp [givesF, twoB]
    rw [ht]
    clear ht
    go_enter Tryd.func52, Tryd.ntmps52
    go_upto_region 1 with fail
    rw [← hV1, ← hg]
    clear hV1 hg
    go_wp2_with fail
    refine (hf _ _).mono ?_
    rintro e w' ⟨rfl, rfl⟩
    go_wp2_with fail
    go_ret
    exact ⟨_, _, rfl, new_lit V1 [1] #[.int .i64 (1)] rfl [] (by simp), tV.alloc _⟩
  · have ht : givesF i m ⟨18, a, b⟩ l = [1] := by simp [givesF, twoB]
    rw [ht]
    clear ht
    go_enter Tryd.func52, Tryd.ntmps52
    go_upto_region 1 with fail
    rw [← hV1, ← hg]
    clear hV1 hg
    go_wp2_with fail
    refine (hf _ _).mono ?_
    rintro e w' ⟨rfl, rfl⟩
    go_wp2_with fail
    go_ret
    exact ⟨_, _, rfl, new_lit V1 [1] #[.int .i64 (1)] rfl [] (by simp), tV.alloc _⟩
  · obtain ⟨y0, e0, ad, rfl, q0, _⟩ := at_ints hl 0 (by have := hlen; simp [takesF, twoB] at this; omega)
    have q0a : ∀ w', Tch [] w w' → w'.cell? ad = some (.int .i64 y0) := fun w' t => by have := q0 w' t; rwa [Addr_add_zero] at this
    have hl0 : 0 < l.length := (by have := hlen; simp [takesF, twoB] at this; omega)
    obtain ⟨y1, e1, _, ha1, _, q1i⟩ := at_ints hl 1 (by have := hlen; simp [takesF, twoB] at this; omega)
    simp only [Option.some.injEq] at ha1
    subst ha1
    have q1 := q1i (by decide)
    clear q1i
    have hl1 : 1 < l.length := (by have := hlen; simp [takesF, twoB] at this; omega)
    have r0 : ∀ x : TW [] V1, x.w.cell? (ad.add 0) = some (.int .i64 y0) := fun x => q0 _ (tV.then x.t)
    have r0a : ∀ x : TW [] V1, x.w.cell? ad = some (.int .i64 y0) := fun x => q0a _ (tV.then x.t)
    have u0 := q0 _ tV
    have u0a := q0a _ tV
    clear q0 q0a
    have r1 : ∀ x : TW [] V1, x.w.cell? ⟨ad.block, ad.off + 1, none⟩ = some (.int .i64 y1) := fun x => q1 _ (tV.then x.t)
    have u1 := q1 _ tV
    clear q1
    have ht : givesF i m ⟨19, a, b⟩ l = [bothV y0 y1] := by rw [← e0, ← e1]; simp [givesF, twoB]
    rw [ht]
    clear ht e0 e1 hlen hl
    generalize l.length = nl at *
    go_enter Tryd.func52, Tryd.ntmps52
    go_upto_region 1 with fail
    rw [← hV1, ← hg]
    clear hV1 hg
    go_wp2_with fail
    refine wp_region_tch_tail (L := []) (w0 := V1) 7 (by kernel_rfl) (by kernel_rfl) (Tch.refl [] V1) ?_
    simp only [List.take_succ_cons, List.take_zero, List.drop_succ_cons, List.drop_zero]
    repeat (go_big_quiet_step ((first | rfl | (go_at_call 67; exact tch_of_same (lab_Both _ _ _)))))
    refine wpQuiet_nil ?_
    intro w5 t5
    go_wp2_with fail
    refine (hf _ _).mono ?_
    rintro e w' ⟨rfl, rfl⟩
    go_wp2_with fail
    go_ret
    exact ⟨_, _, rfl, new_lit w5 [bothV y0 y1] #[.int .i64 (bothV y0 y1)] rfl [] (by simp), (tV.then t5).alloc _⟩
  · obtain ⟨y0, e0, ad, rfl, q0, _⟩ := at_ints hl 0 (by have := hlen; simp [takesF, twoB] at this; omega)
    have q0a : ∀ w', Tch [] w w' → w'.cell? ad = some (.int .i64 y0) := fun w' t => by have := q0 w' t; rwa [Addr_add_zero] at this
    have hl0 : 0 < l.length := (by have := hlen; simp [takesF, twoB] at this; omega)
    obtain ⟨y1, e1, _, ha1, _, q1i⟩ := at_ints hl 1 (by have := hlen; simp [takesF, twoB] at this; omega)
    simp only [Option.some.injEq] at ha1
    subst ha1
    have q1 := q1i (by decide)
    clear q1i
    have hl1 : 1 < l.length := (by have := hlen; simp [takesF, twoB] at this; omega)
    have r0 : ∀ x : TW [] V1, x.w.cell? (ad.add 0) = some (.int .i64 y0) := fun x => q0 _ (tV.then x.t)
    have r0a : ∀ x : TW [] V1, x.w.cell? ad = some (.int .i64 y0) := fun x => q0a _ (tV.then x.t)
    have u0 := q0 _ tV
    have u0a := q0a _ tV
    clear q0 q0a
    have r1 : ∀ x : TW [] V1, x.w.cell? ⟨ad.block, ad.off + 1, none⟩ = some (.int .i64 y1) := fun x => q1 _ (tV.then x.t)
    have u1 := q1 _ tV
    clear q1
    have ht : givesF i m ⟨20, a, b⟩ l = [bothV y0 y1] := by rw [← e0, ← e1]; simp [givesF, twoB]
    rw [ht]
    clear ht e0 e1 hlen hl
    generalize l.length = nl at *
    go_enter Tryd.func52, Tryd.ntmps52
    go_upto_region 1 with fail
    rw [← hV1, ← hg]
    clear hV1 hg
    go_wp2_with fail
    refine wp_region_tch_tail (L := []) (w0 := V1) 7 (by kernel_rfl) (by kernel_rfl) (Tch.refl [] V1) ?_
    simp only [List.take_succ_cons, List.take_zero, List.drop_succ_cons, List.drop_zero]
    repeat (go_big_quiet_step ((first | rfl | (go_at_call 67; exact tch_of_same (lab_Both _ _ _)))))
    refine wpQuiet_nil ?_
    intro w5 t5
    go_wp2_with fail
    refine (hf _ _).mono ?_
    rintro e w' ⟨rfl, rfl⟩
    go_wp2_with fail
    go_ret
    exact ⟨_, _, rfl, new_lit w5 [bothV y0 y1] #[.int .i64 (bothV y0 y1)] rfl [] (by simp), (tV.then t5).alloc _⟩
  · obtain ⟨y0, e0, ad, rfl, q0, _⟩ := at_ints hl 0 (by have := hlen; simp [takesF, twoB] at this; omega)
    have q0a : ∀ w', Tch [] w w' → w'.cell? ad = some (.int .i64 y0) := fun w' t => by have := q0 w' t; rwa [Addr_add_zero] at this
    have hl0 : 0 < l.length := (by have := hlen; simp [takesF, twoB] at this; omega)
    obtain ⟨y1, e1, _, ha1, _, q1i⟩ := at_ints hl 1 (by have := hlen; simp [takesF, twoB] at this; omega)
    simp only [Option.some.injEq] at ha1
    subst ha1
    have q1 := q1i (by decide)
    clear q1i
    have hl1 : 1 < l.length := (by have := hlen; simp [takesF, twoB] at this; omega)
    have r0 : ∀ x : TW [] V1, x.w.cell? (ad.add 0) = some (.int .i64 y0) := fun x => q0 _ (tV.then x.t)
    have r0a : ∀ x : TW [] V1, x.w.cell? ad = some (.int .i64 y0) := fun x => q0a _ (tV.then x.t)
    have u0 := q0 _ tV
    have u0a := q0a _ tV
    clear q0 q0a
    have r1 : ∀ x : TW [] V1, x.w.cell? ⟨ad.block, ad.off + 1, none⟩ = some (.int .i64 y1) := fun x => q1 _ (tV.then x.t)
    have u1 := q1 _ tV
    clear q1
    have ht : givesF i m ⟨21, a, b⟩ l = [bothV y0 y1] := by rw [← e0, ← e1]; simp [givesF, twoB]
    rw [ht]
    clear ht e0 e1 hlen hl
    generalize l.length = nl at *
    go_enter Tryd.func52, Tryd.ntmps52
    go_upto_region 1 with fail
    rw [← hV1, ← hg]
    clear hV1 hg
    go_wp2_with fail
    refine wp_region_tch_tail (L := []) (w0 := V1) 7 (by kernel_rfl) (by kernel_rfl) (Tch.refl [] V1) ?_
    simp only [List.take_succ_cons, List.take_zero, List.drop_succ_cons, List.drop_zero]
    repeat (go_big_quiet_step ((first | rfl | (go_at_call 67; exact tch_of_same (lab_Both _ _ _)))))
    refine wpQuiet_nil ?_
    intro w5 t5
    go_wp2_with fail
    refine (hf _ _).mono ?_
    rintro e w' ⟨rfl, rfl⟩
    go_wp2_with fail
    go_ret
    exact ⟨_, _, rfl, new_lit w5 [bothV y0 y1] #[.int .i64 (bothV y0 y1)] rfl [] (by simp), (tV.then t5).alloc _⟩
  · have ht : givesF i m ⟨22, a, b⟩ l = [pickV l] := by simp [givesF, twoB]
    rw [ht]
    have h3 : 3 ≤ l.length := by have := hlen; simp [takesF, twoB] at this; omega
    have hP := ve_pick V1 ao c l (hl.tch tV (by simp)) h3
    clear ht hlen hl
    generalize l.length = nl at *
    generalize pickV l = y at *
    go_enter Tryd.func52, Tryd.ntmps52
    go_upto_region 1 with fail
    rw [← hV1, ← hg]
    clear hV1 hg
    go_wp2_with fail
    refine hP.mono ?_
    rintro e w5 ⟨rfl, t5⟩
    go_wp2_with fail
    refine (hf _ _).mono ?_
    rintro e w' ⟨rfl, rfl⟩
    go_wp2_with fail
    go_ret
    exact ⟨_, _, rfl, new_lit w5 [y] #[.int .i64 (y)] rfl [] (by simp), (tV.then t5).alloc _⟩
  · have ht : givesF i m ⟨23, a, b⟩ l = [] := by simp [givesF, twoB]
    rw [ht]
    clear ht
    go_enter Tryd.func52, Tryd.ntmps52
    go_upto_region 1 with fail
    rw [← hV1, ← hg]
    clear hV1 hg
    go_wp2_with fail
    go_ret
    exact ⟨none, 0, rfl, ⟨.inl ⟨rfl, rfl, rfl⟩⟩, tV⟩
  · have ht : givesF i m ⟨24, a, b⟩ l = [] := by simp [givesF, twoB]
    rw [ht]
    clear ht
    go_enter Tryd.func52, Tryd.ntmps52
    go_upto_region 1 with fail
    rw [← hV1, ← hg]
    clear hV1 hg
    go_wp2_with fail
    go_ret
    exact ⟨none, 0, rfl, ⟨.inl ⟨rfl, rfl, rfl⟩⟩, tV⟩
  · have ht : givesF i m ⟨25, a, b⟩ l = [a] := by simp [givesF, twoB]
    rw [ht]
    clear ht
    go_enter Tryd.func52, Tryd.ntmps52
    go_upto_region 1 with fail
    rw [← hV1, ← hg]
    clear hV1 hg
    go_wp2_with fail
    refine (hf _ _).mono ?_
    rintro e w' ⟨rfl, rfl⟩
    go_wp2_with fail
    go_ret
    exact ⟨_, _, rfl, new_lit V1 [a] #[.int .i64 (a)] rfl [] (by simp), tV.alloc _⟩
  · have ht : givesF i m ⟨26, a, b⟩ l = [1] := by simp [givesF, twoB]
    rw [ht]
    clear ht
    go_enter Tryd.func52, Tryd.ntmps52
    go_upto_region 1 with fail
    rw [← hV1, ← hg]
    clear hV1 hg
    go_wp2_with fail
    refine (hf _ _).mono ?_
    rintro e w' ⟨rfl, rfl⟩
    go_wp2_with fail
    go_ret
    exact ⟨_, _, rfl, new_lit V1 [1] #[.int .i64 (1)] rfl [] (by simp), tV.alloc _⟩
  · have ht : givesF i m ⟨27, a, b⟩ l = [a] := by simp [givesF, twoB]
    rw [ht]
    clear ht
    go_enter Tryd.func52, Tryd.ntmps52
    go_upto_region 1 with fail
    rw [← hV1, ← hg]
    clear hV1 hg
    go_wp2_with fail
    refine (hf _ _).mono ?_
    rintro e w' ⟨rfl, rfl⟩
    go_wp2_with fail
    go_ret
    exact ⟨_, _, rfl, new_lit V1 [a] #[.int .i64 (a)] rfl [] (by simp), tV.alloc _⟩
  · have ht : givesF i m ⟨28, a, b⟩ l = [1] := by simp [givesF, twoB]
    rw [ht]
    clear ht
    go_enter Tryd.func52, Tryd.ntmps52
    go_upto_region 1 with fail
    rw [← hV1, ← hg]
    clear hV1 hg
    go_wp2_with fail
    refine (hf _ _).mono ?_
    rintro e w' ⟨rfl, rfl⟩
    go_wp2_with fail
    go_ret
    exact ⟨_, _, rfl, new_lit V1 [1] #[.int .i64 (1)] rfl [] (by simp), tV.alloc _⟩
  · obtain ⟨y0, e0, ad, rfl, q0, _⟩ := at_ints hl 0 (by have := hlen; simp [takesF, twoB] at this; omega)
    have q0a : ∀ w', Tch [] w w' → w'.cell? ad = some (.int .i64 y0) := fun w' t => by have := q0 w' t; rwa [Addr_add_zero] at this
    have hl0 : 0 < l.length := (by have := hlen; simp [takesF, twoB] at this; omega)
    have r0 : ∀ x : TW [] V1, x.w.cell? (ad.add 0) = some (.int .i64 y0) := fun x => q0 _ (tV.then x.t)
    have r0a : ∀ x : TW [] V1, x.w.cell? ad = some (.int .i64 y0) := fun x => q0a _ (tV.then x.t)
    have u0 := q0 _ tV
    have u0a := q0a _ tV
    clear q0 q0a
    have ht : givesF i m ⟨29, a, b⟩ l = [ofV y0] := by rw [← e0]; simp [givesF, twoB]
    rw [ht]
    clear ht e0 hlen hl
    generalize l.length = nl at *
    go_enter Tryd.func52, Tryd.ntmps52
    go_upto_region 1 with fail
    rw [← hV1, ← hg]
    clear hV1 hg
    go_wp2_with fail
    refine (lab_Of y0 _).mono ?_
    rintro e w' ⟨rfl, rfl⟩
    go_wp2_with fail
    refine (hf _ _).mono ?_
    rintro e w' ⟨rfl, rfl⟩
    go_wp2_with fail
    go_ret
    exact ⟨_, _, rfl, new_lit V1 [ofV y0] #[.int .i64 (ofV y0)] rfl [] (by simp), tV.alloc _⟩
  · have ht : givesF i m ⟨30, a, b⟩ l = [] := by simp [givesF, twoB]
    rw [ht]
    clear ht
    go_enter Tryd.func52, Tryd.ntmps52
    go_upto_region 1 with fail
    rw [← hV1, ← hg]
    clear hV1 hg
    go_wp2_with fail
    go_ret
    exact ⟨none, 0, rfl, ⟨.inl ⟨rfl, rfl, rfl⟩⟩, tV⟩
  · have ht : givesF i m ⟨31, a, b⟩ l = [] := by simp [givesF, twoB]
    rw [ht]
    clear ht
    go_enter Tryd.func52, Tryd.ntmps52
    go_upto_region 1 with fail
    rw [← hV1, ← hg]
    clear hV1 hg
    go_wp2_with fail
    go_ret
    exact ⟨none, 0, rfl, ⟨.inl ⟨rfl, rfl, rfl⟩⟩, tV⟩
  · obtain ⟨y0, e0, ad, rfl, q0, _⟩ := at_ints hl 0 (by have := hlen; simp [takesF, twoB] at this; omega)
    have q0a : ∀ w', Tch [] w w' → w'.cell? ad = some (.int .i64 y0) := fun w' t => by have := q0 w' t; rwa [Addr_add_zero] at this
    have hl0 : 0 < l.length := (by have := hlen; simp [takesF, twoB] at this; omega)
    obtain ⟨y2, e2, _, ha2, _, q2i⟩ := at_ints hl 2 (by have := hlen; simp [takesF, twoB] at this; omega)
    simp only [Option.some.injEq] at ha2
    subst ha2
    have q2 := q2i (by decide)
    clear q2i
    have hl2 : 2 < l.length := (by have := hlen; simp [takesF, twoB] at this; omega)
    have r0 : ∀ x : TW [] V1, x.w.cell? (ad.add 0) = some (.int .i64 y0) := fun x => q0 _ (tV.then x.t)
    have r0a : ∀ x : TW [] V1, x.w.cell? ad = some (.int .i64 y0) := fun x => q0a _ (tV.then x.t)
    have u0 := q0 _ tV
    have u0a := q0a _ tV
    clear q0 q0a
    have r2 : ∀ x : TW [] V1, x.w.cell? ⟨ad.block, ad.off + 2, none⟩ = some (.int .i64 y2) := fun x => q2 _ (tV.then x.t)
    have u2 := q2 _ tV
    clear q2
    have ht : givesF i m ⟨32, a, b⟩ l = if y0 == 4 || y2 == 4 then [2] else [1] := by rw [← e0, ← e2]; simp [givesF, twoB]
    rw [ht]
    clear ht e0 e2 hlen hl
    generalize l.length = nl at *
    by_cases h0 : y0 = 4
    · subst h0
      rw [if_pos (by simp)]
      go_enter Tryd.func52, Tryd.ntmps52
      go_upto_region 1 with fail
      rw [← hV1, ← hg]
      clear hV1 hg
      go_wp2_with fail
      refine (hf _ _).mono ?_
      rintro e w' ⟨rfl, rfl⟩
      go_wp2_with fail
      go_ret
      exact ⟨_, _, rfl, new_lit V1 [2] #[.int .i64 2] rfl [] (by simp), tV.alloc _⟩
    · have b0 : (y0 == 4) = false := beq_eq_false_iff_ne.2 h0
      by_cases h2 : y2 = 4
      · subst h2
        rw [if_pos (by simp)]
        go_enter Tryd.func52, Tryd.ntmps52
        go_upto_region 1 with fail
        rw [← hV1, ← hg]
        clear hV1 hg
        go_wp2_with fail
        refine (hf _ _).mono ?_
        rintro e w' ⟨rfl, rfl⟩
        go_wp2_with fail
        go_ret
        exact ⟨_, _, rfl, new_lit V1 [2] #[.int .i64 2] rfl [] (by simp), tV.alloc _⟩
      · have b2 : (y2 == 4) = false := beq_eq_false_iff_ne.2 h2
        rw [if_neg (by simp [h0, h2])]
        go_enter Tryd.func52, Tryd.ntmps52
        go_upto_region 1 with fail
        rw [← hV1, ← hg]
        clear hV1 hg
        go_wp2_with fail
        refine (hf _ _).mono ?_
        rintro e w' ⟨rfl, rfl⟩
        go_wp2_with fail
        go_ret
        exact ⟨_, _, rfl, new_lit V1 [1] #[.int .i64 1] rfl [] (by simp), tV.alloc _⟩
  · have ha : a.toNat < i.fields.length := by simp [namesF] at hn; omega
    have ht : givesF i m ⟨33, a, b⟩ l = [i.fields[a.toNat]] := by simp [givesF, twoB, List.getD, List.getElem?_eq_getElem ha]
    rw [ht]
    clear ht
    obtain ⟨ad, hax, _, _, hq⟩ := Src.at h1.rf (j := a.toNat) (by simpa using ha)
    have hq0 : V1.cell? (ad.add a.toNat) = some (.int .i64 i.fields[a.toNat]) := by rw [ints_get] at hq; exact hq
    obtain ⟨k, hk⟩ : ∃ k : Nat, a = k := ⟨a.toNat, by omega⟩
    subst hk
    simp only [Int.toNat_natCast] at hq0 ha ⊢
    have hcx : ∀ x : TW [] V1, x.w.cell? (ad.add k) = some (.int .i64 i.fields[k]) := fun x => by rw [x.t.cell (cell_lt hq0) (by simp)]; exact hq0
    have hc1 : ∀ x : TW [] V1, x.w.cell? ⟨p, 1, none⟩ = some (.slice (some ad) i.fields.length V.cf) := fun x => by rw [x.t.cell (cell_lt c1) (by simp), c1, hax]
    have hd1 : ∀ x : TW [] V1, x.w.cell? ⟨g, 1, none⟩ = some (.int .i64 (k : Int)) := fun x => by rw [x.t.cell (cell_lt d1) (by simp)]; exact d1
    clear hl hlen
    clear hq hq0 c1 hax
    generalize i.fields[k] = x0 at *
    generalize i.fields.length = nl at *
    go_enter Tryd.func52, Tryd.ntmps52
    go_upto_region 1 with fail
    rw [← hV1, ← hg]
    clear hV1 hg
    go_wp2_with fail
    refine wp_region_tch_tail (L := []) (w0 := V1) 9 (by kernel_rfl) (by kernel_rfl) (Tch.refl [] V1) ?_
    simp only [List.take_succ_cons, List.take_zero, List.drop_succ_cons, List.drop_zero]
    repeat (go_big_quiet_step (rfl))
    refine wpQuiet_nil ?_
    intro w5 t5
    go_wp2_with fail
    refine (hf _ _).mono ?_
    rintro e w' ⟨rfl, rfl⟩
    go_wp2_with fail
    go_ret
    exact ⟨_, _, rfl, new_lit w5 [x0] #[.int .i64 x0] rfl [] (by simp), (tV.then t5).alloc _⟩
  · have ht : givesF i m ⟨34, a, b⟩ l = [] := by simp [givesF, twoB]
    rw [ht]
    clear ht
    go_enter Tryd.func52, Tryd.ntmps52
    go_upto_region 1 with fail
    rw [← hV1, ← hg]
    clear hV1 hg
    go_wp2_with fail
    go_ret
    exact ⟨none, 0, rfl, ⟨.inl ⟨rfl, rfl, rfl⟩⟩, tV⟩
  · have ht : givesF i m ⟨35, a, b⟩ l = [3 + a - 1] := by simp [givesF, twoB]
    rw [ht]
    clear ht
    go_enter Tryd.func52, Tryd.ntmps52
    go_upto_region 1 with fail
    rw [← hV1, ← hg]
    clear hV1 hg
    go_wp2_with fail
    refine (hf _ _).mono ?_
    rintro e w' ⟨rfl, rfl⟩
    go_wp2_with fail
    go_ret
    exact ⟨_, _, rfl, new_lit V1 [3 + a - 1] #[.int .i64 (3 + a - 1)] rfl [] (by simp), tV.alloc _⟩
  · have ht : givesF i m ⟨36, a, b⟩ l = [] := by simp [givesF, twoB]
    rw [ht]
    clear ht
    go_enter Tryd.func52, Tryd.ntmps52
    go_upto_region 1 with fail
    rw [← hV1, ← hg]
    clear hV1 hg
    go_wp2_with fail
    go_ret
    exact ⟨none, 0, rfl, ⟨.inl ⟨rfl, rfl, rfl⟩⟩, tV⟩
  · have ha : a.toNat < i.methods.length := by simp [namesF] at hn; omega
    obtain ⟨k, hk⟩ : ∃ k : Nat, a = k := ⟨a.toNat, by omega⟩
    subst hk
    simp only [Int.toNat_natCast] at ha
    have ht : givesF i m ⟨37, k, b⟩ l = resL (i.methods[k]).result := by simp [givesF, twoB, methAt, List.getD, List.getElem?_eq_getElem ha]
    rw [ht]
    clear ht
    obtain ⟨ad, vp, vl, vc, hax, hadl, ip, _, _, hcc⟩ := RMths.at h1.rm ha
    have q0 := hcc 1 _ rfl
    have q1 : V1.cell? ⟨(ad.add (k * 4)).block, (ad.add (k * 4)).off + 1, none⟩ = some (.int .i64 (i.methods[k]).result) := q0
    rw [hax] at c3
    clear hcc hax hl hlen q0
    generalize (i.methods[k]).result = rs at *
    have z1 : ∀ x : TW [] V1, x.w.cell? ⟨(ad.add (k * 4)).block, (ad.add (k * 4)).off + 1, none⟩ = some (.int .i64 rs) := fun x => by rw [x.t.cell (cell_lt q1) (by simp)]; exact q1
    have z2 : ∀ x : TW [] V1, x.w.cell? ⟨p, 3, none⟩ = some (.slice (some ad) i.methods.length V.cm) := fun x => (x.t.cell (cell_lt c3) (by simp)).trans c3
    have z3 : ∀ x : TW [] V1, x.w.cell? ⟨g, 1, none⟩ = some (.int .i64 (k : Int)) := fun x => by rw [x.t.cell (cell_lt d1) (by simp)]; exact d1
    clear q1 c3
    go_enter Tryd.func52, Tryd.ntmps52
    go_upto_region 1 with fail
    rw [← hV1, ← hg]
    clear hV1 hg
    go_wp2_with fail
    refine wp_region_tch_tail (L := []) (w0 := V1) 10 (by kernel_rfl) (by kernel_rfl) (Tch.refl [] V1) ?_
    simp only [List.take_succ_cons, List.take_zero, List.drop_succ_cons, List.drop_zero]
    repeat (go_big_quiet_step ((first | rfl)))
    refine wpQuiet_nil ?_
    intro w5 t5
    go_wp2_with fail
    refine (hr _ _).mono ?_
    rintro e w' ⟨⟨ao2, cap2, rfl, hN⟩, t6⟩
    go_wp2_with fail
    go_ret
    exact ⟨ao2, cap2, rfl, hN [] (by simp), (tV.then t5).then t6⟩
  · have ha : a.toNat < i.imports.length := by simp [namesF] at hn; omega
    obtain ⟨k, hk⟩ : ∃ k : Nat, a = k := ⟨a.toNat, by omega⟩
    subst hk
    simp only [Int.toNat_natCast] at ha
    have ht : givesF i m ⟨38, k, b⟩ l = resL (i.imports[k]).result := by simp [givesF, twoB, impAt, List.getD, List.getElem?_eq_getElem ha]
    rw [ht]
    clear ht
    obtain ⟨ad, vp, hax, hadl, ip, hcc⟩ := RImps.at h1.ri ha
    have q0 := hcc 3 _ rfl
    have q1 : V1.cell? ⟨(ad.add (k * 4)).block, (ad.add (k * 4)).off + 3, none⟩ = some (.int .i64 (i.imports[k]).result) := q0
    rw [hax] at c2
    clear hcc hax hl hlen q0
    generalize (i.imports[k]).result = rs at *
    have z1 : ∀ x : TW [] V1, x.w.cell? ⟨(ad.add (k * 4)).block, (ad.add (k * 4)).off + 3, none⟩ = some (.int .i64 rs) := fun x => by rw [x.t.cell (cell_lt q1) (by simp)]; exact q1
    have z2 : ∀ x : TW [] V1, x.w.cell? ⟨p, 2, none⟩ = some (.slice (some ad) i.imports.length V.ci) := fun x => (x.t.cell (cell_lt c2) (by simp)).trans c2
    have z3 : ∀ x : TW [] V1, x.w.cell? ⟨g, 1, none⟩ = some (.int .i64 (k : Int)) := fun x => by rw [x.t.cell (cell_lt d1) (by simp)]; exact d1
    clear q1 c2
    go_enter Tryd.func52, Tryd.ntmps52
    go_upto_region 1 with fail
    rw [← hV1, ← hg]
    clear hV1 hg
    go_wp2_with fail
    refine wp_region_tch_tail (L := []) (w0 := V1) 10 (by kernel_rfl) (by kernel_rfl) (Tch.refl [] V1) ?_
    simp only [List.take_succ_cons, List.take_zero, List.drop_succ_cons, List.drop_zero]
    repeat (go_big_quiet_step ((first | rfl)))
    refine wpQuiet_nil ?_
    intro w5 t5
    go_wp2_with fail
    refine (hr _ _).mono ?_
    rintro e w' ⟨⟨ao2, cap2, rfl, hN⟩, t6⟩
    go_wp2_with fail
    go_ret
    exact ⟨ao2, cap2, rfl, hN [] (by simp), (tV.then t5).then t6⟩
  · have ht : givesF i m ⟨39, a, b⟩ l = [] := by simp [givesF, twoB]
    rw [ht]
    clear ht
    go_enter Tryd.func52, Tryd.ntmps52
    go_upto_region 1 with fail
    rw [← hV1, ← hg]
    clear hV1 hg
    go_wp2_with fail
    go_ret
    exact ⟨none, 0, rfl, ⟨.inl ⟨rfl, rfl, rfl⟩⟩, tV⟩
end Go.Proofs.YtpabkjjonbhdeaaDoor
