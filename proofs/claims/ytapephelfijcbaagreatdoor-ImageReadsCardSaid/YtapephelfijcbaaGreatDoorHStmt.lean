/-
  CONTRACTS: the maker of applets' code: stmt, the plain cases. Conditions: its memory is its own, its counts are small.
-/
import Derived.Test.YtapephelfijcbaaGreatDoorHAny
namespace Go.Proofs.YtapephelfijcbaaGreatDoor
open Go.RowKit Go.Tcn
set_option linter.unusedVariables false
set_option linter.unusedSimpArgs false
set_option linter.unusedSectionVars false
variable [OkP]
theorem rem50 (c : Int) : -50 < c.tmod 50 ∧ c.tmod 50 < 50 := ⟨Int.lt_tmod_of_pos c (by omega), Int.tmod_lt_of_pos c (by omega)⟩

set_option maxRecDepth 100000 in
set_option maxHeartbeats 4000000 in
theorem mk_stmt_0 (w : World) (p row : Nat) (c : List Ins) (n : List Int) (q : Nat) (kd : List Int) (h : Mk 110 47 2 w p row c n q kd 0) (hn6 : I64s n) (hnl : n.length ≤ 9223372036854775807) (hq : q ≤ 500000) (hl : c.length ≤ 500000) (hkl : kd.length ≤ 10) (hkd : ∀ k ∈ kd, 1 ≤ k ∧ k ≤ 4)
    (W0 : World) (t0 : Tch [] W0 w) (hp0 : W0.heap.size ≤ p) (hr0 : W0.heap.size ≤ row) (o a b cc : Int) (ho6 : I6 o) (ha6 : I6 a) (hb6 : I6 b)
    (vst : Value) (st : List Int) (hst : Src w [p, row] vst st.length (ints st)) (hsr : ∀ s ∈ st, 0 ≤ s ∧ s ≤ 119) (hstl : st.length ≤ 1000)
    (vms : Value) (ms : List Mth) (hms : RMths W0 [] vms ms) (hm1 : 1 ≤ ms.length ∧ ms.length ≤ 8) (hmp : ∀ m ∈ ms, m.params.length ≤ 10 ∧ ∀ k ∈ m.params, 1 ≤ k ∧ k ≤ 4)
    (vim : Value) (im : List Imp) (him : RImps W0 [] vim im) (hi1 : im.length ≤ 4) (hip : ∀ m ∈ im, m.params.length ≤ 10 ∧ ∀ k ∈ m.params, 1 ≤ k ∧ k ≤ 4) (e1 : o % 16 = 0) :
    Calls Tryz.prog 91 #[.pointer (some ⟨p, 0, none⟩), .agg #[.int .i64 o, .int .i64 a, .int .i64 b, .int .i64 cc], vst, vms, vim] w fun e w' => e = .returned (.tuple #[]) ∧ MkTo 110 47 2 p row c n q kd 0 40000 w w' := by
  have hpo := fun w => hand_Pick o 16 ho6 (by omega) (by omega) w
  rw [e1] at hpo
  clear e1
  have tA : Tch [] w (w.alloc (.cells #[.int .i64 o, .int .i64 a, .int .i64 b, .int .i64 cc] 112)) := (Tch.refl [] w).alloc _
  have hA := h.tch tA (by simp)
  have LA : Lk p row c.length q 0 w row c.length q (w.alloc (.cells #[.int .i64 o, .int .i64 a, .int .i64 b, .int .i64 cc] 112)) := ⟨by omega, by omega, .inl rfl, tA.nil⟩
  have hX := Bq.new w (.int .i64 o) (.int .i64 a) (.int .i64 b) (.int .i64 cc) 112
  have hplt := h.lt
  have hrlt := h.row_lt
  obtain ⟨W, hW⟩ : ∃ W, W = w.alloc (.cells #[.int .i64 o, .int .i64 a, .int .i64 b, .int .i64 cc] 112) := ⟨_, rfl⟩
  rw [← hW] at tA hA LA hX
  obtain ⟨x0, x1, x2, x3⟩ := hX
  go_enter Tryz.func91, Tryz.ntmps91
  go_upto_region 1 with fail
  rw [← hW]
  clear hW h
  go_wp2_with fail
  refine (hpo _).mono ?_
  rintro e w' ⟨rfl, rfl⟩
  clear hpo x0 x3
  clear x2
  obtain ⟨vc, vn, vk, hv, _, _, _, _, hk⟩ := id hA.ex
  obtain ⟨ak, capk, rfl⟩ := hk.form
  have c3 : W.cell? ⟨p, 3, none⟩ = some (.slice ak kd.length capk) := by simp [World.cell?, hv]
  clear hv
  by_cases h0 : kd.length = 0
  · have h0b : (((kd.length : Nat) : Int) == 0) = true := by simp [h0]
    have H0 := Lib.hid h0; clear h0
    go_wp2_with fail
    refine bodyPost_ret (v := .tuple #[]) (results_none rfl _ _ _) rfl ?_
    exact ⟨rfl, c, q, row, hA, LA.mono (by omega)⟩
  · have h0b : (((kd.length : Nat) : Int) == 0) = false := by simpa using h0
    obtain ⟨j, hj⟩ : ∃ j : Nat, a % (kd.length : Int) = (j : Int) := ⟨(a % (kd.length : Int)).toNat, by have := Int.emod_nonneg a (show (kd.length : Int) ≠ 0 by omega); omega⟩
    have hjl : j < kd.length := by have := Int.emod_lt_of_pos a (show (0 : Int) < (kd.length : Int) by omega); omega
    have hpk := fun w => hand_Pick a kd.length ha6 (by omega) (by omega) w
    rw [hj] at hpk
    clear hj
    obtain ⟨ad, rfl, _, _, hcj⟩ := hk.at (j := j) (by simpa using hjl)
    have hcj2 : W.cell? (ad.add j) = some (.int .i64 kd[j]) := by simpa [ints] using hcj
    have hkj := hkd kd[j] (List.getElem_mem hjl)
    clear hcj hk
    generalize kd[j] = kj at *
    go_upto_region 8 with fail
    go_quiet ((go_at_call 6; exact Calls.quiet_of_same ((hpk _).mono fun _ _ h => ⟨h.1, h.2.symm⟩)))
    have tB := (Tch.refl [] W).drewN nq
    have hB := hA.tch tB (by simp)
    have LB : Lk p row c.length q 0 W row c.length q (W.drewN nq) := ⟨by omega, by omega, .inl rfl, tB.nil⟩
    clear hpk
    go_wp2_with fail
    refine (mk_any _ p row c n q kd hB hn6 hnl (by omega) (by omega) hkl kj hkj).mono ?_
    rintro e w1 ⟨rfl, c1, q1, r1, h1, L1⟩
    have a1 := L1.q; have b1 := L1.l
    clear hcj2 c3
    go_wp2_with fail
    refine (mk_putTo _ p r1 c1 n q1 kd 0 h1 3 (j : Int) 0 (ok_store _ (by omega)) (by omega)).mono ?_
    rintro e w2 ⟨rfl, c2, q2, r2, h2, L2⟩
    have a2 := L2.q; have b2 := L2.l
    go_wp2_with fail
    go_end0
    exact ⟨rfl, c2, q2, r2, h2, (((LA.trans LB).trans L1).trans L2).mono (by omega)⟩

set_option maxRecDepth 100000 in
set_option maxHeartbeats 4000000 in
theorem mk_stmt_1 (w : World) (p row : Nat) (c : List Ins) (n : List Int) (q : Nat) (kd : List Int) (h : Mk 110 47 2 w p row c n q kd 0) (hn6 : I64s n) (hnl : n.length ≤ 9223372036854775807) (hq : q ≤ 500000) (hl : c.length ≤ 500000) (hkl : kd.length ≤ 10) (hkd : ∀ k ∈ kd, 1 ≤ k ∧ k ≤ 4)
    (W0 : World) (t0 : Tch [] W0 w) (hp0 : W0.heap.size ≤ p) (hr0 : W0.heap.size ≤ row) (o a b cc : Int) (ho6 : I6 o) (ha6 : I6 a) (hb6 : I6 b)
    (vst : Value) (st : List Int) (hst : Src w [p, row] vst st.length (ints st)) (hsr : ∀ s ∈ st, 0 ≤ s ∧ s ≤ 119) (hstl : st.length ≤ 1000)
    (vms : Value) (ms : List Mth) (hms : RMths W0 [] vms ms) (hm1 : 1 ≤ ms.length ∧ ms.length ≤ 8) (hmp : ∀ m ∈ ms, m.params.length ≤ 10 ∧ ∀ k ∈ m.params, 1 ≤ k ∧ k ≤ 4)
    (vim : Value) (im : List Imp) (him : RImps W0 [] vim im) (hi1 : im.length ≤ 4) (hip : ∀ m ∈ im, m.params.length ≤ 10 ∧ ∀ k ∈ m.params, 1 ≤ k ∧ k ≤ 4) (e1 : o % 16 = 1) :
    Calls Tryz.prog 91 #[.pointer (some ⟨p, 0, none⟩), .agg #[.int .i64 o, .int .i64 a, .int .i64 b, .int .i64 cc], vst, vms, vim] w fun e w' => e = .returned (.tuple #[]) ∧ MkTo 110 47 2 p row c n q kd 0 40000 w w' := by
  have hpo := fun w => hand_Pick o 16 ho6 (by omega) (by omega) w
  rw [e1] at hpo
  clear e1
  have tA : Tch [] w (w.alloc (.cells #[.int .i64 o, .int .i64 a, .int .i64 b, .int .i64 cc] 112)) := (Tch.refl [] w).alloc _
  have hA := h.tch tA (by simp)
  have LA : Lk p row c.length q 0 w row c.length q (w.alloc (.cells #[.int .i64 o, .int .i64 a, .int .i64 b, .int .i64 cc] 112)) := ⟨by omega, by omega, .inl rfl, tA.nil⟩
  have hX := Bq.new w (.int .i64 o) (.int .i64 a) (.int .i64 b) (.int .i64 cc) 112
  have hplt := h.lt
  have hrlt := h.row_lt
  obtain ⟨W, hW⟩ : ∃ W, W = w.alloc (.cells #[.int .i64 o, .int .i64 a, .int .i64 b, .int .i64 cc] 112) := ⟨_, rfl⟩
  rw [← hW] at tA hA LA hX
  obtain ⟨x0, x1, x2, x3⟩ := hX
  go_enter Tryz.func91, Tryz.ntmps91
  go_upto_region 1 with fail
  rw [← hW]
  clear hW h
  go_wp2_with fail
  refine (hpo _).mono ?_
  rintro e w' ⟨rfl, rfl⟩
  clear hpo x0 x3
  clear x2
  obtain ⟨vc, vn, vk, hv, _, _, _, _, hk⟩ := id hA.ex
  obtain ⟨ak, capk, rfl⟩ := hk.form
  have c3 : W.cell? ⟨p, 3, none⟩ = some (.slice ak kd.length capk) := by simp [World.cell?, hv]
  clear hv
  by_cases h0 : kd.length = 0
  · have h0b : (((kd.length : Nat) : Int) == 0) = true := by simp [h0]
    have H0 := Lib.hid h0; clear h0
    go_wp2_with fail
    refine bodyPost_ret (v := .tuple #[]) (results_none rfl _ _ _) rfl ?_
    exact ⟨rfl, c, q, row, hA, LA.mono (by omega)⟩
  · have h0b : (((kd.length : Nat) : Int) == 0) = false := by simpa using h0
    obtain ⟨j, hj⟩ : ∃ j : Nat, a % (kd.length : Int) = (j : Int) := ⟨(a % (kd.length : Int)).toNat, by have := Int.emod_nonneg a (show (kd.length : Int) ≠ 0 by omega); omega⟩
    have hjl : j < kd.length := by have := Int.emod_lt_of_pos a (show (0 : Int) < (kd.length : Int) by omega); omega
    have hpk := fun w => hand_Pick a kd.length ha6 (by omega) (by omega) w
    rw [hj] at hpk
    clear hj
    obtain ⟨ad, rfl, _, _, hcj⟩ := hk.at (j := j) (by simpa using hjl)
    have hcj2 : W.cell? (ad.add j) = some (.int .i64 kd[j]) := by simpa [ints] using hcj
    have hkj := hkd kd[j] (List.getElem_mem hjl)
    clear hcj hk
    generalize kd[j] = kj at *
    go_upto_region 8 with fail
    go_quiet ((go_at_call 6; exact Calls.quiet_of_same ((hpk _).mono fun _ _ h => ⟨h.1, h.2.symm⟩)))
    have tB := (Tch.refl [] W).drewN nq
    have hB := hA.tch tB (by simp)
    have LB : Lk p row c.length q 0 W row c.length q (W.drewN nq) := ⟨by omega, by omega, .inl rfl, tB.nil⟩
    clear hpk
    go_wp2_with fail
    refine (mk_any _ p row c n q kd hB hn6 hnl (by omega) (by omega) hkl kj hkj).mono ?_
    rintro e w1 ⟨rfl, c1, q1, r1, h1, L1⟩
    have a1 := L1.q; have b1 := L1.l
    clear hcj2 c3
    go_wp2_with fail
    refine (mk_putTo _ p r1 c1 n q1 kd 0 h1 3 (j : Int) 0 (ok_store _ (by omega)) (by omega)).mono ?_
    rintro e w2 ⟨rfl, c2, q2, r2, h2, L2⟩
    have a2 := L2.q; have b2 := L2.l
    go_wp2_with fail
    go_end0
    exact ⟨rfl, c2, q2, r2, h2, (((LA.trans LB).trans L1).trans L2).mono (by omega)⟩

set_option maxRecDepth 100000 in
set_option maxHeartbeats 4000000 in
theorem mk_stmt_2 (w : World) (p row : Nat) (c : List Ins) (n : List Int) (q : Nat) (kd : List Int) (h : Mk 110 47 2 w p row c n q kd 0) (hn6 : I64s n) (hnl : n.length ≤ 9223372036854775807) (hq : q ≤ 500000) (hl : c.length ≤ 500000) (hkl : kd.length ≤ 10) (hkd : ∀ k ∈ kd, 1 ≤ k ∧ k ≤ 4)
    (W0 : World) (t0 : Tch [] W0 w) (hp0 : W0.heap.size ≤ p) (hr0 : W0.heap.size ≤ row) (o a b cc : Int) (ho6 : I6 o) (ha6 : I6 a) (hb6 : I6 b)
    (vst : Value) (st : List Int) (hst : Src w [p, row] vst st.length (ints st)) (hsr : ∀ s ∈ st, 0 ≤ s ∧ s ≤ 119) (hstl : st.length ≤ 1000)
    (vms : Value) (ms : List Mth) (hms : RMths W0 [] vms ms) (hm1 : 1 ≤ ms.length ∧ ms.length ≤ 8) (hmp : ∀ m ∈ ms, m.params.length ≤ 10 ∧ ∀ k ∈ m.params, 1 ≤ k ∧ k ≤ 4)
    (vim : Value) (im : List Imp) (him : RImps W0 [] vim im) (hi1 : im.length ≤ 4) (hip : ∀ m ∈ im, m.params.length ≤ 10 ∧ ∀ k ∈ m.params, 1 ≤ k ∧ k ≤ 4) (e1 : o % 16 = 2) :
    Calls Tryz.prog 91 #[.pointer (some ⟨p, 0, none⟩), .agg #[.int .i64 o, .int .i64 a, .int .i64 b, .int .i64 cc], vst, vms, vim] w fun e w' => e = .returned (.tuple #[]) ∧ MkTo 110 47 2 p row c n q kd 0 40000 w w' := by
  have hpo := fun w => hand_Pick o 16 ho6 (by omega) (by omega) w
  rw [e1] at hpo
  clear e1
  have tA : Tch [] w (w.alloc (.cells #[.int .i64 o, .int .i64 a, .int .i64 b, .int .i64 cc] 112)) := (Tch.refl [] w).alloc _
  have hA := h.tch tA (by simp)
  have LA : Lk p row c.length q 0 w row c.length q (w.alloc (.cells #[.int .i64 o, .int .i64 a, .int .i64 b, .int .i64 cc] 112)) := ⟨by omega, by omega, .inl rfl, tA.nil⟩
  have hX := Bq.new w (.int .i64 o) (.int .i64 a) (.int .i64 b) (.int .i64 cc) 112
  have hplt := h.lt
  have hrlt := h.row_lt
  obtain ⟨W, hW⟩ : ∃ W, W = w.alloc (.cells #[.int .i64 o, .int .i64 a, .int .i64 b, .int .i64 cc] 112) := ⟨_, rfl⟩
  rw [← hW] at tA hA LA hX
  obtain ⟨x0, x1, x2, x3⟩ := hX
  go_enter Tryz.func91, Tryz.ntmps91
  go_upto_region 1 with fail
  rw [← hW]
  clear hW h
  go_wp2_with fail
  refine (hpo _).mono ?_
  rintro e w' ⟨rfl, rfl⟩
  clear hpo x0 x3
  clear x2
  obtain ⟨vc, vn, vk, hv, _, _, _, _, hk⟩ := id hA.ex
  obtain ⟨ak, capk, rfl⟩ := hk.form
  have c3 : W.cell? ⟨p, 3, none⟩ = some (.slice ak kd.length capk) := by simp [World.cell?, hv]
  clear hv
  by_cases h0 : kd.length = 0
  · have h0b : (((kd.length : Nat) : Int) == 0) = true := by simp [h0]
    have H0 := Lib.hid h0; clear h0
    go_wp2_with fail
    refine bodyPost_ret (v := .tuple #[]) (results_none rfl _ _ _) rfl ?_
    exact ⟨rfl, c, q, row, hA, LA.mono (by omega)⟩
  · have h0b : (((kd.length : Nat) : Int) == 0) = false := by simpa using h0
    obtain ⟨j, hj⟩ : ∃ j : Nat, a % (kd.length : Int) = (j : Int) := ⟨(a % (kd.length : Int)).toNat, by have := Int.emod_nonneg a (show (kd.length : Int) ≠ 0 by omega); omega⟩
    have hjl : j < kd.length := by have := Int.emod_lt_of_pos a (show (0 : Int) < (kd.length : Int) by omega); omega
    have hpk := fun w => hand_Pick a kd.length ha6 (by omega) (by omega) w
    rw [hj] at hpk
    clear hj
    obtain ⟨ad, rfl, _, _, hcj⟩ := hk.at (j := j) (by simpa using hjl)
    have hcj2 : W.cell? (ad.add j) = some (.int .i64 kd[j]) := by simpa [ints] using hcj
    have hkj := hkd kd[j] (List.getElem_mem hjl)
    clear hcj hk
    generalize kd[j] = kj at *
    go_upto_region 8 with fail
    go_quiet ((go_at_call 6; exact Calls.quiet_of_same ((hpk _).mono fun _ _ h => ⟨h.1, h.2.symm⟩)))
    have tB := (Tch.refl [] W).drewN nq
    have hB := hA.tch tB (by simp)
    have LB : Lk p row c.length q 0 W row c.length q (W.drewN nq) := ⟨by omega, by omega, .inl rfl, tB.nil⟩
    clear hpk
    go_wp2_with fail
    refine (mk_any _ p row c n q kd hB hn6 hnl (by omega) (by omega) hkl kj hkj).mono ?_
    rintro e w1 ⟨rfl, c1, q1, r1, h1, L1⟩
    have a1 := L1.q; have b1 := L1.l
    clear hcj2 c3
    go_wp2_with fail
    refine (mk_putTo _ p r1 c1 n q1 kd 0 h1 3 (j : Int) 0 (ok_store _ (by omega)) (by omega)).mono ?_
    rintro e w2 ⟨rfl, c2, q2, r2, h2, L2⟩
    have a2 := L2.q; have b2 := L2.l
    go_wp2_with fail
    go_end0
    exact ⟨rfl, c2, q2, r2, h2, (((LA.trans LB).trans L1).trans L2).mono (by omega)⟩

set_option maxRecDepth 100000 in
set_option maxHeartbeats 4000000 in
theorem mk_stmt_3 (w : World) (p row : Nat) (c : List Ins) (n : List Int) (q : Nat) (kd : List Int) (h : Mk 110 47 2 w p row c n q kd 0) (hn6 : I64s n) (hnl : n.length ≤ 9223372036854775807) (hq : q ≤ 500000) (hl : c.length ≤ 500000) (hkl : kd.length ≤ 10) (hkd : ∀ k ∈ kd, 1 ≤ k ∧ k ≤ 4)
    (W0 : World) (t0 : Tch [] W0 w) (hp0 : W0.heap.size ≤ p) (hr0 : W0.heap.size ≤ row) (o a b cc : Int) (ho6 : I6 o) (ha6 : I6 a) (hb6 : I6 b)
    (vst : Value) (st : List Int) (hst : Src w [p, row] vst st.length (ints st)) (hsr : ∀ s ∈ st, 0 ≤ s ∧ s ≤ 119) (hstl : st.length ≤ 1000)
    (vms : Value) (ms : List Mth) (hms : RMths W0 [] vms ms) (hm1 : 1 ≤ ms.length ∧ ms.length ≤ 8) (hmp : ∀ m ∈ ms, m.params.length ≤ 10 ∧ ∀ k ∈ m.params, 1 ≤ k ∧ k ≤ 4)
    (vim : Value) (im : List Imp) (him : RImps W0 [] vim im) (hi1 : im.length ≤ 4) (hip : ∀ m ∈ im, m.params.length ≤ 10 ∧ ∀ k ∈ m.params, 1 ≤ k ∧ k ≤ 4) (e1 : o % 16 = 3) :
    Calls Tryz.prog 91 #[.pointer (some ⟨p, 0, none⟩), .agg #[.int .i64 o, .int .i64 a, .int .i64 b, .int .i64 cc], vst, vms, vim] w fun e w' => e = .returned (.tuple #[]) ∧ MkTo 110 47 2 p row c n q kd 0 40000 w w' := by
  have hpo := fun w => hand_Pick o 16 ho6 (by omega) (by omega) w
  rw [e1] at hpo
  clear e1
  have tA : Tch [] w (w.alloc (.cells #[.int .i64 o, .int .i64 a, .int .i64 b, .int .i64 cc] 112)) := (Tch.refl [] w).alloc _
  have hA := h.tch tA (by simp)
  have LA : Lk p row c.length q 0 w row c.length q (w.alloc (.cells #[.int .i64 o, .int .i64 a, .int .i64 b, .int .i64 cc] 112)) := ⟨by omega, by omega, .inl rfl, tA.nil⟩
  have hX := Bq.new w (.int .i64 o) (.int .i64 a) (.int .i64 b) (.int .i64 cc) 112
  have hplt := h.lt
  have hrlt := h.row_lt
  obtain ⟨W, hW⟩ : ∃ W, W = w.alloc (.cells #[.int .i64 o, .int .i64 a, .int .i64 b, .int .i64 cc] 112) := ⟨_, rfl⟩
  rw [← hW] at tA hA LA hX
  obtain ⟨x0, x1, x2, x3⟩ := hX
  go_enter Tryz.func91, Tryz.ntmps91
  go_upto_region 1 with fail
  rw [← hW]
  clear hW h
  go_wp2_with fail
  refine (hpo _).mono ?_
  rintro e w' ⟨rfl, rfl⟩
  clear hpo x0 x3
  clear x2
  go_wp2_with fail
  refine (hand_Pick a 2 ha6 (by omega) (by omega) _).mono ?_
  rintro e w' ⟨rfl, rfl⟩
  have mk : 0 ≤ a % 2 ∧ a % 2 < 2 := by omega
  go_wp2_with fail
  refine (mk_arr _ p row c n q kd 0 hA hn6 hnl (by omega) (by omega) hkl (3 + (a % 2)) (by omega)).mono ?_
  rintro e w1 ⟨rfl, c1, q1, r1, h1, L1⟩
  have a1 := L1.q; have b1 := L1.l
  go_wp2_with fail
  refine (mk_index_0 _ p r1 c1 n q1 kd h1 hn6 hnl (by omega) (by omega) hkl).mono ?_
  rintro e w2 ⟨rfl, c2, q2, r2, h2, L2⟩
  have a2 := L2.q; have b2 := L2.l
  have ek : 3 + (a % 2) - 2 = 1 + (a % 2) := by omega
  have EK := Lib.hid ek; clear ek
  go_wp2_with fail
  refine (mk_any _ p r2 c2 n q2 kd h2 hn6 hnl (by omega) (by omega) hkl (3 + (a % 2) - 2) (by omega)).mono ?_
  rintro e w3 ⟨rfl, c3, q3, r3, h3, L3⟩
  have a3 := L3.q; have b3 := L3.l
  go_wp2_with fail
  refine (mk_putTo _ p r3 c3 n q3 kd 0 h3 30 0 0 (ok_zero _ (by omega)) (by omega)).mono ?_
  rintro e w4 ⟨rfl, c4, q4, r4, h4, L4⟩
  have a4 := L4.q; have b4 := L4.l
  go_wp2_with fail
  go_end0
  exact ⟨rfl, c4, q4, r4, h4, ((((LA.trans L1).trans L2).trans L3).trans L4).mono (by omega)⟩

set_option maxRecDepth 100000 in
set_option maxHeartbeats 4000000 in
theorem mk_stmt_4 (w : World) (p row : Nat) (c : List Ins) (n : List Int) (q : Nat) (kd : List Int) (h : Mk 110 47 2 w p row c n q kd 0) (hn6 : I64s n) (hnl : n.length ≤ 9223372036854775807) (hq : q ≤ 500000) (hl : c.length ≤ 500000) (hkl : kd.length ≤ 10) (hkd : ∀ k ∈ kd, 1 ≤ k ∧ k ≤ 4)
    (W0 : World) (t0 : Tch [] W0 w) (hp0 : W0.heap.size ≤ p) (hr0 : W0.heap.size ≤ row) (o a b cc : Int) (ho6 : I6 o) (ha6 : I6 a) (hb6 : I6 b)
    (vst : Value) (st : List Int) (hst : Src w [p, row] vst st.length (ints st)) (hsr : ∀ s ∈ st, 0 ≤ s ∧ s ≤ 119) (hstl : st.length ≤ 1000)
    (vms : Value) (ms : List Mth) (hms : RMths W0 [] vms ms) (hm1 : 1 ≤ ms.length ∧ ms.length ≤ 8) (hmp : ∀ m ∈ ms, m.params.length ≤ 10 ∧ ∀ k ∈ m.params, 1 ≤ k ∧ k ≤ 4)
    (vim : Value) (im : List Imp) (him : RImps W0 [] vim im) (hi1 : im.length ≤ 4) (hip : ∀ m ∈ im, m.params.length ≤ 10 ∧ ∀ k ∈ m.params, 1 ≤ k ∧ k ≤ 4) (e1 : o % 16 = 4) :
    Calls Tryz.prog 91 #[.pointer (some ⟨p, 0, none⟩), .agg #[.int .i64 o, .int .i64 a, .int .i64 b, .int .i64 cc], vst, vms, vim] w fun e w' => e = .returned (.tuple #[]) ∧ MkTo 110 47 2 p row c n q kd 0 40000 w w' := by
  have hpo := fun w => hand_Pick o 16 ho6 (by omega) (by omega) w
  rw [e1] at hpo
  clear e1
  have tA : Tch [] w (w.alloc (.cells #[.int .i64 o, .int .i64 a, .int .i64 b, .int .i64 cc] 112)) := (Tch.refl [] w).alloc _
  have hA := h.tch tA (by simp)
  have LA : Lk p row c.length q 0 w row c.length q (w.alloc (.cells #[.int .i64 o, .int .i64 a, .int .i64 b, .int .i64 cc] 112)) := ⟨by omega, by omega, .inl rfl, tA.nil⟩
  have hX := Bq.new w (.int .i64 o) (.int .i64 a) (.int .i64 b) (.int .i64 cc) 112
  have hplt := h.lt
  have hrlt := h.row_lt
  obtain ⟨W, hW⟩ : ∃ W, W = w.alloc (.cells #[.int .i64 o, .int .i64 a, .int .i64 b, .int .i64 cc] 112) := ⟨_, rfl⟩
  rw [← hW] at tA hA LA hX
  obtain ⟨x0, x1, x2, x3⟩ := hX
  go_enter Tryz.func91, Tryz.ntmps91
  go_upto_region 1 with fail
  rw [← hW]
  clear hW h
  go_wp2_with fail
  refine (hpo _).mono ?_
  rintro e w' ⟨rfl, rfl⟩
  clear hpo x0 x3
  clear x2
  go_wp2_with fail
  refine (hand_Pick a 2 ha6 (by omega) (by omega) _).mono ?_
  rintro e w' ⟨rfl, rfl⟩
  have mk : 0 ≤ a % 2 ∧ a % 2 < 2 := by omega
  go_wp2_with fail
  refine (mk_arr _ p row c n q kd 0 hA hn6 hnl (by omega) (by omega) hkl (3 + (a % 2)) (by omega)).mono ?_
  rintro e w1 ⟨rfl, c1, q1, r1, h1, L1⟩
  have a1 := L1.q; have b1 := L1.l
  go_wp2_with fail
  refine (mk_index_0 _ p r1 c1 n q1 kd h1 hn6 hnl (by omega) (by omega) hkl).mono ?_
  rintro e w2 ⟨rfl, c2, q2, r2, h2, L2⟩
  have a2 := L2.q; have b2 := L2.l
  have ek : 3 + (a % 2) - 2 = 1 + (a % 2) := by omega
  have EK := Lib.hid ek; clear ek
  go_wp2_with fail
  refine (mk_any _ p r2 c2 n q2 kd h2 hn6 hnl (by omega) (by omega) hkl (3 + (a % 2) - 2) (by omega)).mono ?_
  rintro e w3 ⟨rfl, c3, q3, r3, h3, L3⟩
  have a3 := L3.q; have b3 := L3.l
  go_wp2_with fail
  refine (mk_putTo _ p r3 c3 n q3 kd 0 h3 30 0 0 (ok_zero _ (by omega)) (by omega)).mono ?_
  rintro e w4 ⟨rfl, c4, q4, r4, h4, L4⟩
  have a4 := L4.q; have b4 := L4.l
  go_wp2_with fail
  go_end0
  exact ⟨rfl, c4, q4, r4, h4, ((((LA.trans L1).trans L2).trans L3).trans L4).mono (by omega)⟩

set_option maxRecDepth 100000 in
set_option maxHeartbeats 4000000 in
theorem mk_stmt_5 (w : World) (p row : Nat) (c : List Ins) (n : List Int) (q : Nat) (kd : List Int) (h : Mk 110 47 2 w p row c n q kd 0) (hn6 : I64s n) (hnl : n.length ≤ 9223372036854775807) (hq : q ≤ 500000) (hl : c.length ≤ 500000) (hkl : kd.length ≤ 10) (hkd : ∀ k ∈ kd, 1 ≤ k ∧ k ≤ 4)
    (W0 : World) (t0 : Tch [] W0 w) (hp0 : W0.heap.size ≤ p) (hr0 : W0.heap.size ≤ row) (o a b cc : Int) (ho6 : I6 o) (ha6 : I6 a) (hb6 : I6 b)
    (vst : Value) (st : List Int) (hst : Src w [p, row] vst st.length (ints st)) (hsr : ∀ s ∈ st, 0 ≤ s ∧ s ≤ 119) (hstl : st.length ≤ 1000)
    (vms : Value) (ms : List Mth) (hms : RMths W0 [] vms ms) (hm1 : 1 ≤ ms.length ∧ ms.length ≤ 8) (hmp : ∀ m ∈ ms, m.params.length ≤ 10 ∧ ∀ k ∈ m.params, 1 ≤ k ∧ k ≤ 4)
    (vim : Value) (im : List Imp) (him : RImps W0 [] vim im) (hi1 : im.length ≤ 4) (hip : ∀ m ∈ im, m.params.length ≤ 10 ∧ ∀ k ∈ m.params, 1 ≤ k ∧ k ≤ 4) (e1 : o % 16 = 5) :
    Calls Tryz.prog 91 #[.pointer (some ⟨p, 0, none⟩), .agg #[.int .i64 o, .int .i64 a, .int .i64 b, .int .i64 cc], vst, vms, vim] w fun e w' => e = .returned (.tuple #[]) ∧ MkTo 110 47 2 p row c n q kd 0 40000 w w' := by
  have hpo := fun w => hand_Pick o 16 ho6 (by omega) (by omega) w
  rw [e1] at hpo
  clear e1
  have tA : Tch [] w (w.alloc (.cells #[.int .i64 o, .int .i64 a, .int .i64 b, .int .i64 cc] 112)) := (Tch.refl [] w).alloc _
  have hA := h.tch tA (by simp)
  have LA : Lk p row c.length q 0 w row c.length q (w.alloc (.cells #[.int .i64 o, .int .i64 a, .int .i64 b, .int .i64 cc] 112)) := ⟨by omega, by omega, .inl rfl, tA.nil⟩
  have hX := Bq.new w (.int .i64 o) (.int .i64 a) (.int .i64 b) (.int .i64 cc) 112
  have hplt := h.lt
  have hrlt := h.row_lt
  obtain ⟨W, hW⟩ : ∃ W, W = w.alloc (.cells #[.int .i64 o, .int .i64 a, .int .i64 b, .int .i64 cc] 112) := ⟨_, rfl⟩
  rw [← hW] at tA hA LA hX
  obtain ⟨x0, x1, x2, x3⟩ := hX
  go_enter Tryz.func91, Tryz.ntmps91
  go_upto_region 1 with fail
  rw [← hW]
  clear hW h
  go_wp2_with fail
  refine (hpo _).mono ?_
  rintro e w' ⟨rfl, rfl⟩
  clear hpo x0 x3
  clear x2
  go_wp2_with fail
  refine (hand_Pick a 4 ha6 (by omega) (by omega) _).mono ?_
  rintro e w' ⟨rfl, rfl⟩
  have mk : 0 ≤ a % 4 ∧ a % 4 < 4 := by omega
  go_wp2_with fail
  refine (mk_any _ p row c n q kd hA hn6 hnl (by omega) (by omega) hkl (1 + (a % 4)) (by omega)).mono ?_
  rintro e w1 ⟨rfl, c1, q1, r1, h1, L1⟩
  have a1 := L1.q; have b1 := L1.l
  go_wp2_with fail
  refine (mk_putTo _ p r1 c1 n q1 kd 0 h1 34 (a % 4) 0 (ok_putf _ (by omega)) (by omega)).mono ?_
  rintro e w2 ⟨rfl, c2, q2, r2, h2, L2⟩
  have a2 := L2.q; have b2 := L2.l
  go_wp2_with fail
  go_end0
  exact ⟨rfl, c2, q2, r2, h2, ((LA.trans L1).trans L2).mono (by omega)⟩

set_option maxRecDepth 100000 in
set_option maxHeartbeats 4000000 in
theorem mk_stmt_6 (w : World) (p row : Nat) (c : List Ins) (n : List Int) (q : Nat) (kd : List Int) (h : Mk 110 47 2 w p row c n q kd 0) (hn6 : I64s n) (hnl : n.length ≤ 9223372036854775807) (hq : q ≤ 500000) (hl : c.length ≤ 500000) (hkl : kd.length ≤ 10) (hkd : ∀ k ∈ kd, 1 ≤ k ∧ k ≤ 4)
    (W0 : World) (t0 : Tch [] W0 w) (hp0 : W0.heap.size ≤ p) (hr0 : W0.heap.size ≤ row) (o a b cc : Int) (ho6 : I6 o) (ha6 : I6 a) (hb6 : I6 b)
    (vst : Value) (st : List Int) (hst : Src w [p, row] vst st.length (ints st)) (hsr : ∀ s ∈ st, 0 ≤ s ∧ s ≤ 119) (hstl : st.length ≤ 1000)
    (vms : Value) (ms : List Mth) (hms : RMths W0 [] vms ms) (hm1 : 1 ≤ ms.length ∧ ms.length ≤ 8) (hmp : ∀ m ∈ ms, m.params.length ≤ 10 ∧ ∀ k ∈ m.params, 1 ≤ k ∧ k ≤ 4)
    (vim : Value) (im : List Imp) (him : RImps W0 [] vim im) (hi1 : im.length ≤ 4) (hip : ∀ m ∈ im, m.params.length ≤ 10 ∧ ∀ k ∈ m.params, 1 ≤ k ∧ k ≤ 4) (e1 : o % 16 = 6) :
    Calls Tryz.prog 91 #[.pointer (some ⟨p, 0, none⟩), .agg #[.int .i64 o, .int .i64 a, .int .i64 b, .int .i64 cc], vst, vms, vim] w fun e w' => e = .returned (.tuple #[]) ∧ MkTo 110 47 2 p row c n q kd 0 40000 w w' := by
  have hpo := fun w => hand_Pick o 16 ho6 (by omega) (by omega) w
  rw [e1] at hpo
  clear e1
  have tA : Tch [] w (w.alloc (.cells #[.int .i64 o, .int .i64 a, .int .i64 b, .int .i64 cc] 112)) := (Tch.refl [] w).alloc _
  have hA := h.tch tA (by simp)
  have LA : Lk p row c.length q 0 w row c.length q (w.alloc (.cells #[.int .i64 o, .int .i64 a, .int .i64 b, .int .i64 cc] 112)) := ⟨by omega, by omega, .inl rfl, tA.nil⟩
  have hX := Bq.new w (.int .i64 o) (.int .i64 a) (.int .i64 b) (.int .i64 cc) 112
  have hplt := h.lt
  have hrlt := h.row_lt
  obtain ⟨W, hW⟩ : ∃ W, W = w.alloc (.cells #[.int .i64 o, .int .i64 a, .int .i64 b, .int .i64 cc] 112) := ⟨_, rfl⟩
  rw [← hW] at tA hA LA hX
  obtain ⟨x0, x1, x2, x3⟩ := hX
  go_enter Tryz.func91, Tryz.ntmps91
  go_upto_region 1 with fail
  rw [← hW]
  clear hW h
  go_wp2_with fail
  refine (hpo _).mono ?_
  rintro e w' ⟨rfl, rfl⟩
  clear hpo x0 x3
  go_wp2_with fail
  refine (hand_Pick a 2 ha6 (by omega) (by omega) _).mono ?_
  rintro e w' ⟨rfl, rfl⟩
  have mk : 0 ≤ a % 2 ∧ a % 2 < 2 := by omega
  go_wp2_with fail
  refine (hand_Pick b 2 hb6 (by omega) (by omega) _).mono ?_
  rintro e w' ⟨rfl, rfl⟩
  have ml : 0 ≤ b % 2 ∧ b % 2 < 2 := by omega
  have hc : a % 2 = 0 ∨ a % 2 = 1 := by omega
  rcases hc with hc | hc
  · rw [hc]
    clear hc mk x1 x2
    go_wp2_with fail
    refine (mk_arr _ p row c n q kd 0 hA hn6 hnl (by omega) (by omega) hkl 3 (by omega)).mono ?_
    rintro e w1 ⟨rfl, c1, q1, r1, h1, L1⟩
    have a1 := L1.q; have b1 := L1.l
    go_wp2_with fail
    refine (mk_index_0 _ p r1 c1 n q1 kd h1 hn6 hnl (by omega) (by omega) hkl).mono ?_
    rintro e w2 ⟨rfl, c2, q2, r2, h2, L2⟩
    have a2 := L2.q; have b2 := L2.l
    go_wp2_with fail
    refine (mk_arr _ p r2 c2 n q2 kd 0 h2 hn6 hnl (by omega) (by omega) hkl 3 (by omega)).mono ?_
    rintro e w3 ⟨rfl, c3, q3, r3, h3, L3⟩
    have a3 := L3.q; have b3 := L3.l
    go_wp2_with fail
    refine (mk_index_0 _ p r3 c3 n q3 kd h3 hn6 hnl (by omega) (by omega) hkl).mono ?_
    rintro e w4 ⟨rfl, c4, q4, r4, h4, L4⟩
    have a4 := L4.q; have b4 := L4.l
    go_wp2_with fail
    refine (mk_index_0 _ p r4 c4 n q4 kd h4 hn6 hnl (by omega) (by omega) hkl).mono ?_
    rintro e w5 ⟨rfl, c5, q5, r5, h5, L5⟩
    have a5 := L5.q; have b5 := L5.l
    go_wp2_with fail
    refine (mk_putTo _ p r5 c5 n q5 kd 0 h5 31 0 0 (ok_zero _ (by omega)) (by omega)).mono ?_
    rintro e w6 ⟨rfl, c6, q6, r6, h6, L6⟩
    have a6 := L6.q; have b6 := L6.l
    go_wp2_with fail
    go_end0
    exact ⟨rfl, c6, q6, r6, h6, ((((((LA.trans L1).trans L2).trans L3).trans L4).trans L5).trans L6).mono (by omega)⟩
  · rw [hc]
    clear hc mk x1 x2
    go_wp2_with fail
    refine (mk_arr _ p row c n q kd 0 hA hn6 hnl (by omega) (by omega) hkl 4 (by omega)).mono ?_
    rintro e w1 ⟨rfl, c1, q1, r1, h1, L1⟩
    have a1 := L1.q; have b1 := L1.l
    go_wp2_with fail
    refine (mk_index_0 _ p r1 c1 n q1 kd h1 hn6 hnl (by omega) (by omega) hkl).mono ?_
    rintro e w2 ⟨rfl, c2, q2, r2, h2, L2⟩
    have a2 := L2.q; have b2 := L2.l
    go_wp2_with fail
    refine (mk_arr _ p r2 c2 n q2 kd 0 h2 hn6 hnl (by omega) (by omega) hkl (3 + (b % 2)) (by omega)).mono ?_
    rintro e w3 ⟨rfl, c3, q3, r3, h3, L3⟩
    have a3 := L3.q; have b3 := L3.l
    go_wp2_with fail
    refine (mk_index_0 _ p r3 c3 n q3 kd h3 hn6 hnl (by omega) (by omega) hkl).mono ?_
    rintro e w4 ⟨rfl, c4, q4, r4, h4, L4⟩
    have a4 := L4.q; have b4 := L4.l
    go_wp2_with fail
    refine (mk_index_0 _ p r4 c4 n q4 kd h4 hn6 hnl (by omega) (by omega) hkl).mono ?_
    rintro e w5 ⟨rfl, c5, q5, r5, h5, L5⟩
    have a5 := L5.q; have b5 := L5.l
    go_wp2_with fail
    refine (mk_putTo _ p r5 c5 n q5 kd 0 h5 31 0 0 (ok_zero _ (by omega)) (by omega)).mono ?_
    rintro e w6 ⟨rfl, c6, q6, r6, h6, L6⟩
    have a6 := L6.q; have b6 := L6.l
    go_wp2_with fail
    go_end0
    exact ⟨rfl, c6, q6, r6, h6, ((((((LA.trans L1).trans L2).trans L3).trans L4).trans L5).trans L6).mono (by omega)⟩

set_option maxRecDepth 100000 in
set_option maxHeartbeats 4000000 in
theorem mk_stmt_7 (w : World) (p row : Nat) (c : List Ins) (n : List Int) (q : Nat) (kd : List Int) (h : Mk 110 47 2 w p row c n q kd 0) (hn6 : I64s n) (hnl : n.length ≤ 9223372036854775807) (hq : q ≤ 500000) (hl : c.length ≤ 500000) (hkl : kd.length ≤ 10) (hkd : ∀ k ∈ kd, 1 ≤ k ∧ k ≤ 4)
    (W0 : World) (t0 : Tch [] W0 w) (hp0 : W0.heap.size ≤ p) (hr0 : W0.heap.size ≤ row) (o a b cc : Int) (ho6 : I6 o) (ha6 : I6 a) (hb6 : I6 b)
    (vst : Value) (st : List Int) (hst : Src w [p, row] vst st.length (ints st)) (hsr : ∀ s ∈ st, 0 ≤ s ∧ s ≤ 119) (hstl : st.length ≤ 1000)
    (vms : Value) (ms : List Mth) (hms : RMths W0 [] vms ms) (hm1 : 1 ≤ ms.length ∧ ms.length ≤ 8) (hmp : ∀ m ∈ ms, m.params.length ≤ 10 ∧ ∀ k ∈ m.params, 1 ≤ k ∧ k ≤ 4)
    (vim : Value) (im : List Imp) (him : RImps W0 [] vim im) (hi1 : im.length ≤ 4) (hip : ∀ m ∈ im, m.params.length ≤ 10 ∧ ∀ k ∈ m.params, 1 ≤ k ∧ k ≤ 4) (e1 : o % 16 = 7) :
    Calls Tryz.prog 91 #[.pointer (some ⟨p, 0, none⟩), .agg #[.int .i64 o, .int .i64 a, .int .i64 b, .int .i64 cc], vst, vms, vim] w fun e w' => e = .returned (.tuple #[]) ∧ MkTo 110 47 2 p row c n q kd 0 40000 w w' := by
  have hpo := fun w => hand_Pick o 16 ho6 (by omega) (by omega) w
  rw [e1] at hpo
  clear e1
  have tA : Tch [] w (w.alloc (.cells #[.int .i64 o, .int .i64 a, .int .i64 b, .int .i64 cc] 112)) := (Tch.refl [] w).alloc _
  have hA := h.tch tA (by simp)
  have LA : Lk p row c.length q 0 w row c.length q (w.alloc (.cells #[.int .i64 o, .int .i64 a, .int .i64 b, .int .i64 cc] 112)) := ⟨by omega, by omega, .inl rfl, tA.nil⟩
  have hX := Bq.new w (.int .i64 o) (.int .i64 a) (.int .i64 b) (.int .i64 cc) 112
  have hplt := h.lt
  have hrlt := h.row_lt
  obtain ⟨W, hW⟩ : ∃ W, W = w.alloc (.cells #[.int .i64 o, .int .i64 a, .int .i64 b, .int .i64 cc] 112) := ⟨_, rfl⟩
  rw [← hW] at tA hA LA hX
  obtain ⟨x0, x1, x2, x3⟩ := hX
  go_enter Tryz.func91, Tryz.ntmps91
  go_upto_region 1 with fail
  rw [← hW]
  clear hW h
  go_wp2_with fail
  refine (hpo _).mono ?_
  rintro e w' ⟨rfl, rfl⟩
  clear hpo x0 x3
  clear x2
  go_wp2_with fail
  refine (hand_Pick a 2 ha6 (by omega) (by omega) _).mono ?_
  rintro e w' ⟨rfl, rfl⟩
  have mk : 0 ≤ a % 2 ∧ a % 2 < 2 := by omega
  go_wp2_with fail
  refine (mk_arr _ p row c n q kd 0 hA hn6 hnl (by omega) (by omega) hkl (3 + (1 + (a % 2)) - 1) (by omega)).mono ?_
  rintro e w1 ⟨rfl, c1, q1, r1, h1, L1⟩
  have a1 := L1.q; have b1 := L1.l
  go_wp2_with fail
  refine (mk_index_0 _ p r1 c1 n q1 kd h1 hn6 hnl (by omega) (by omega) hkl).mono ?_
  rintro e w2 ⟨rfl, c2, q2, r2, h2, L2⟩
  have a2 := L2.q; have b2 := L2.l
  go_wp2_with fail
  refine (mk_index_0 _ p r2 c2 n q2 kd h2 hn6 hnl (by omega) (by omega) hkl).mono ?_
  rintro e w3 ⟨rfl, c3, q3, r3, h3, L3⟩
  have a3 := L3.q; have b3 := L3.l
  go_wp2_with fail
  refine (mk_putTo _ p r3 c3 n q3 kd 0 h3 36 (1 + (a % 2)) 0 (ok_send _ (by omega)) (by omega)).mono ?_
  rintro e w4 ⟨rfl, c4, q4, r4, h4, L4⟩
  have a4 := L4.q; have b4 := L4.l
  go_wp2_with fail
  go_end0
  exact ⟨rfl, c4, q4, r4, h4, ((((LA.trans L1).trans L2).trans L3).trans L4).mono (by omega)⟩

set_option maxRecDepth 100000 in
set_option maxHeartbeats 4000000 in
theorem mk_stmt_8 (w : World) (p row : Nat) (c : List Ins) (n : List Int) (q : Nat) (kd : List Int) (h : Mk 110 47 2 w p row c n q kd 0) (hn6 : I64s n) (hnl : n.length ≤ 9223372036854775807) (hq : q ≤ 500000) (hl : c.length ≤ 500000) (hkl : kd.length ≤ 10) (hkd : ∀ k ∈ kd, 1 ≤ k ∧ k ≤ 4)
    (W0 : World) (t0 : Tch [] W0 w) (hp0 : W0.heap.size ≤ p) (hr0 : W0.heap.size ≤ row) (o a b cc : Int) (ho6 : I6 o) (ha6 : I6 a) (hb6 : I6 b)
    (vst : Value) (st : List Int) (hst : Src w [p, row] vst st.length (ints st)) (hsr : ∀ s ∈ st, 0 ≤ s ∧ s ≤ 119) (hstl : st.length ≤ 1000)
    (vms : Value) (ms : List Mth) (hms : RMths W0 [] vms ms) (hm1 : 1 ≤ ms.length ∧ ms.length ≤ 8) (hmp : ∀ m ∈ ms, m.params.length ≤ 10 ∧ ∀ k ∈ m.params, 1 ≤ k ∧ k ≤ 4)
    (vim : Value) (im : List Imp) (him : RImps W0 [] vim im) (hi1 : im.length ≤ 4) (hip : ∀ m ∈ im, m.params.length ≤ 10 ∧ ∀ k ∈ m.params, 1 ≤ k ∧ k ≤ 4) (e1 : o % 16 = 8) :
    Calls Tryz.prog 91 #[.pointer (some ⟨p, 0, none⟩), .agg #[.int .i64 o, .int .i64 a, .int .i64 b, .int .i64 cc], vst, vms, vim] w fun e w' => e = .returned (.tuple #[]) ∧ MkTo 110 47 2 p row c n q kd 0 40000 w w' := by
  have hpo := fun w => hand_Pick o 16 ho6 (by omega) (by omega) w
  rw [e1] at hpo
  clear e1
  have tA : Tch [] w (w.alloc (.cells #[.int .i64 o, .int .i64 a, .int .i64 b, .int .i64 cc] 112)) := (Tch.refl [] w).alloc _
  have hA := h.tch tA (by simp)
  have LA : Lk p row c.length q 0 w row c.length q (w.alloc (.cells #[.int .i64 o, .int .i64 a, .int .i64 b, .int .i64 cc] 112)) := ⟨by omega, by omega, .inl rfl, tA.nil⟩
  have hX := Bq.new w (.int .i64 o) (.int .i64 a) (.int .i64 b) (.int .i64 cc) 112
  have hplt := h.lt
  have hrlt := h.row_lt
  obtain ⟨W, hW⟩ : ∃ W, W = w.alloc (.cells #[.int .i64 o, .int .i64 a, .int .i64 b, .int .i64 cc] 112) := ⟨_, rfl⟩
  rw [← hW] at tA hA LA hX
  obtain ⟨x0, x1, x2, x3⟩ := hX
  go_enter Tryz.func91, Tryz.ntmps91
  go_upto_region 1 with fail
  rw [← hW]
  clear hW h
  go_wp2_with fail
  refine (hpo _).mono ?_
  rintro e w' ⟨rfl, rfl⟩
  clear hpo x0 x3
  clear x2
  go_wp2_with fail
  refine (hand_Pick a 2 ha6 (by omega) (by omega) _).mono ?_
  rintro e w' ⟨rfl, rfl⟩
  have mk : 0 ≤ a % 2 ∧ a % 2 < 2 := by omega
  go_wp2_with fail
  refine (mk_arr _ p row c n q kd 0 hA hn6 hnl (by omega) (by omega) hkl (3 + (1 + (a % 2)) - 1) (by omega)).mono ?_
  rintro e w1 ⟨rfl, c1, q1, r1, h1, L1⟩
  have a1 := L1.q; have b1 := L1.l
  go_wp2_with fail
  refine (mk_index_0 _ p r1 c1 n q1 kd h1 hn6 hnl (by omega) (by omega) hkl).mono ?_
  rintro e w2 ⟨rfl, c2, q2, r2, h2, L2⟩
  have a2 := L2.q; have b2 := L2.l
  go_wp2_with fail
  refine (mk_index_0 _ p r2 c2 n q2 kd h2 hn6 hnl (by omega) (by omega) hkl).mono ?_
  rintro e w3 ⟨rfl, c3, q3, r3, h3, L3⟩
  have a3 := L3.q; have b3 := L3.l
  go_wp2_with fail
  refine (mk_putTo _ p r3 c3 n q3 kd 0 h3 36 (1 + (a % 2)) 0 (ok_send _ (by omega)) (by omega)).mono ?_
  rintro e w4 ⟨rfl, c4, q4, r4, h4, L4⟩
  have a4 := L4.q; have b4 := L4.l
  go_wp2_with fail
  go_end0
  exact ⟨rfl, c4, q4, r4, h4, ((((LA.trans L1).trans L2).trans L3).trans L4).mono (by omega)⟩

set_option maxRecDepth 100000 in
set_option maxHeartbeats 4000000 in
theorem mk_stmt_14 (w : World) (p row : Nat) (c : List Ins) (n : List Int) (q : Nat) (kd : List Int) (h : Mk 110 47 2 w p row c n q kd 0) (hn6 : I64s n) (hnl : n.length ≤ 9223372036854775807) (hq : q ≤ 500000) (hl : c.length ≤ 500000) (hkl : kd.length ≤ 10) (hkd : ∀ k ∈ kd, 1 ≤ k ∧ k ≤ 4)
    (W0 : World) (t0 : Tch [] W0 w) (hp0 : W0.heap.size ≤ p) (hr0 : W0.heap.size ≤ row) (o a b cc : Int) (ho6 : I6 o) (ha6 : I6 a) (hb6 : I6 b)
    (vst : Value) (st : List Int) (hst : Src w [p, row] vst st.length (ints st)) (hsr : ∀ s ∈ st, 0 ≤ s ∧ s ≤ 119) (hstl : st.length ≤ 1000)
    (vms : Value) (ms : List Mth) (hms : RMths W0 [] vms ms) (hm1 : 1 ≤ ms.length ∧ ms.length ≤ 8) (hmp : ∀ m ∈ ms, m.params.length ≤ 10 ∧ ∀ k ∈ m.params, 1 ≤ k ∧ k ≤ 4)
    (vim : Value) (im : List Imp) (him : RImps W0 [] vim im) (hi1 : im.length ≤ 4) (hip : ∀ m ∈ im, m.params.length ≤ 10 ∧ ∀ k ∈ m.params, 1 ≤ k ∧ k ≤ 4) (e1 : o % 16 = 14) :
    Calls Tryz.prog 91 #[.pointer (some ⟨p, 0, none⟩), .agg #[.int .i64 o, .int .i64 a, .int .i64 b, .int .i64 cc], vst, vms, vim] w fun e w' => e = .returned (.tuple #[]) ∧ MkTo 110 47 2 p row c n q kd 0 40000 w w' := by
  have hpo := fun w => hand_Pick o 16 ho6 (by omega) (by omega) w
  rw [e1] at hpo
  clear e1
  have tA : Tch [] w (w.alloc (.cells #[.int .i64 o, .int .i64 a, .int .i64 b, .int .i64 cc] 112)) := (Tch.refl [] w).alloc _
  have hA := h.tch tA (by simp)
  have LA : Lk p row c.length q 0 w row c.length q (w.alloc (.cells #[.int .i64 o, .int .i64 a, .int .i64 b, .int .i64 cc] 112)) := ⟨by omega, by omega, .inl rfl, tA.nil⟩
  have hX := Bq.new w (.int .i64 o) (.int .i64 a) (.int .i64 b) (.int .i64 cc) 112
  have hplt := h.lt
  have hrlt := h.row_lt
  obtain ⟨W, hW⟩ : ∃ W, W = w.alloc (.cells #[.int .i64 o, .int .i64 a, .int .i64 b, .int .i64 cc] 112) := ⟨_, rfl⟩
  rw [← hW] at tA hA LA hX
  obtain ⟨x0, x1, x2, x3⟩ := hX
  go_enter Tryz.func91, Tryz.ntmps91
  go_upto_region 1 with fail
  rw [← hW]
  clear hW h
  go_wp2_with fail
  refine (hpo _).mono ?_
  rintro e w' ⟨rfl, rfl⟩
  clear hpo x0 x3
  go_wp2_with fail
  refine (mk_pub_0 _ p row c n q kd hA hn6 hnl (by omega) (by omega) hkl).mono ?_
  rintro e w1 ⟨rfl, c1, q1, r1, h1, L1⟩
  have a1 := L1.q; have b1 := L1.l
  go_wp2_with fail
  refine (mk_putTo _ p r1 c1 n q1 kd 0 h1 5 0 0 (ok_zero _ (by omega)) (by omega)).mono ?_
  rintro e w2 ⟨rfl, c2, q2, r2, h2, L2⟩
  have a2 := L2.q; have b2 := L2.l
  go_wp2_with fail
  refine (mk_putTo _ p r2 c2 n q2 kd 0 h2 4 0 0 (ok_zero _ (by omega)) (by omega)).mono ?_
  rintro e w3 ⟨rfl, c3, q3, r3, h3, L3⟩
  have a3 := L3.q; have b3 := L3.l
  go_wp2_with fail
  refine (mk_putTo _ p r3 c3 n q3 kd 0 h3 4 0 0 (ok_zero _ (by omega)) (by omega)).mono ?_
  rintro e w4 ⟨rfl, c4, q4, r4, h4, L4⟩
  have a4 := L4.q; have b4 := L4.l
  go_wp2_with fail
  go_end0
  exact ⟨rfl, c4, q4, r4, h4, ((((LA.trans L1).trans L2).trans L3).trans L4).mono (by omega)⟩

set_option maxRecDepth 100000 in
set_option maxHeartbeats 4000000 in
theorem mk_stmt_15 (w : World) (p row : Nat) (c : List Ins) (n : List Int) (q : Nat) (kd : List Int) (h : Mk 110 47 2 w p row c n q kd 0) (hn6 : I64s n) (hnl : n.length ≤ 9223372036854775807) (hq : q ≤ 500000) (hl : c.length ≤ 500000) (hkl : kd.length ≤ 10) (hkd : ∀ k ∈ kd, 1 ≤ k ∧ k ≤ 4)
    (W0 : World) (t0 : Tch [] W0 w) (hp0 : W0.heap.size ≤ p) (hr0 : W0.heap.size ≤ row) (o a b cc : Int) (ho6 : I6 o) (ha6 : I6 a) (hb6 : I6 b)
    (vst : Value) (st : List Int) (hst : Src w [p, row] vst st.length (ints st)) (hsr : ∀ s ∈ st, 0 ≤ s ∧ s ≤ 119) (hstl : st.length ≤ 1000)
    (vms : Value) (ms : List Mth) (hms : RMths W0 [] vms ms) (hm1 : 1 ≤ ms.length ∧ ms.length ≤ 8) (hmp : ∀ m ∈ ms, m.params.length ≤ 10 ∧ ∀ k ∈ m.params, 1 ≤ k ∧ k ≤ 4)
    (vim : Value) (im : List Imp) (him : RImps W0 [] vim im) (hi1 : im.length ≤ 4) (hip : ∀ m ∈ im, m.params.length ≤ 10 ∧ ∀ k ∈ m.params, 1 ≤ k ∧ k ≤ 4) (e1 : o % 16 = 15) :
    Calls Tryz.prog 91 #[.pointer (some ⟨p, 0, none⟩), .agg #[.int .i64 o, .int .i64 a, .int .i64 b, .int .i64 cc], vst, vms, vim] w fun e w' => e = .returned (.tuple #[]) ∧ MkTo 110 47 2 p row c n q kd 0 40000 w w' := by
  have hpo := fun w => hand_Pick o 16 ho6 (by omega) (by omega) w
  rw [e1] at hpo
  clear e1
  have tA : Tch [] w (w.alloc (.cells #[.int .i64 o, .int .i64 a, .int .i64 b, .int .i64 cc] 112)) := (Tch.refl [] w).alloc _
  have hA := h.tch tA (by simp)
  have LA : Lk p row c.length q 0 w row c.length q (w.alloc (.cells #[.int .i64 o, .int .i64 a, .int .i64 b, .int .i64 cc] 112)) := ⟨by omega, by omega, .inl rfl, tA.nil⟩
  have hX := Bq.new w (.int .i64 o) (.int .i64 a) (.int .i64 b) (.int .i64 cc) 112
  have hplt := h.lt
  have hrlt := h.row_lt
  obtain ⟨W, hW⟩ : ∃ W, W = w.alloc (.cells #[.int .i64 o, .int .i64 a, .int .i64 b, .int .i64 cc] 112) := ⟨_, rfl⟩
  rw [← hW] at tA hA LA hX
  obtain ⟨x0, x1, x2, x3⟩ := hX
  go_enter Tryz.func91, Tryz.ntmps91
  go_upto_region 1 with fail
  rw [← hW]
  clear hW h
  go_wp2_with fail
  refine (hpo _).mono ?_
  rintro e w' ⟨rfl, rfl⟩
  clear hpo x0 x3
  have t50 := rem50 a
  go_wp2_with fail
  refine (mk_putTo _ p row c n q kd 0 hA 1 (a.tmod 50) 0 (ok_push _ (by omega)) (by omega)).mono ?_
  rintro e w1 ⟨rfl, c1, q1, r1, h1, L1⟩
  have a1 := L1.q; have b1 := L1.l
  go_wp2_with fail
  refine (mk_putTo _ p r1 c1 n q1 kd 0 h1 4 0 0 (ok_zero _ (by omega)) (by omega)).mono ?_
  rintro e w2 ⟨rfl, c2, q2, r2, h2, L2⟩
  have a2 := L2.q; have b2 := L2.l
  go_wp2_with fail
  go_end0
  exact ⟨rfl, c2, q2, r2, h2, ((LA.trans L1).trans L2).mono (by omega)⟩
end Go.Proofs.YtapephelfijcbaaGreatDoor
