/-
  CONTRACTS: the maker of applets' code: stmt, the plain cases. Conditions: its memory is its own, its counts are small.
  CONTRACTS: the maker of applets' code: stmt, the jumps and the calls. Conditions: its memory is its own, its counts are small.
-/
import Derived.Test.YteebapopeaafhaaGreatDoorHAny
import Derived.StillTailTactics
namespace Go.Proofs.YteebapopeaafhaaGreatDoor
open Go.RowKit Go.Tcn
set_option linter.unusedVariables false
set_option linter.unusedSimpArgs false
set_option linter.unusedSectionVars false
variable [OkP]
theorem rem50 (c : Int) : -50 < c.tmod 50 ∧ c.tmod 50 < 50 := ⟨Int.lt_tmod_of_pos c (by omega), Int.tmod_lt_of_pos c (by omega)⟩

set_option maxRecDepth 100000 in
set_option maxHeartbeats 4000000 in
theorem mk_stmt_0 (w : World) (p row : Nat) (c : List Ins) (n : List Int) (q : Nat) (kd : List Int) (h : Mk 99 57 2 w p row c n q kd 0) (hn6 : I64s n) (hnl : n.length ≤ 9223372036854775807) (hq : q ≤ 500000) (hl : c.length ≤ 500000) (hkl : kd.length ≤ 10) (hkd : ∀ k ∈ kd, 1 ≤ k ∧ k ≤ 4)
    (W0 : World) (t0 : Tch [] W0 w) (hp0 : W0.heap.size ≤ p) (hr0 : W0.heap.size ≤ row) (o a b cc : Int) (ho6 : I6 o) (ha6 : I6 a) (hb6 : I6 b)
    (vst : Value) (st : List Int) (hst : Src w [p, row] vst st.length (ints st)) (hsr : ∀ s ∈ st, 0 ≤ s ∧ s ≤ 119) (hstl : st.length ≤ 1000)
    (vms : Value) (ms : List Mth) (hms : RMths W0 [] vms ms) (hm1 : 1 ≤ ms.length ∧ ms.length ≤ 8) (hmp : ∀ m ∈ ms, m.params.length ≤ 10 ∧ ∀ k ∈ m.params, 1 ≤ k ∧ k ≤ 4)
    (vim : Value) (im : List Imp) (him : RImps W0 [] vim im) (hi1 : im.length ≤ 4) (hip : ∀ m ∈ im, m.params.length ≤ 10 ∧ ∀ k ∈ m.params, 1 ≤ k ∧ k ≤ 4) (e1 : o % 16 = 0) :
    Calls Tryz.prog 58 #[.pointer (some ⟨p, 0, none⟩), .agg #[.int .i64 o, .int .i64 a, .int .i64 b, .int .i64 cc], vst, vms, vim] w fun e w' => e = .returned (.tuple #[]) ∧ MkTo 99 57 2 p row c n q kd 0 40000 w w' := by
  have hpo := fun w => hand_Pick o 16 ho6 (by omega) (by omega) w
  rw [e1] at hpo
  clear e1
  have tA : Tch [] w (w.alloc (.cells #[.int .i64 o, .int .i64 a, .int .i64 b, .int .i64 cc] 101)) := (Tch.refl [] w).alloc _
  have hA := h.tch tA (by simp)
  have LA : Lk p row c.length q 0 w row c.length q (w.alloc (.cells #[.int .i64 o, .int .i64 a, .int .i64 b, .int .i64 cc] 101)) := ⟨by omega, by omega, .inl rfl, tA.nil⟩
  have hX := Bq.new w (.int .i64 o) (.int .i64 a) (.int .i64 b) (.int .i64 cc) 101
  have hplt := h.lt
  have hrlt := h.row_lt
  obtain ⟨W, hW⟩ : ∃ W, W = w.alloc (.cells #[.int .i64 o, .int .i64 a, .int .i64 b, .int .i64 cc] 101) := ⟨_, rfl⟩
  rw [← hW] at tA hA LA hX
  obtain ⟨x0, x1, x2, x3⟩ := hX
  go_enter Tryz.func58, Tryz.ntmps58
  go_upto_region 1 with fail
  rw [← hW]
  clear hW h
  go_wp2_with fail
  refine (hpo _).mono ?_
  rintro e w' ⟨rfl, rfl⟩
  clear hpo x0 x3
  clear x2
  obtain ⟨vc, vn, vk, hv, _, _, _, _, hk⟩ := id hA.ex
  obtain ⟨ak, capk, rfl⟩ := hk.form
  have c3 : W.cell? ⟨p, 3, none⟩ = some (.slice ak kd.length capk) := by simp [World.cell?, hv]
  clear hv
  by_cases h0 : kd.length = 0
  · have h0b : (((kd.length : Nat) : Int) == 0) = true := by simp [h0]
    have H0 := Lib.hid h0; clear h0
    go_wp2_with fail
    refine bodyPost_ret (v := .tuple #[]) (results_none rfl _ _ _) rfl ?_
    exact ⟨rfl, c, q, row, hA, LA.mono (by omega)⟩
  · have h0b : (((kd.length : Nat) : Int) == 0) = false := by simpa using h0
    obtain ⟨j, hj⟩ : ∃ j : Nat, a % (kd.length : Int) = (j : Int) := ⟨(a % (kd.length : Int)).toNat, by have := Int.emod_nonneg a (show (kd.length : Int) ≠ 0 by omega); omega⟩
    have hjl : j < kd.length := by have := Int.emod_lt_of_pos a (show (0 : Int) < (kd.length : Int) by omega); omega
    have hpk := fun w => hand_Pick a kd.length ha6 (by omega) (by omega) w
    rw [hj] at hpk
    clear hj
    obtain ⟨ad, rfl, _, _, hcj⟩ := hk.at (j := j) (by simpa using hjl)
    have hcj2 : W.cell? (ad.add j) = some (.int .i64 kd[j]) := by simpa [ints] using hcj
    have hkj := hkd kd[j] (List.getElem_mem hjl)
    clear hcj hk
    generalize kd[j] = kj at *
    go_upto_region 8 with fail
    go_quiet ((go_at_call 16; exact Calls.quiet_of_same ((hpk _).mono fun _ _ h => ⟨h.1, h.2.symm⟩)))
    have tB := (Tch.refl [] W).drewN nq
    have hB := hA.tch tB (by simp)
    have LB : Lk p row c.length q 0 W row c.length q (W.drewN nq) := ⟨by omega, by omega, .inl rfl, tB.nil⟩
    clear hpk
    go_wp2_with fail
    refine (mk_any _ p row c n q kd hB hn6 hnl (by omega) (by omega) hkl kj hkj).mono ?_
    rintro e w1 ⟨rfl, c1, q1, r1, h1, L1⟩
    have a1 := L1.q; have b1 := L1.l
    clear hcj2 c3
    go_wp2_with fail
    refine (mk_putTo _ p r1 c1 n q1 kd 0 h1 3 (j : Int) 0 (ok_store _ (by omega)) (by omega)).mono ?_
    rintro e w2 ⟨rfl, c2, q2, r2, h2, L2⟩
    have a2 := L2.q; have b2 := L2.l
    go_wp2_with fail
    go_end0
    exact ⟨rfl, c2, q2, r2, h2, (((LA.trans LB).trans L1).trans L2).mono (by omega)⟩

set_option maxRecDepth 100000 in
set_option maxHeartbeats 4000000 in
theorem mk_stmt_1 (w : World) (p row : Nat) (c : List Ins) (n : List Int) (q : Nat) (kd : List Int) (h : Mk 99 57 2 w p row c n q kd 0) (hn6 : I64s n) (hnl : n.length ≤ 9223372036854775807) (hq : q ≤ 500000) (hl : c.length ≤ 500000) (hkl : kd.length ≤ 10) (hkd : ∀ k ∈ kd, 1 ≤ k ∧ k ≤ 4)
    (W0 : World) (t0 : Tch [] W0 w) (hp0 : W0.heap.size ≤ p) (hr0 : W0.heap.size ≤ row) (o a b cc : Int) (ho6 : I6 o) (ha6 : I6 a) (hb6 : I6 b)
    (vst : Value) (st : List Int) (hst : Src w [p, row] vst st.length (ints st)) (hsr : ∀ s ∈ st, 0 ≤ s ∧ s ≤ 119) (hstl : st.length ≤ 1000)
    (vms : Value) (ms : List Mth) (hms : RMths W0 [] vms ms) (hm1 : 1 ≤ ms.length ∧ ms.length ≤ 8) (hmp : ∀ m ∈ ms, m.params.length ≤ 10 ∧ ∀ k ∈ m.params, 1 ≤ k ∧ k ≤ 4)
    (vim : Value) (im : List Imp) (him : RImps W0 [] vim im) (hi1 : im.length ≤ 4) (hip : ∀ m ∈ im, m.params.length ≤ 10 ∧ ∀ k ∈ m.params, 1 ≤ k ∧ k ≤ 4) (e1 : o % 16 = 1) :
    Calls Tryz.prog 58 #[.pointer (some ⟨p, 0, none⟩), .agg #[.int .i64 o, .int .i64 a, .int .i64 b, .int .i64 cc], vst, vms, vim] w fun e w' => e = .returned (.tuple #[]) ∧ MkTo 99 57 2 p row c n q kd 0 40000 w w' := by
  have hpo := fun w => hand_Pick o 16 ho6 (by omega) (by omega) w
  rw [e1] at hpo
  clear e1
  have tA : Tch [] w (w.alloc (.cells #[.int .i64 o, .int .i64 a, .int .i64 b, .int .i64 cc] 101)) := (Tch.refl [] w).alloc _
  have hA := h.tch tA (by simp)
  have LA : Lk p row c.length q 0 w row c.length q (w.alloc (.cells #[.int .i64 o, .int .i64 a, .int .i64 b, .int .i64 cc] 101)) := ⟨by omega, by omega, .inl rfl, tA.nil⟩
  have hX := Bq.new w (.int .i64 o) (.int .i64 a) (.int .i64 b) (.int .i64 cc) 101
  have hplt := h.lt
  have hrlt := h.row_lt
  obtain ⟨W, hW⟩ : ∃ W, W = w.alloc (.cells #[.int .i64 o, .int .i64 a, .int .i64 b, .int .i64 cc] 101) := ⟨_, rfl⟩
  rw [← hW] at tA hA LA hX
  obtain ⟨x0, x1, x2, x3⟩ := hX
  go_enter Tryz.func58, Tryz.ntmps58
  go_upto_region 1 with fail
  rw [← hW]
  clear hW h
  go_wp2_with fail
  refine (hpo _).mono ?_
  rintro e w' ⟨rfl, rfl⟩
  clear hpo x0 x3
  clear x2
  obtain ⟨vc, vn, vk, hv, _, _, _, _, hk⟩ := id hA.ex
  obtain ⟨ak, capk, rfl⟩ := hk.form
  have c3 : W.cell? ⟨p, 3, none⟩ = some (.slice ak kd.length capk) := by simp [World.cell?, hv]
  clear hv
  by_cases h0 : kd.length = 0
  · have h0b : (((kd.length : Nat) : Int) == 0) = true := by simp [h0]
    have H0 := Lib.hid h0; clear h0
    go_wp2_with fail
    refine bodyPost_ret (v := .tuple #[]) (results_none rfl _ _ _) rfl ?_
    exact ⟨rfl, c, q, row, hA, LA.mono (by omega)⟩
  · have h0b : (((kd.length : Nat) : Int) == 0) = false := by simpa using h0
    obtain ⟨j, hj⟩ : ∃ j : Nat, a % (kd.length : Int) = (j : Int) := ⟨(a % (kd.length : Int)).toNat, by have := Int.emod_nonneg a (show (kd.length : Int) ≠ 0 by omega); omega⟩
    have hjl : j < kd.length := by have := Int.emod_lt_of_pos a (show (0 : Int) < (kd.length : Int) by omega); omega
    have hpk := fun w => hand_Pick a kd.length ha6 (by omega) (by omega) w
    rw [hj] at hpk
    clear hj
    obtain ⟨ad, rfl, _, _, hcj⟩ := hk.at (j := j) (by simpa using hjl)
    have hcj2 : W.cell? (ad.add j) = some (.int .i64 kd[j]) := by simpa [ints] using hcj
    have hkj := hkd kd[j] (List.getElem_mem hjl)
    clear hcj hk
    generalize kd[j] = kj at *
    go_upto_region 8 with fail
    go_quiet ((go_at_call 16; exact Calls.quiet_of_same ((hpk _).mono fun _ _ h => ⟨h.1, h.2.symm⟩)))
    have tB := (Tch.refl [] W).drewN nq
    have hB := hA.tch tB (by simp)
    have LB : Lk p row c.length q 0 W row c.length q (W.drewN nq) := ⟨by omega, by omega, .inl rfl, tB.nil⟩
    clear hpk
    go_wp2_with fail
    refine (mk_any _ p row c n q kd hB hn6 hnl (by omega) (by omega) hkl kj hkj).mono ?_
    rintro e w1 ⟨rfl, c1, q1, r1, h1, L1⟩
    have a1 := L1.q; have b1 := L1.l
    clear hcj2 c3
    go_wp2_with fail
    refine (mk_putTo _ p r1 c1 n q1 kd 0 h1 3 (j : Int) 0 (ok_store _ (by omega)) (by omega)).mono ?_
    rintro e w2 ⟨rfl, c2, q2, r2, h2, L2⟩
    have a2 := L2.q; have b2 := L2.l
    go_wp2_with fail
    go_end0
    exact ⟨rfl, c2, q2, r2, h2, (((LA.trans LB).trans L1).trans L2).mono (by omega)⟩

set_option maxRecDepth 100000 in
set_option maxHeartbeats 4000000 in
theorem mk_stmt_2 (w : World) (p row : Nat) (c : List Ins) (n : List Int) (q : Nat) (kd : List Int) (h : Mk 99 57 2 w p row c n q kd 0) (hn6 : I64s n) (hnl : n.length ≤ 9223372036854775807) (hq : q ≤ 500000) (hl : c.length ≤ 500000) (hkl : kd.length ≤ 10) (hkd : ∀ k ∈ kd, 1 ≤ k ∧ k ≤ 4)
    (W0 : World) (t0 : Tch [] W0 w) (hp0 : W0.heap.size ≤ p) (hr0 : W0.heap.size ≤ row) (o a b cc : Int) (ho6 : I6 o) (ha6 : I6 a) (hb6 : I6 b)
    (vst : Value) (st : List Int) (hst : Src w [p, row] vst st.length (ints st)) (hsr : ∀ s ∈ st, 0 ≤ s ∧ s ≤ 119) (hstl : st.length ≤ 1000)
    (vms : Value) (ms : List Mth) (hms : RMths W0 [] vms ms) (hm1 : 1 ≤ ms.length ∧ ms.length ≤ 8) (hmp : ∀ m ∈ ms, m.params.length ≤ 10 ∧ ∀ k ∈ m.params, 1 ≤ k ∧ k ≤ 4)
    (vim : Value) (im : List Imp) (him : RImps W0 [] vim im) (hi1 : im.length ≤ 4) (hip : ∀ m ∈ im, m.params.length ≤ 10 ∧ ∀ k ∈ m.params, 1 ≤ k ∧ k ≤ 4) (e1 : o % 16 = 2) :
    Calls Tryz.prog 58 #[.pointer (some ⟨p, 0, none⟩), .agg #[.int .i64 o, .int .i64 a, .int .i64 b, .int .i64 cc], vst, vms, vim] w fun e w' => e = .returned (.tuple #[]) ∧ MkTo 99 57 2 p row c n q kd 0 40000 w w' := by
  have hpo := fun w => hand_Pick o 16 ho6 (by omega) (by omega) w
  rw [e1] at hpo
  clear e1
  have tA : Tch [] w (w.alloc (.cells #[.int .i64 o, .int .i64 a, .int .i64 b, .int .i64 cc] 101)) := (Tch.refl [] w).alloc _
  have hA := h.tch tA (by simp)
  have LA : Lk p row c.length q 0 w row c.length q (w.alloc (.cells #[.int .i64 o, .int .i64 a, .int .i64 b, .int .i64 cc] 101)) := ⟨by omega, by omega, .inl rfl, tA.nil⟩
  have hX := Bq.new w (.int .i64 o) (.int .i64 a) (.int .i64 b) (.int .i64 cc) 101
  have hplt := h.lt
  have hrlt := h.row_lt
  obtain ⟨W, hW⟩ : ∃ W, W = w.alloc (.cells #[.int .i64 o, .int .i64 a, .int .i64 b, .int .i64 cc] 101) := ⟨_, rfl⟩
  rw [← hW] at tA hA LA hX
  obtain ⟨x0, x1, x2, x3⟩ := hX
  go_enter Tryz.func58, Tryz.ntmps58
  go_upto_region 1 with fail
  rw [← hW]
  clear hW h
  go_wp2_with fail
  refine (hpo _).mono ?_
  rintro e w' ⟨rfl, rfl⟩
  clear hpo x0 x3
  clear x2
  obtain ⟨vc, vn, vk, hv, _, _, _, _, hk⟩ := id hA.ex
  obtain ⟨ak, capk, rfl⟩ := hk.form
  have c3 : W.cell? ⟨p, 3, none⟩ = some (.slice ak kd.length capk) := by simp [World.cell?, hv]
  clear hv
  by_cases h0 : kd.length = 0
  · have h0b : (((kd.length : Nat) : Int) == 0) = true := by simp [h0]
    have H0 := Lib.hid h0; clear h0
    go_wp2_with fail
    refine bodyPost_ret (v := .tuple #[]) (results_none rfl _ _ _) rfl ?_
    exact ⟨rfl, c, q, row, hA, LA.mono (by omega)⟩
  · have h0b : (((kd.length : Nat) : Int) == 0) = false := by simpa using h0
    obtain ⟨j, hj⟩ : ∃ j : Nat, a % (kd.length : Int) = (j : Int) := ⟨(a % (kd.length : Int)).toNat, by have := Int.emod_nonneg a (show (kd.length : Int) ≠ 0 by omega); omega⟩
    have hjl : j < kd.length := by have := Int.emod_lt_of_pos a (show (0 : Int) < (kd.length : Int) by omega); omega
    have hpk := fun w => hand_Pick a kd.length ha6 (by omega) (by omega) w
    rw [hj] at hpk
    clear hj
    obtain ⟨ad, rfl, _, _, hcj⟩ := hk.at (j := j) (by simpa using hjl)
    have hcj2 : W.cell? (ad.add j) = some (.int .i64 kd[j]) := by simpa [ints] using hcj
    have hkj := hkd kd[j] (List.getElem_mem hjl)
    clear hcj hk
    generalize kd[j] = kj at *
    go_upto_region 8 with fail
    go_quiet ((go_at_call 16; exact Calls.quiet_of_same ((hpk _).mono fun _ _ h => ⟨h.1, h.2.symm⟩)))
    have tB := (Tch.refl [] W).drewN nq
    have hB := hA.tch tB (by simp)
    have LB : Lk p row c.length q 0 W row c.length q (W.drewN nq) := ⟨by omega, by omega, .inl rfl, tB.nil⟩
    clear hpk
    go_wp2_with fail
    refine (mk_any _ p row c n q kd hB hn6 hnl (by omega) (by omega) hkl kj hkj).mono ?_
    rintro e w1 ⟨rfl, c1, q1, r1, h1, L1⟩
    have a1 := L1.q; have b1 := L1.l
    clear hcj2 c3
    go_wp2_with fail
    refine (mk_putTo _ p r1 c1 n q1 kd 0 h1 3 (j : Int) 0 (ok_store _ (by omega)) (by omega)).mono ?_
    rintro e w2 ⟨rfl, c2, q2, r2, h2, L2⟩
    have a2 := L2.q; have b2 := L2.l
    go_wp2_with fail
    go_end0
    exact ⟨rfl, c2, q2, r2, h2, (((LA.trans LB).trans L1).trans L2).mono (by omega)⟩

set_option maxRecDepth 100000 in
set_option maxHeartbeats 4000000 in
theorem mk_stmt_3 (w : World) (p row : Nat) (c : List Ins) (n : List Int) (q : Nat) (kd : List Int) (h : Mk 99 57 2 w p row c n q kd 0) (hn6 : I64s n) (hnl : n.length ≤ 9223372036854775807) (hq : q ≤ 500000) (hl : c.length ≤ 500000) (hkl : kd.length ≤ 10) (hkd : ∀ k ∈ kd, 1 ≤ k ∧ k ≤ 4)
    (W0 : World) (t0 : Tch [] W0 w) (hp0 : W0.heap.size ≤ p) (hr0 : W0.heap.size ≤ row) (o a b cc : Int) (ho6 : I6 o) (ha6 : I6 a) (hb6 : I6 b)
    (vst : Value) (st : List Int) (hst : Src w [p, row] vst st.length (ints st)) (hsr : ∀ s ∈ st, 0 ≤ s ∧ s ≤ 119) (hstl : st.length ≤ 1000)
    (vms : Value) (ms : List Mth) (hms : RMths W0 [] vms ms) (hm1 : 1 ≤ ms.length ∧ ms.length ≤ 8) (hmp : ∀ m ∈ ms, m.params.length ≤ 10 ∧ ∀ k ∈ m.params, 1 ≤ k ∧ k ≤ 4)
    (vim : Value) (im : List Imp) (him : RImps W0 [] vim im) (hi1 : im.length ≤ 4) (hip : ∀ m ∈ im, m.params.length ≤ 10 ∧ ∀ k ∈ m.params, 1 ≤ k ∧ k ≤ 4) (e1 : o % 16 = 3) :
    Calls Tryz.prog 58 #[.pointer (some ⟨p, 0, none⟩), .agg #[.int .i64 o, .int .i64 a, .int .i64 b, .int .i64 cc], vst, vms, vim] w fun e w' => e = .returned (.tuple #[]) ∧ MkTo 99 57 2 p row c n q kd 0 40000 w w' := by
  have hpo := fun w => hand_Pick o 16 ho6 (by omega) (by omega) w
  rw [e1] at hpo
  clear e1
  have tA : Tch [] w (w.alloc (.cells #[.int .i64 o, .int .i64 a, .int .i64 b, .int .i64 cc] 101)) := (Tch.refl [] w).alloc _
  have hA := h.tch tA (by simp)
  have LA : Lk p row c.length q 0 w row c.length q (w.alloc (.cells #[.int .i64 o, .int .i64 a, .int .i64 b, .int .i64 cc] 101)) := ⟨by omega, by omega, .inl rfl, tA.nil⟩
  have hX := Bq.new w (.int .i64 o) (.int .i64 a) (.int .i64 b) (.int .i64 cc) 101
  have hplt := h.lt
  have hrlt := h.row_lt
  obtain ⟨W, hW⟩ : ∃ W, W = w.alloc (.cells #[.int .i64 o, .int .i64 a, .int .i64 b, .int .i64 cc] 101) := ⟨_, rfl⟩
  rw [← hW] at tA hA LA hX
  obtain ⟨x0, x1, x2, x3⟩ := hX
  go_enter Tryz.func58, Tryz.ntmps58
  go_upto_region 1 with fail
  rw [← hW]
  clear hW h
  go_wp2_with fail
  refine (hpo _).mono ?_
  rintro e w' ⟨rfl, rfl⟩
  clear hpo x0 x3
  clear x2
  go_wp2_with fail
  refine (hand_Pick a 2 ha6 (by omega) (by omega) _).mono ?_
  rintro e w' ⟨rfl, rfl⟩
  have mk : 0 ≤ a % 2 ∧ a % 2 < 2 := by omega
  go_wp2_with fail
  refine (mk_arr _ p row c n q kd 0 hA hn6 hnl (by omega) (by omega) hkl (3 + (a % 2)) (by omega)).mono ?_
  rintro e w1 ⟨rfl, c1, q1, r1, h1, L1⟩
  have a1 := L1.q; have b1 := L1.l
  go_wp2_with fail
  refine (mk_index_0 _ p r1 c1 n q1 kd h1 hn6 hnl (by omega) (by omega) hkl).mono ?_
  rintro e w2 ⟨rfl, c2, q2, r2, h2, L2⟩
  have a2 := L2.q; have b2 := L2.l
  have ek : 3 + (a % 2) - 2 = 1 + (a % 2) := by omega
  have EK := Lib.hid ek; clear ek
  go_wp2_with fail
  refine (mk_any _ p r2 c2 n q2 kd h2 hn6 hnl (by omega) (by omega) hkl (3 + (a % 2) - 2) (by omega)).mono ?_
  rintro e w3 ⟨rfl, c3, q3, r3, h3, L3⟩
  have a3 := L3.q; have b3 := L3.l
  go_wp2_with fail
  refine (mk_putTo _ p r3 c3 n q3 kd 0 h3 30 0 0 (ok_zero _ (by omega)) (by omega)).mono ?_
  rintro e w4 ⟨rfl, c4, q4, r4, h4, L4⟩
  have a4 := L4.q; have b4 := L4.l
  go_wp2_with fail
  go_end0
  exact ⟨rfl, c4, q4, r4, h4, ((((LA.trans L1).trans L2).trans L3).trans L4).mono (by omega)⟩

set_option maxRecDepth 100000 in
set_option maxHeartbeats 4000000 in
theorem mk_stmt_4 (w : World) (p row : Nat) (c : List Ins) (n : List Int) (q : Nat) (kd : List Int) (h : Mk 99 57 2 w p row c n q kd 0) (hn6 : I64s n) (hnl : n.length ≤ 9223372036854775807) (hq : q ≤ 500000) (hl : c.length ≤ 500000) (hkl : kd.length ≤ 10) (hkd : ∀ k ∈ kd, 1 ≤ k ∧ k ≤ 4)
    (W0 : World) (t0 : Tch [] W0 w) (hp0 : W0.heap.size ≤ p) (hr0 : W0.heap.size ≤ row) (o a b cc : Int) (ho6 : I6 o) (ha6 : I6 a) (hb6 : I6 b)
    (vst : Value) (st : List Int) (hst : Src w [p, row] vst st.length (ints st)) (hsr : ∀ s ∈ st, 0 ≤ s ∧ s ≤ 119) (hstl : st.length ≤ 1000)
    (vms : Value) (ms : List Mth) (hms : RMths W0 [] vms ms) (hm1 : 1 ≤ ms.length ∧ ms.length ≤ 8) (hmp : ∀ m ∈ ms, m.params.length ≤ 10 ∧ ∀ k ∈ m.params, 1 ≤ k ∧ k ≤ 4)
    (vim : Value) (im : List Imp) (him : RImps W0 [] vim im) (hi1 : im.length ≤ 4) (hip : ∀ m ∈ im, m.params.length ≤ 10 ∧ ∀ k ∈ m.params, 1 ≤ k ∧ k ≤ 4) (e1 : o % 16 = 4) :
    Calls Tryz.prog 58 #[.pointer (some ⟨p, 0, none⟩), .agg #[.int .i64 o, .int .i64 a, .int .i64 b, .int .i64 cc], vst, vms, vim] w fun e w' => e = .returned (.tuple #[]) ∧ MkTo 99 57 2 p row c n q kd 0 40000 w w' := by
  have hpo := fun w => hand_Pick o 16 ho6 (by omega) (by omega) w
  rw [e1] at hpo
  clear e1
  have tA : Tch [] w (w.alloc (.cells #[.int .i64 o, .int .i64 a, .int .i64 b, .int .i64 cc] 101)) := (Tch.refl [] w).alloc _
  have hA := h.tch tA (by simp)
  have LA : Lk p row c.length q 0 w row c.length q (w.alloc (.cells #[.int .i64 o, .int .i64 a, .int .i64 b, .int .i64 cc] 101)) := ⟨by omega, by omega, .inl rfl, tA.nil⟩
  have hX := Bq.new w (.int .i64 o) (.int .i64 a) (.int .i64 b) (.int .i64 cc) 101
  have hplt := h.lt
  have hrlt := h.row_lt
  obtain ⟨W, hW⟩ : ∃ W, W = w.alloc (.cells #[.int .i64 o, .int .i64 a, .int .i64 b, .int .i64 cc] 101) := ⟨_, rfl⟩
  rw [← hW] at tA hA LA hX
  obtain ⟨x0, x1, x2, x3⟩ := hX
  go_enter Tryz.func58, Tryz.ntmps58
  go_upto_region 1 with fail
  rw [← hW]
  clear hW h
  go_wp2_with fail
  refine (hpo _).mono ?_
  rintro e w' ⟨rfl, rfl⟩
  clear hpo x0 x3
  clear x2
  go_wp2_with fail
  refine (hand_Pick a 2 ha6 (by omega) (by omega) _).mono ?_
  rintro e w' ⟨rfl, rfl⟩
  have mk : 0 ≤ a % 2 ∧ a % 2 < 2 := by omega
  go_wp2_with fail
  refine (mk_arr _ p row c n q kd 0 hA hn6 hnl (by omega) (by omega) hkl (3 + (a % 2)) (by omega)).mono ?_
  rintro e w1 ⟨rfl, c1, q1, r1, h1, L1⟩
  have a1 := L1.q; have b1 := L1.l
  go_wp2_with fail
  refine (mk_index_0 _ p r1 c1 n q1 kd h1 hn6 hnl (by omega) (by omega) hkl).mono ?_
  rintro e w2 ⟨rfl, c2, q2, r2, h2, L2⟩
  have a2 := L2.q; have b2 := L2.l
  have ek : 3 + (a % 2) - 2 = 1 + (a % 2) := by omega
  have EK := Lib.hid ek; clear ek
  go_wp2_with fail
  refine (mk_any _ p r2 c2 n q2 kd h2 hn6 hnl (by omega) (by omega) hkl (3 + (a % 2) - 2) (by omega)).mono ?_
  rintro e w3 ⟨rfl, c3, q3, r3, h3, L3⟩
  have a3 := L3.q; have b3 := L3.l
  go_wp2_with fail
  refine (mk_putTo _ p r3 c3 n q3 kd 0 h3 30 0 0 (ok_zero _ (by omega)) (by omega)).mono ?_
  rintro e w4 ⟨rfl, c4, q4, r4, h4, L4⟩
  have a4 := L4.q; have b4 := L4.l
  go_wp2_with fail
  go_end0
  exact ⟨rfl, c4, q4, r4, h4, ((((LA.trans L1).trans L2).trans L3).trans L4).mono (by omega)⟩

set_option maxRecDepth 100000 in
set_option maxHeartbeats 4000000 in
theorem mk_stmt_5 (w : World) (p row : Nat) (c : List Ins) (n : List Int) (q : Nat) (kd : List Int) (h : Mk 99 57 2 w p row c n q kd 0) (hn6 : I64s n) (hnl : n.length ≤ 9223372036854775807) (hq : q ≤ 500000) (hl : c.length ≤ 500000) (hkl : kd.length ≤ 10) (hkd : ∀ k ∈ kd, 1 ≤ k ∧ k ≤ 4)
    (W0 : World) (t0 : Tch [] W0 w) (hp0 : W0.heap.size ≤ p) (hr0 : W0.heap.size ≤ row) (o a b cc : Int) (ho6 : I6 o) (ha6 : I6 a) (hb6 : I6 b)
    (vst : Value) (st : List Int) (hst : Src w [p, row] vst st.length (ints st)) (hsr : ∀ s ∈ st, 0 ≤ s ∧ s ≤ 119) (hstl : st.length ≤ 1000)
    (vms : Value) (ms : List Mth) (hms : RMths W0 [] vms ms) (hm1 : 1 ≤ ms.length ∧ ms.length ≤ 8) (hmp : ∀ m ∈ ms, m.params.length ≤ 10 ∧ ∀ k ∈ m.params, 1 ≤ k ∧ k ≤ 4)
    (vim : Value) (im : List Imp) (him : RImps W0 [] vim im) (hi1 : im.length ≤ 4) (hip : ∀ m ∈ im, m.params.length ≤ 10 ∧ ∀ k ∈ m.params, 1 ≤ k ∧ k ≤ 4) (e1 : o % 16 = 5) :
    Calls Tryz.prog 58 #[.pointer (some ⟨p, 0, none⟩), .agg #[.int .i64 o, .int .i64 a, .int .i64 b, .int .i64 cc], vst, vms, vim] w fun e w' => e = .returned (.tuple #[]) ∧ MkTo 99 57 2 p row c n q kd 0 40000 w w' := by
  have hpo := fun w => hand_Pick o 16 ho6 (by omega) (by omega) w
  rw [e1] at hpo
  clear e1
  have tA : Tch [] w (w.alloc (.cells #[.int .i64 o, .int .i64 a, .int .i64 b, .int .i64 cc] 101)) := (Tch.refl [] w).alloc _
  have hA := h.tch tA (by simp)
  have LA : Lk p row c.length q 0 w row c.length q (w.alloc (.cells #[.int .i64 o, .int .i64 a, .int .i64 b, .int .i64 cc] 101)) := ⟨by omega, by omega, .inl rfl, tA.nil⟩
  have hX := Bq.new w (.int .i64 o) (.int .i64 a) (.int .i64 b) (.int .i64 cc) 101
  have hplt := h.lt
  have hrlt := h.row_lt
  obtain ⟨W, hW⟩ : ∃ W, W = w.alloc (.cells #[.int .i64 o, .int .i64 a, .int .i64 b, .int .i64 cc] 101) := ⟨_, rfl⟩
  rw [← hW] at tA hA LA hX
  obtain ⟨x0, x1, x2, x3⟩ := hX
  go_enter Tryz.func58, Tryz.ntmps58
  go_upto_region 1 with fail
  rw [← hW]
  clear hW h
  go_wp2_with fail
  refine (hpo _).mono ?_
  rintro e w' ⟨rfl, rfl⟩
  clear hpo x0 x3
  clear x2
  go_wp2_with fail
  refine (hand_Pick a 4 ha6 (by omega) (by omega) _).mono ?_
  rintro e w' ⟨rfl, rfl⟩
  have mk : 0 ≤ a % 4 ∧ a % 4 < 4 := by omega
  go_wp2_with fail
  refine (mk_any _ p row c n q kd hA hn6 hnl (by omega) (by omega) hkl (1 + (a % 4)) (by omega)).mono ?_
  rintro e w1 ⟨rfl, c1, q1, r1, h1, L1⟩
  have a1 := L1.q; have b1 := L1.l
  go_wp2_with fail
  refine (mk_putTo _ p r1 c1 n q1 kd 0 h1 34 (a % 4) 0 (ok_putf _ (by omega)) (by omega)).mono ?_
  rintro e w2 ⟨rfl, c2, q2, r2, h2, L2⟩
  have a2 := L2.q; have b2 := L2.l
  go_wp2_with fail
  go_end0
  exact ⟨rfl, c2, q2, r2, h2, ((LA.trans L1).trans L2).mono (by omega)⟩

set_option maxRecDepth 100000 in
set_option maxHeartbeats 4000000 in
theorem mk_stmt_6 (w : World) (p row : Nat) (c : List Ins) (n : List Int) (q : Nat) (kd : List Int) (h : Mk 99 57 2 w p row c n q kd 0) (hn6 : I64s n) (hnl : n.length ≤ 9223372036854775807) (hq : q ≤ 500000) (hl : c.length ≤ 500000) (hkl : kd.length ≤ 10) (hkd : ∀ k ∈ kd, 1 ≤ k ∧ k ≤ 4)
    (W0 : World) (t0 : Tch [] W0 w) (hp0 : W0.heap.size ≤ p) (hr0 : W0.heap.size ≤ row) (o a b cc : Int) (ho6 : I6 o) (ha6 : I6 a) (hb6 : I6 b)
    (vst : Value) (st : List Int) (hst : Src w [p, row] vst st.length (ints st)) (hsr : ∀ s ∈ st, 0 ≤ s ∧ s ≤ 119) (hstl : st.length ≤ 1000)
    (vms : Value) (ms : List Mth) (hms : RMths W0 [] vms ms) (hm1 : 1 ≤ ms.length ∧ ms.length ≤ 8) (hmp : ∀ m ∈ ms, m.params.length ≤ 10 ∧ ∀ k ∈ m.params, 1 ≤ k ∧ k ≤ 4)
    (vim : Value) (im : List Imp) (him : RImps W0 [] vim im) (hi1 : im.length ≤ 4) (hip : ∀ m ∈ im, m.params.length ≤ 10 ∧ ∀ k ∈ m.params, 1 ≤ k ∧ k ≤ 4) (e1 : o % 16 = 6) :
    Calls Tryz.prog 58 #[.pointer (some ⟨p, 0, none⟩), .agg #[.int .i64 o, .int .i64 a, .int .i64 b, .int .i64 cc], vst, vms, vim] w fun e w' => e = .returned (.tuple #[]) ∧ MkTo 99 57 2 p row c n q kd 0 40000 w w' := by
  have hpo := fun w => hand_Pick o 16 ho6 (by omega) (by omega) w
  rw [e1] at hpo
  clear e1
  have tA : Tch [] w (w.alloc (.cells #[.int .i64 o, .int .i64 a, .int .i64 b, .int .i64 cc] 101)) := (Tch.refl [] w).alloc _
  have hA := h.tch tA (by simp)
  have LA : Lk p row c.length q 0 w row c.length q (w.alloc (.cells #[.int .i64 o, .int .i64 a, .int .i64 b, .int .i64 cc] 101)) := ⟨by omega, by omega, .inl rfl, tA.nil⟩
  have hX := Bq.new w (.int .i64 o) (.int .i64 a) (.int .i64 b) (.int .i64 cc) 101
  have hplt := h.lt
  have hrlt := h.row_lt
  obtain ⟨W, hW⟩ : ∃ W, W = w.alloc (.cells #[.int .i64 o, .int .i64 a, .int .i64 b, .int .i64 cc] 101) := ⟨_, rfl⟩
  rw [← hW] at tA hA LA hX
  obtain ⟨x0, x1, x2, x3⟩ := hX
  go_enter Tryz.func58, Tryz.ntmps58
  go_upto_region 1 with fail
  rw [← hW]
  clear hW h
  go_wp2_with fail
  refine (hpo _).mono ?_
  rintro e w' ⟨rfl, rfl⟩
  clear hpo x0 x3
  go_wp2_with fail
  refine (hand_Pick a 2 ha6 (by omega) (by omega) _).mono ?_
  rintro e w' ⟨rfl, rfl⟩
  have mk : 0 ≤ a % 2 ∧ a % 2 < 2 := by omega
  go_wp2_with fail
  refine (hand_Pick b 2 hb6 (by omega) (by omega) _).mono ?_
  rintro e w' ⟨rfl, rfl⟩
  have ml : 0 ≤ b % 2 ∧ b % 2 < 2 := by omega
  have hc : a % 2 = 0 ∨ a % 2 = 1 := by omega
  rcases hc with hc | hc
  · rw [hc]
    clear hc mk x1 x2
    go_wp2_with fail
    refine (mk_arr _ p row c n q kd 0 hA hn6 hnl (by omega) (by omega) hkl 3 (by omega)).mono ?_
    rintro e w1 ⟨rfl, c1, q1, r1, h1, L1⟩
    have a1 := L1.q; have b1 := L1.l
    go_wp2_with fail
    refine (mk_index_0 _ p r1 c1 n q1 kd h1 hn6 hnl (by omega) (by omega) hkl).mono ?_
    rintro e w2 ⟨rfl, c2, q2, r2, h2, L2⟩
    have a2 := L2.q; have b2 := L2.l
    go_wp2_with fail
    refine (mk_arr _ p r2 c2 n q2 kd 0 h2 hn6 hnl (by omega) (by omega) hkl 3 (by omega)).mono ?_
    rintro e w3 ⟨rfl, c3, q3, r3, h3, L3⟩
    have a3 := L3.q; have b3 := L3.l
    go_wp2_with fail
    refine (mk_index_0 _ p r3 c3 n q3 kd h3 hn6 hnl (by omega) (by omega) hkl).mono ?_
    rintro e w4 ⟨rfl, c4, q4, r4, h4, L4⟩
    have a4 := L4.q; have b4 := L4.l
    go_wp2_with fail
    refine (mk_index_0 _ p r4 c4 n q4 kd h4 hn6 hnl (by omega) (by omega) hkl).mono ?_
    rintro e w5 ⟨rfl, c5, q5, r5, h5, L5⟩
    have a5 := L5.q; have b5 := L5.l
    go_wp2_with fail
    refine (mk_putTo _ p r5 c5 n q5 kd 0 h5 31 0 0 (ok_zero _ (by omega)) (by omega)).mono ?_
    rintro e w6 ⟨rfl, c6, q6, r6, h6, L6⟩
    have a6 := L6.q; have b6 := L6.l
    go_wp2_with fail
    go_end0
    exact ⟨rfl, c6, q6, r6, h6, ((((((LA.trans L1).trans L2).trans L3).trans L4).trans L5).trans L6).mono (by omega)⟩
  · rw [hc]
    clear hc mk x1 x2
    go_wp2_with fail
    refine (mk_arr _ p row c n q kd 0 hA hn6 hnl (by omega) (by omega) hkl 4 (by omega)).mono ?_
    rintro e w1 ⟨rfl, c1, q1, r1, h1, L1⟩
    have a1 := L1.q; have b1 := L1.l
    go_wp2_with fail
    refine (mk_index_0 _ p r1 c1 n q1 kd h1 hn6 hnl (by omega) (by omega) hkl).mono ?_
    rintro e w2 ⟨rfl, c2, q2, r2, h2, L2⟩
    have a2 := L2.q; have b2 := L2.l
    go_wp2_with fail
    refine (mk_arr _ p r2 c2 n q2 kd 0 h2 hn6 hnl (by omega) (by omega) hkl (3 + (b % 2)) (by omega)).mono ?_
    rintro e w3 ⟨rfl, c3, q3, r3, h3, L3⟩
    have a3 := L3.q; have b3 := L3.l
    go_wp2_with fail
    refine (mk_index_0 _ p r3 c3 n q3 kd h3 hn6 hnl (by omega) (by omega) hkl).mono ?_
    rintro e w4 ⟨rfl, c4, q4, r4, h4, L4⟩
    have a4 := L4.q; have b4 := L4.l
    go_wp2_with fail
    refine (mk_index_0 _ p r4 c4 n q4 kd h4 hn6 hnl (by omega) (by omega) hkl).mono ?_
    rintro e w5 ⟨rfl, c5, q5, r5, h5, L5⟩
    have a5 := L5.q; have b5 := L5.l
    go_wp2_with fail
    refine (mk_putTo _ p r5 c5 n q5 kd 0 h5 31 0 0 (ok_zero _ (by omega)) (by omega)).mono ?_
    rintro e w6 ⟨rfl, c6, q6, r6, h6, L6⟩
    have a6 := L6.q; have b6 := L6.l
    go_wp2_with fail
    go_end0
    exact ⟨rfl, c6, q6, r6, h6, ((((((LA.trans L1).trans L2).trans L3).trans L4).trans L5).trans L6).mono (by omega)⟩

set_option maxRecDepth 100000 in
set_option maxHeartbeats 4000000 in
theorem mk_stmt_7 (w : World) (p row : Nat) (c : List Ins) (n : List Int) (q : Nat) (kd : List Int) (h : Mk 99 57 2 w p row c n q kd 0) (hn6 : I64s n) (hnl : n.length ≤ 9223372036854775807) (hq : q ≤ 500000) (hl : c.length ≤ 500000) (hkl : kd.length ≤ 10) (hkd : ∀ k ∈ kd, 1 ≤ k ∧ k ≤ 4)
    (W0 : World) (t0 : Tch [] W0 w) (hp0 : W0.heap.size ≤ p) (hr0 : W0.heap.size ≤ row) (o a b cc : Int) (ho6 : I6 o) (ha6 : I6 a) (hb6 : I6 b)
    (vst : Value) (st : List Int) (hst : Src w [p, row] vst st.length (ints st)) (hsr : ∀ s ∈ st, 0 ≤ s ∧ s ≤ 119) (hstl : st.length ≤ 1000)
    (vms : Value) (ms : List Mth) (hms : RMths W0 [] vms ms) (hm1 : 1 ≤ ms.length ∧ ms.length ≤ 8) (hmp : ∀ m ∈ ms, m.params.length ≤ 10 ∧ ∀ k ∈ m.params, 1 ≤ k ∧ k ≤ 4)
    (vim : Value) (im : List Imp) (him : RImps W0 [] vim im) (hi1 : im.length ≤ 4) (hip : ∀ m ∈ im, m.params.length ≤ 10 ∧ ∀ k ∈ m.params, 1 ≤ k ∧ k ≤ 4) (e1 : o % 16 = 7) :
    Calls Tryz.prog 58 #[.pointer (some ⟨p, 0, none⟩), .agg #[.int .i64 o, .int .i64 a, .int .i64 b, .int .i64 cc], vst, vms, vim] w fun e w' => e = .returned (.tuple #[]) ∧ MkTo 99 57 2 p row c n q kd 0 40000 w w' := by
  have hpo := fun w => hand_Pick o 16 ho6 (by omega) (by omega) w
  rw [e1] at hpo
  clear e1
  have tA : Tch [] w (w.alloc (.cells #[.int .i64 o, .int .i64 a, .int .i64 b, .int .i64 cc] 101)) := (Tch.refl [] w).alloc _
  have hA := h.tch tA (by simp)
  have LA : Lk p row c.length q 0 w row c.length q (w.alloc (.cells #[.int .i64 o, .int .i64 a, .int .i64 b, .int .i64 cc] 101)) := ⟨by omega, by omega, .inl rfl, tA.nil⟩
  have hX := Bq.new w (.int .i64 o) (.int .i64 a) (.int .i64 b) (.int .i64 cc) 101
  have hplt := h.lt
  have hrlt := h.row_lt
  obtain ⟨W, hW⟩ : ∃ W, W = w.alloc (.cells #[.int .i64 o, .int .i64 a, .int .i64 b, .int .i64 cc] 101) := ⟨_, rfl⟩
  rw [← hW] at tA hA LA hX
  obtain ⟨x0, x1, x2, x3⟩ := hX
  go_enter Tryz.func58, Tryz.ntmps58
  go_upto_region 1 with fail
  rw [← hW]
  clear hW h
  go_wp2_with fail
  refine (hpo _).mono ?_
  rintro e w' ⟨rfl, rfl⟩
  clear hpo x0 x3
  clear x2
  go_wp2_with fail
  refine (hand_Pick a 2 ha6 (by omega) (by omega) _).mono ?_
  rintro e w' ⟨rfl, rfl⟩
  have mk : 0 ≤ a % 2 ∧ a % 2 < 2 := by omega
  go_wp2_with fail
  refine (mk_arr _ p row c n q kd 0 hA hn6 hnl (by omega) (by omega) hkl (3 + (1 + (a % 2)) - 1) (by omega)).mono ?_
  rintro e w1 ⟨rfl, c1, q1, r1, h1, L1⟩
  have a1 := L1.q; have b1 := L1.l
  go_wp2_with fail
  refine (mk_index_0 _ p r1 c1 n q1 kd h1 hn6 hnl (by omega) (by omega) hkl).mono ?_
  rintro e w2 ⟨rfl, c2, q2, r2, h2, L2⟩
  have a2 := L2.q; have b2 := L2.l
  go_wp2_with fail
  refine (mk_index_0 _ p r2 c2 n q2 kd h2 hn6 hnl (by omega) (by omega) hkl).mono ?_
  rintro e w3 ⟨rfl, c3, q3, r3, h3, L3⟩
  have a3 := L3.q; have b3 := L3.l
  go_wp2_with fail
  refine (mk_putTo _ p r3 c3 n q3 kd 0 h3 36 (1 + (a % 2)) 0 (ok_send _ (by omega)) (by omega)).mono ?_
  rintro e w4 ⟨rfl, c4, q4, r4, h4, L4⟩
  have a4 := L4.q; have b4 := L4.l
  go_wp2_with fail
  go_end0
  exact ⟨rfl, c4, q4, r4, h4, ((((LA.trans L1).trans L2).trans L3).trans L4).mono (by omega)⟩

set_option maxRecDepth 100000 in
set_option maxHeartbeats 4000000 in
theorem mk_stmt_8 (w : World) (p row : Nat) (c : List Ins) (n : List Int) (q : Nat) (kd : List Int) (h : Mk 99 57 2 w p row c n q kd 0) (hn6 : I64s n) (hnl : n.length ≤ 9223372036854775807) (hq : q ≤ 500000) (hl : c.length ≤ 500000) (hkl : kd.length ≤ 10) (hkd : ∀ k ∈ kd, 1 ≤ k ∧ k ≤ 4)
    (W0 : World) (t0 : Tch [] W0 w) (hp0 : W0.heap.size ≤ p) (hr0 : W0.heap.size ≤ row) (o a b cc : Int) (ho6 : I6 o) (ha6 : I6 a) (hb6 : I6 b)
    (vst : Value) (st : List Int) (hst : Src w [p, row] vst st.length (ints st)) (hsr : ∀ s ∈ st, 0 ≤ s ∧ s ≤ 119) (hstl : st.length ≤ 1000)
    (vms : Value) (ms : List Mth) (hms : RMths W0 [] vms ms) (hm1 : 1 ≤ ms.length ∧ ms.length ≤ 8) (hmp : ∀ m ∈ ms, m.params.length ≤ 10 ∧ ∀ k ∈ m.params, 1 ≤ k ∧ k ≤ 4)
    (vim : Value) (im : List Imp) (him : RImps W0 [] vim im) (hi1 : im.length ≤ 4) (hip : ∀ m ∈ im, m.params.length ≤ 10 ∧ ∀ k ∈ m.params, 1 ≤ k ∧ k ≤ 4) (e1 : o % 16 = 8) :
    Calls Tryz.prog 58 #[.pointer (some ⟨p, 0, none⟩), .agg #[.int .i64 o, .int .i64 a, .int .i64 b, .int .i64 cc], vst, vms, vim] w fun e w' => e = .returned (.tuple #[]) ∧ MkTo 99 57 2 p row c n q kd 0 40000 w w' := by
  have hpo := fun w => hand_Pick o 16 ho6 (by omega) (by omega) w
  rw [e1] at hpo
  clear e1
  have tA : Tch [] w (w.alloc (.cells #[.int .i64 o, .int .i64 a, .int .i64 b, .int .i64 cc] 101)) := (Tch.refl [] w).alloc _
  have hA := h.tch tA (by simp)
  have LA : Lk p row c.length q 0 w row c.length q (w.alloc (.cells #[.int .i64 o, .int .i64 a, .int .i64 b, .int .i64 cc] 101)) := ⟨by omega, by omega, .inl rfl, tA.nil⟩
  have hX := Bq.new w (.int .i64 o) (.int .i64 a) (.int .i64 b) (.int .i64 cc) 101
  have hplt := h.lt
  have hrlt := h.row_lt
  obtain ⟨W, hW⟩ : ∃ W, W = w.alloc (.cells #[.int .i64 o, .int .i64 a, .int .i64 b, .int .i64 cc] 101) := ⟨_, rfl⟩
  rw [← hW] at tA hA LA hX
  obtain ⟨x0, x1, x2, x3⟩ := hX
  go_enter Tryz.func58, Tryz.ntmps58
  go_upto_region 1 with fail
  rw [← hW]
  clear hW h
  go_wp2_with fail
  refine (hpo _).mono ?_
  rintro e w' ⟨rfl, rfl⟩
  clear hpo x0 x3
  clear x2
  go_wp2_with fail
  refine (hand_Pick a 2 ha6 (by omega) (by omega) _).mono ?_
  rintro e w' ⟨rfl, rfl⟩
  have mk : 0 ≤ a % 2 ∧ a % 2 < 2 := by omega
  go_wp2_with fail
  refine (mk_arr _ p row c n q kd 0 hA hn6 hnl (by omega) (by omega) hkl (3 + (1 + (a % 2)) - 1) (by omega)).mono ?_
  rintro e w1 ⟨rfl, c1, q1, r1, h1, L1⟩
  have a1 := L1.q; have b1 := L1.l
  go_wp2_with fail
  refine (mk_index_0 _ p r1 c1 n q1 kd h1 hn6 hnl (by omega) (by omega) hkl).mono ?_
  rintro e w2 ⟨rfl, c2, q2, r2, h2, L2⟩
  have a2 := L2.q; have b2 := L2.l
  go_wp2_with fail
  refine (mk_index_0 _ p r2 c2 n q2 kd h2 hn6 hnl (by omega) (by omega) hkl).mono ?_
  rintro e w3 ⟨rfl, c3, q3, r3, h3, L3⟩
  have a3 := L3.q; have b3 := L3.l
  go_wp2_with fail
  refine (mk_putTo _ p r3 c3 n q3 kd 0 h3 36 (1 + (a % 2)) 0 (ok_send _ (by omega)) (by omega)).mono ?_
  rintro e w4 ⟨rfl, c4, q4, r4, h4, L4⟩
  have a4 := L4.q; have b4 := L4.l
  go_wp2_with fail
  go_end0
  exact ⟨rfl, c4, q4, r4, h4, ((((LA.trans L1).trans L2).trans L3).trans L4).mono (by omega)⟩

set_option maxRecDepth 100000 in
set_option maxHeartbeats 4000000 in
theorem mk_stmt_14 (w : World) (p row : Nat) (c : List Ins) (n : List Int) (q : Nat) (kd : List Int) (h : Mk 99 57 2 w p row c n q kd 0) (hn6 : I64s n) (hnl : n.length ≤ 9223372036854775807) (hq : q ≤ 500000) (hl : c.length ≤ 500000) (hkl : kd.length ≤ 10) (hkd : ∀ k ∈ kd, 1 ≤ k ∧ k ≤ 4)
    (W0 : World) (t0 : Tch [] W0 w) (hp0 : W0.heap.size ≤ p) (hr0 : W0.heap.size ≤ row) (o a b cc : Int) (ho6 : I6 o) (ha6 : I6 a) (hb6 : I6 b)
    (vst : Value) (st : List Int) (hst : Src w [p, row] vst st.length (ints st)) (hsr : ∀ s ∈ st, 0 ≤ s ∧ s ≤ 119) (hstl : st.length ≤ 1000)
    (vms : Value) (ms : List Mth) (hms : RMths W0 [] vms ms) (hm1 : 1 ≤ ms.length ∧ ms.length ≤ 8) (hmp : ∀ m ∈ ms, m.params.length ≤ 10 ∧ ∀ k ∈ m.params, 1 ≤ k ∧ k ≤ 4)
    (vim : Value) (im : List Imp) (him : RImps W0 [] vim im) (hi1 : im.length ≤ 4) (hip : ∀ m ∈ im, m.params.length ≤ 10 ∧ ∀ k ∈ m.params, 1 ≤ k ∧ k ≤ 4) (e1 : o % 16 = 14) :
    Calls Tryz.prog 58 #[.pointer (some ⟨p, 0, none⟩), .agg #[.int .i64 o, .int .i64 a, .int .i64 b, .int .i64 cc], vst, vms, vim] w fun e w' => e = .returned (.tuple #[]) ∧ MkTo 99 57 2 p row c n q kd 0 40000 w w' := by
  have hpo := fun w => hand_Pick o 16 ho6 (by omega) (by omega) w
  rw [e1] at hpo
  clear e1
  have tA : Tch [] w (w.alloc (.cells #[.int .i64 o, .int .i64 a, .int .i64 b, .int .i64 cc] 101)) := (Tch.refl [] w).alloc _
  have hA := h.tch tA (by simp)
  have LA : Lk p row c.length q 0 w row c.length q (w.alloc (.cells #[.int .i64 o, .int .i64 a, .int .i64 b, .int .i64 cc] 101)) := ⟨by omega, by omega, .inl rfl, tA.nil⟩
  have hX := Bq.new w (.int .i64 o) (.int .i64 a) (.int .i64 b) (.int .i64 cc) 101
  have hplt := h.lt
  have hrlt := h.row_lt
  obtain ⟨W, hW⟩ : ∃ W, W = w.alloc (.cells #[.int .i64 o, .int .i64 a, .int .i64 b, .int .i64 cc] 101) := ⟨_, rfl⟩
  rw [← hW] at tA hA LA hX
  obtain ⟨x0, x1, x2, x3⟩ := hX
  go_enter Tryz.func58, Tryz.ntmps58
  go_upto_region 1 with fail
  rw [← hW]
  clear hW h
  go_wp2_with fail
  refine (hpo _).mono ?_
  rintro e w' ⟨rfl, rfl⟩
  clear hpo x0 x3
  go_wp2_with fail
  refine (mk_pub_0 _ p row c n q kd hA hn6 hnl (by omega) (by omega) hkl).mono ?_
  rintro e w1 ⟨rfl, c1, q1, r1, h1, L1⟩
  have a1 := L1.q; have b1 := L1.l
  go_wp2_with fail
  refine (mk_putTo _ p r1 c1 n q1 kd 0 h1 5 0 0 (ok_zero _ (by omega)) (by omega)).mono ?_
  rintro e w2 ⟨rfl, c2, q2, r2, h2, L2⟩
  have a2 := L2.q; have b2 := L2.l
  go_wp2_with fail
  refine (mk_putTo _ p r2 c2 n q2 kd 0 h2 4 0 0 (ok_zero _ (by omega)) (by omega)).mono ?_
  rintro e w3 ⟨rfl, c3, q3, r3, h3, L3⟩
  have a3 := L3.q; have b3 := L3.l
  go_wp2_with fail
  refine (mk_putTo _ p r3 c3 n q3 kd 0 h3 4 0 0 (ok_zero _ (by omega)) (by omega)).mono ?_
  rintro e w4 ⟨rfl, c4, q4, r4, h4, L4⟩
  have a4 := L4.q; have b4 := L4.l
  go_wp2_with fail
  go_end0
  exact ⟨rfl, c4, q4, r4, h4, ((((LA.trans L1).trans L2).trans L3).trans L4).mono (by omega)⟩

set_option maxRecDepth 100000 in
set_option maxHeartbeats 4000000 in
theorem mk_stmt_15 (w : World) (p row : Nat) (c : List Ins) (n : List Int) (q : Nat) (kd : List Int) (h : Mk 99 57 2 w p row c n q kd 0) (hn6 : I64s n) (hnl : n.length ≤ 9223372036854775807) (hq : q ≤ 500000) (hl : c.length ≤ 500000) (hkl : kd.length ≤ 10) (hkd : ∀ k ∈ kd, 1 ≤ k ∧ k ≤ 4)
    (W0 : World) (t0 : Tch [] W0 w) (hp0 : W0.heap.size ≤ p) (hr0 : W0.heap.size ≤ row) (o a b cc : Int) (ho6 : I6 o) (ha6 : I6 a) (hb6 : I6 b)
    (vst : Value) (st : List Int) (hst : Src w [p, row] vst st.length (ints st)) (hsr : ∀ s ∈ st, 0 ≤ s ∧ s ≤ 119) (hstl : st.length ≤ 1000)
    (vms : Value) (ms : List Mth) (hms : RMths W0 [] vms ms) (hm1 : 1 ≤ ms.length ∧ ms.length ≤ 8) (hmp : ∀ m ∈ ms, m.params.length ≤ 10 ∧ ∀ k ∈ m.params, 1 ≤ k ∧ k ≤ 4)
    (vim : Value) (im : List Imp) (him : RImps W0 [] vim im) (hi1 : im.length ≤ 4) (hip : ∀ m ∈ im, m.params.length ≤ 10 ∧ ∀ k ∈ m.params, 1 ≤ k ∧ k ≤ 4) (e1 : o % 16 = 15) :
    Calls Tryz.prog 58 #[.pointer (some ⟨p, 0, none⟩), .agg #[.int .i64 o, .int .i64 a, .int .i64 b, .int .i64 cc], vst, vms, vim] w fun e w' => e = .returned (.tuple #[]) ∧ MkTo 99 57 2 p row c n q kd 0 40000 w w' := by
  have hpo := fun w => hand_Pick o 16 ho6 (by omega) (by omega) w
  rw [e1] at hpo
  clear e1
  have tA : Tch [] w (w.alloc (.cells #[.int .i64 o, .int .i64 a, .int .i64 b, .int .i64 cc] 101)) := (Tch.refl [] w).alloc _
  have hA := h.tch tA (by simp)
  have LA : Lk p row c.length q 0 w row c.length q (w.alloc (.cells #[.int .i64 o, .int .i64 a, .int .i64 b, .int .i64 cc] 101)) := ⟨by omega, by omega, .inl rfl, tA.nil⟩
  have hX := Bq.new w (.int .i64 o) (.int .i64 a) (.int .i64 b) (.int .i64 cc) 101
  have hplt := h.lt
  have hrlt := h.row_lt
  obtain ⟨W, hW⟩ : ∃ W, W = w.alloc (.cells #[.int .i64 o, .int .i64 a, .int .i64 b, .int .i64 cc] 101) := ⟨_, rfl⟩
  rw [← hW] at tA hA LA hX
  obtain ⟨x0, x1, x2, x3⟩ := hX
  go_enter Tryz.func58, Tryz.ntmps58
  go_upto_region 1 with fail
  rw [← hW]
  clear hW h
  go_wp2_with fail
  refine (hpo _).mono ?_
  rintro e w' ⟨rfl, rfl⟩
  clear hpo x0 x3
  have t50 := rem50 a
  go_wp2_with fail
  refine (mk_putTo _ p row c n q kd 0 hA 1 (a.tmod 50) 0 (ok_push _ (by omega)) (by omega)).mono ?_
  rintro e w1 ⟨rfl, c1, q1, r1, h1, L1⟩
  have a1 := L1.q; have b1 := L1.l
  go_wp2_with fail
  refine (mk_putTo _ p r1 c1 n q1 kd 0 h1 4 0 0 (ok_zero _ (by omega)) (by omega)).mono ?_
  rintro e w2 ⟨rfl, c2, q2, r2, h2, L2⟩
  have a2 := L2.q; have b2 := L2.l
  go_wp2_with fail
  go_end0
  exact ⟨rfl, c2, q2, r2, h2, ((LA.trans L1).trans L2).mono (by omega)⟩
end Go.Proofs.YteebapopeaafhaaGreatDoor
namespace Go.Tcn
open Go.RowKit
set_option linter.unusedVariables false
set_option linter.unusedSimpArgs false
set_option linter.unusedSectionVars false
variable [OkP]
theorem Src.lk {p row0 L0 q0 B row1 L1 q1 : Nat} {w w1 : World} {v : Value} {m : Nat} {news : List Value} (hs : Src w [p, row0] v m news) (h : Lk p row0 L0 q0 B w row1 L1 q1 w1) : Src w1 [p, row1] v m news := by
  have hr := h.r
  have s1 : Src w [p, row0, row1] v m news := hs.mono (fun i hi hlt => by simp at hi ⊢; omega)
  have s2 := s1.tch h.t (fun i hi _ => by simp at hi ⊢; omega)
  exact s2.mono (fun i hi _ => by simp at hi ⊢; omega)
theorem codeCells_len (ks : List Ins) : (codeCells ks).length = ks.length * 3 := by
  induction ks with
  | nil => rfl
  | cons x ks ih => simp [codeCells, Ins.cells] at ih ⊢; omega
theorem codeCells_setA (c : List Ins) (x : Ins) (a : Int) : (codeCells (c ++ [x])).set (c.length * 3 + 1) (.int .i64 a) = codeCells (c ++ [⟨x.op, a, x.b⟩]) := by
  rw [codeCells_snoc', codeCells_snoc', List.set_append_right _ _ (by rw [codeCells_len]; omega), codeCells_len]
  have e : c.length * 3 + 1 - c.length * 3 = 1 := by omega
  rw [e]
  rfl
theorem Mk.setA {T E : TypeId} {G : Nat} {w : World} {p row : Nat} {c : List Ins} {x : Ins} {n : List Int} {q : Nat} {kd : List Int} {d : Int} (h : Mk T E G w p row (c ++ [x]) n q kd d) (a : Int) (hok : okI ⟨x.op, a, x.b⟩) :
    Mk T E G (w.setCell ⟨row, c.length * 3 + 1, none⟩ (.int .i64 a)) p row (c ++ [⟨x.op, a, x.b⟩]) n q kd d ∧ Lk p row (c.length + 1) q 0 w row (c.length + 1) q (w.setCell ⟨row, c.length * 3 + 1, none⟩ (.int .i64 a)) := by
  obtain ⟨vc, vn, vk, hv, ho, hrow, hne, hn, hk⟩ := h.ex
  obtain ⟨g, cap, rfl, _, _⟩ := World.ownsRow.form ho (by simp)
  have hrg : row = g := by simpa [Value.ownBlock] using hrow
  have hgp : g ≠ p := by simpa [Value.ownBlock] using hne
  subst hrg
  have T1 : Tch [p, row] w (w.setCell ⟨row, c.length * 3 + 1, none⟩ (.int .i64 a)) := (Tch.refl _ w).setCell (by simp) _
  have hst := (ho.stored (c.length * 3 + 1) (.int .i64 a)).1
  rw [codeCells_setA] at hst
  refine ⟨⟨⟨_, vn, vk, ?_, by simpa using hst, rfl, hne, hn.tch T1 (fun i hi _ => List.mem_append_left OkP.far hi), hk.tch T1 (fun i hi _ => List.mem_append_left OkP.far hi)⟩, ?_, h.gp, fun j hj => ?_⟩, ⟨by omega, by omega, .inl rfl, T1⟩⟩
  · have hp := heap_lt hv
    rw [(Tch.setCell (L := [row]) (Tch.refl [row] w) (p := ⟨row, c.length * 3 + 1, none⟩) (by simp) (.int .i64 a)).block p hp (by simp; omega)]
    simpa using hv
  · refine h.ok.elim (fun h => .inl fun y hy => ?_) (fun h => .inr (by simpa using h))
    rcases List.mem_append.1 hy with h' | h'
    · exact h y (by simp [h'])
    · simp at h'; subst h'; exact hok
  · obtain ⟨op, h1, h2⟩ := h.bins j hj
    have hg := h.gp
    exact ⟨op, h1, by rw [T1.cell (cell_lt h2) (by simp; omega)]; exact h2⟩
theorem ok_jump (a : Int) (h : 0 ≤ a ∧ a ≤ 119) : okI ⟨24, a, 0⟩ := .inl (by unfold rightI limLo limHi; simp; omega)
end Go.Tcn
namespace Go.Proofs.YteebapopeaafhaaGreatDoor
open Go.RowKit Go.Tcn
set_option linter.unusedVariables false
set_option linter.unusedSimpArgs false
set_option linter.unusedSectionVars false
variable [OkP]

set_option maxRecDepth 100000 in
set_option maxHeartbeats 4000000 in
theorem mk_stmt_9 (w : World) (p row : Nat) (c : List Ins) (n : List Int) (q : Nat) (kd : List Int) (h : Mk 99 57 2 w p row c n q kd 0) (hn6 : I64s n) (hnl : n.length ≤ 9223372036854775807) (hq : q ≤ 500000) (hl : c.length ≤ 500000) (hkl : kd.length ≤ 10) (hkd : ∀ k ∈ kd, 1 ≤ k ∧ k ≤ 4)
    (W0 : World) (t0 : Tch [] W0 w) (hp0 : W0.heap.size ≤ p) (hr0 : W0.heap.size ≤ row) (o a b cc : Int) (ho6 : I6 o) (ha6 : I6 a) (hb6 : I6 b)
    (vst : Value) (st : List Int) (hst : Src w [p, row] vst st.length (ints st)) (hsr : ∀ s ∈ st, 0 ≤ s ∧ s ≤ 119) (hstl : st.length ≤ 1000)
    (vms : Value) (ms : List Mth) (hms : RMths W0 [] vms ms) (hm1 : 1 ≤ ms.length ∧ ms.length ≤ 8) (hmp : ∀ m ∈ ms, m.params.length ≤ 10 ∧ ∀ k ∈ m.params, 1 ≤ k ∧ k ≤ 4)
    (vim : Value) (im : List Imp) (him : RImps W0 [] vim im) (hi1 : im.length ≤ 4) (hip : ∀ m ∈ im, m.params.length ≤ 10 ∧ ∀ k ∈ m.params, 1 ≤ k ∧ k ≤ 4) (hopn : OkP.opn = true) (e1 : o % 16 = 9) :
    Calls Tryz.prog 58 #[.pointer (some ⟨p, 0, none⟩), .agg #[.int .i64 o, .int .i64 a, .int .i64 b, .int .i64 cc], vst, vms, vim] w fun e w' => e = .returned (.tuple #[]) ∧ MkTo 99 57 2 p row c n q kd 0 40000 w w' := by
  have hpo := fun w => hand_Pick o 16 ho6 (by omega) (by omega) w
  rw [e1] at hpo
  clear e1
  have tA : Tch [] w (w.alloc (.cells #[.int .i64 o, .int .i64 a, .int .i64 b, .int .i64 cc] 101)) := (Tch.refl [] w).alloc _
  have hA := h.tch tA (by simp)
  have LA : Lk p row c.length q 0 w row c.length q (w.alloc (.cells #[.int .i64 o, .int .i64 a, .int .i64 b, .int .i64 cc] 101)) := ⟨by omega, by omega, .inl rfl, tA.nil⟩
  have hX := Bq.new w (.int .i64 o) (.int .i64 a) (.int .i64 b) (.int .i64 cc) 101
  have hplt := h.lt
  have hrlt := h.row_lt
  obtain ⟨W, hW⟩ : ∃ W, W = w.alloc (.cells #[.int .i64 o, .int .i64 a, .int .i64 b, .int .i64 cc] 101) := ⟨_, rfl⟩
  rw [← hW] at tA hA LA hX
  obtain ⟨x0, x1, x2, x3⟩ := hX
  go_enter Tryz.func58, Tryz.ntmps58
  go_upto_region 1 with fail
  rw [← hW]
  clear hW h
  go_wp2_with fail
  refine (hpo _).mono ?_
  rintro e w' ⟨rfl, rfl⟩
  clear hpo x0 x3
  have zW := cell_lt x1
  have x1s := x1
  have x2s := x2
  clear x1 x2
  go_wp2_with fail
  refine (mk_pub_0 _ p row c n q kd hA hn6 hnl (by omega) (by omega) hkl).mono ?_
  rintro e w1 ⟨rfl, c1, q1, r1, h1, L1⟩
  have a1 := L1.q; have b1 := L1.l
  have y1 := (show w1.cell? ⟨w.heap.size, 1, none⟩ = some (.int .i64 a) by rw [L1.t.cell zW (by simp; omega)]; exact x1s)
  have y2 := (show w1.cell? ⟨w.heap.size, 2, none⟩ = some (.int .i64 b) by rw [L1.t.cell zW (by simp; omega)]; exact x2s)
  have hst1 := (hst.tch tA (by simp)).lk L1
  have zW1 := L1.t.size
  have hr1' := L1.r
  have zW' : w.heap.size < W.heap.size := zW
  clear x1s x2s
  have Y1 := Lib.hid y1; have Y2 := Lib.hid y2; clear y1 y2
  go_wp2_with fail
  refine (mk_put _ p r1 c1 n q1 kd 0 h1 24 (-1) 0 (ok_open hopn) (by omega)).mono ?_
  rintro e w2 ⟨rfl, r2, h2, L2⟩
  have zW1' : w.heap.size < w1.heap.size := by omega
  have y1 := (show w2.cell? ⟨w.heap.size, 1, none⟩ = some (.int .i64 a) by rw [L2.t.cell zW1' (by simp; omega)]; exact Y1.out)
  have y2 := (show w2.cell? ⟨w.heap.size, 2, none⟩ = some (.int .i64 b) by rw [L2.t.cell zW1' (by simp; omega)]; exact Y2.out)
  have hst2 := hst1.lk L2
  have hpa := fun w => hand_Pick a 4 ha6 (by omega) (by omega) w
  obtain ⟨aos, caps, rfl⟩ := hst2.form
  have hr2' := L2.r
  by_cases hgo : a % 4 = 0 ∧ 0 < st.length
  · obtain ⟨hg1, hg2⟩ := hgo
    rw [hg1] at hpa
    clear hg1
    obtain ⟨j, hj⟩ : ∃ j : Nat, b % (st.length : Int) = (j : Int) := ⟨(b % (st.length : Int)).toNat, by have := Int.emod_nonneg b (show (st.length : Int) ≠ 0 by omega); omega⟩
    have hjl : j < st.length := by have := Int.emod_lt_of_pos b (show (0 : Int) < (st.length : Int) by omega); omega
    have hpb := fun w => hand_Pick b st.length hb6 (by omega) (by omega) w
    rw [hj] at hpb
    clear hj
    obtain ⟨ad, rfl, _, _, hcj⟩ := hst2.at (j := j) (by simpa using hjl)
    have hcj2 : w2.cell? (ad.add j) = some (.int .i64 st[j]) := by simpa [ints] using hcj
    have hsj := hsr st[j] (List.getElem_mem hjl)
    clear hcj
    generalize st[j] = sj at *
    obtain ⟨hM0, LM0⟩ := h2.setA sj (ok_jump sj hsj)
    obtain ⟨wS, hwS⟩ : ∃ wS, wS = w2.setCell ⟨r2, c1.length * 3 + 1, none⟩ (.int .i64 sj) := ⟨_, rfl⟩
    rw [← hwS] at hM0 LM0
    have tD : Tch [] wS wS.drew := (Tch.refl [] wS).drew
    have LD : Lk p r2 (c1.length + 1) q1 0 wS r2 (c1.length + 1) q1 wS.drew := ⟨by omega, by omega, .inl rfl, tD.nil⟩
    have hM := hM0.tch tD (by simp)
    have LM := ((((LA.trans L1).trans L2).trans LM0).trans LD)
    subst hwS
    obtain ⟨vc, vn, vk, hv, hown, hrow, hne, _, _⟩ := id h2.ex
    obtain ⟨g, capg, rfl, _, _⟩ := World.ownsRow.form hown (by simp)
    have hrg : r2 = g := by simpa [Value.ownBlock] using hrow
    subst hrg
    have e0 : w2.cell? ⟨p, 0, none⟩ = some (.slice (some ⟨r2, 0, none⟩) (c1.length + 1) capg) := by simp [World.cell?, hv]
    have e1 : w2.cell? ⟨r2, c1.length * 3 + 1, none⟩ = some (.int .i64 (-1)) := by
      rw [World.ownsRow.cellAt hown (c1.length * 3 + 1) (by simp; omega), codeCells_snoc', List.getElem?_append_right (by rw [codeCells_len]; omega), codeCells_len]
      have e : c1.length * 3 + 1 - c1.length * 3 = 1 := by omega
      rw [e]; rfl
    have e2 : w2.frozen? ⟨r2, c1.length * 3 + 1, none⟩ = false := World.ownsRow.frozenAt hown _
    have hb0 : (0 : Int) ≤ (j : Int) ∧ (j : Int) < (st.length : Int) := by omega
    have hb1 : (c1.length : Int) < (c1.length : Int) + 1 := by omega
    have hwr : IntKind.i64.wrap (c1.length : Int) = (c1.length : Int) := IntWalk.i64_in _ (by omega)
    clear hv hown hrow hne hst hst1 hst2
    go_upto_region 45 with (go_at_call 16; refine (hpa _).mono ?_; rintro e w' ⟨rfl, rfl⟩)
    go_still_tail 20, (by kernel_rfl)
    still_call ((hpb _).mono fun _ _ h => ⟨h.1, h.2.symm⟩)
    repeat still_step
    refine wpStill_nil ?_
    go_wp2_with fail
    go_end0
    exact ⟨rfl, c1 ++ [⟨24, sj, 0⟩], q1, r2, hM, by simpa using (LM.mono (by omega) : Lk p row c.length q 40000 w r2 (c1.length + 1) q1 _)⟩
  · have hcs : ((a % 4 == 0) = false) ∨ (a % 4 = 0 ∧ st.length = 0) := by
      by_cases h0 : a % 4 = 0
      · exact .inr ⟨h0, by omega⟩
      · exact .inl (beq_eq_false_iff_ne.2 h0)
    have Lend := ((LA.trans L1).trans L2).mono (B' := 40000) (by omega)
    rcases hcs with hz | ⟨hz, hs0⟩
    · go_wp2_with fail
      refine (hpa _).mono ?_
      rintro e w' ⟨rfl, rfl⟩
      go_wp2_with fail
      go_end0
      exact ⟨rfl, c1 ++ [⟨24, -1, 0⟩], q1, r2, h2, by simpa using Lend⟩
    · rw [hz] at hpa
      clear hz hgo
      have hs1 : ¬ (0 : Int) < (st.length : Int) := by omega
      have hs2 : decide ((0 : Int) < (st.length : Int)) = false := decide_eq_false (by omega)
      clear hs0
      go_wp2_with fail
      refine (hpa _).mono ?_
      rintro e w' ⟨rfl, rfl⟩
      go_wp2_with fail
      go_end0
      exact ⟨rfl, c1 ++ [⟨24, -1, 0⟩], q1, r2, h2, by simpa using Lend⟩

set_option maxRecDepth 100000 in
set_option maxHeartbeats 4000000 in
theorem mk_stmt_10 (w : World) (p row : Nat) (c : List Ins) (n : List Int) (q : Nat) (kd : List Int) (h : Mk 99 57 2 w p row c n q kd 0) (hn6 : I64s n) (hnl : n.length ≤ 9223372036854775807) (hq : q ≤ 500000) (hl : c.length ≤ 500000) (hkl : kd.length ≤ 10) (hkd : ∀ k ∈ kd, 1 ≤ k ∧ k ≤ 4)
    (W0 : World) (t0 : Tch [] W0 w) (hp0 : W0.heap.size ≤ p) (hr0 : W0.heap.size ≤ row) (o a b cc : Int) (ho6 : I6 o) (ha6 : I6 a) (hb6 : I6 b)
    (vst : Value) (st : List Int) (hst : Src w [p, row] vst st.length (ints st)) (hsr : ∀ s ∈ st, 0 ≤ s ∧ s ≤ 119) (hstl : st.length ≤ 1000)
    (vms : Value) (ms : List Mth) (hms : RMths W0 [] vms ms) (hm1 : 1 ≤ ms.length ∧ ms.length ≤ 8) (hmp : ∀ m ∈ ms, m.params.length ≤ 10 ∧ ∀ k ∈ m.params, 1 ≤ k ∧ k ≤ 4)
    (vim : Value) (im : List Imp) (him : RImps W0 [] vim im) (hi1 : im.length ≤ 4) (hip : ∀ m ∈ im, m.params.length ≤ 10 ∧ ∀ k ∈ m.params, 1 ≤ k ∧ k ≤ 4) (hopn : OkP.opn = true) (e1 : o % 16 = 10) :
    Calls Tryz.prog 58 #[.pointer (some ⟨p, 0, none⟩), .agg #[.int .i64 o, .int .i64 a, .int .i64 b, .int .i64 cc], vst, vms, vim] w fun e w' => e = .returned (.tuple #[]) ∧ MkTo 99 57 2 p row c n q kd 0 40000 w w' := by
  have hpo := fun w => hand_Pick o 16 ho6 (by omega) (by omega) w
  rw [e1] at hpo
  clear e1
  have tA : Tch [] w (w.alloc (.cells #[.int .i64 o, .int .i64 a, .int .i64 b, .int .i64 cc] 101)) := (Tch.refl [] w).alloc _
  have hA := h.tch tA (by simp)
  have LA : Lk p row c.length q 0 w row c.length q (w.alloc (.cells #[.int .i64 o, .int .i64 a, .int .i64 b, .int .i64 cc] 101)) := ⟨by omega, by omega, .inl rfl, tA.nil⟩
  have hX := Bq.new w (.int .i64 o) (.int .i64 a) (.int .i64 b) (.int .i64 cc) 101
  have hplt := h.lt
  have hrlt := h.row_lt
  obtain ⟨W, hW⟩ : ∃ W, W = w.alloc (.cells #[.int .i64 o, .int .i64 a, .int .i64 b, .int .i64 cc] 101) := ⟨_, rfl⟩
  rw [← hW] at tA hA LA hX
  obtain ⟨x0, x1, x2, x3⟩ := hX
  go_enter Tryz.func58, Tryz.ntmps58
  go_upto_region 1 with fail
  rw [← hW]
  clear hW h
  go_wp2_with fail
  refine (hpo _).mono ?_
  rintro e w' ⟨rfl, rfl⟩
  clear hpo x0 x3
  have zW := cell_lt x1
  have x1s := x1
  have x2s := x2
  clear x1 x2
  go_wp2_with fail
  refine (mk_pub_0 _ p row c n q kd hA hn6 hnl (by omega) (by omega) hkl).mono ?_
  rintro e w1 ⟨rfl, c1, q1, r1, h1, L1⟩
  have a1 := L1.q; have b1 := L1.l
  have y1 := (show w1.cell? ⟨w.heap.size, 1, none⟩ = some (.int .i64 a) by rw [L1.t.cell zW (by simp; omega)]; exact x1s)
  have y2 := (show w1.cell? ⟨w.heap.size, 2, none⟩ = some (.int .i64 b) by rw [L1.t.cell zW (by simp; omega)]; exact x2s)
  have hst1 := (hst.tch tA (by simp)).lk L1
  have zW1 := L1.t.size
  have hr1' := L1.r
  have zW' : w.heap.size < W.heap.size := zW
  clear x1s x2s
  have Y1 := Lib.hid y1; have Y2 := Lib.hid y2; clear y1 y2
  go_wp2_with fail
  refine (mk_put _ p r1 c1 n q1 kd 0 h1 24 (-1) 0 (ok_open hopn) (by omega)).mono ?_
  rintro e w2 ⟨rfl, r2, h2, L2⟩
  have zW1' : w.heap.size < w1.heap.size := by omega
  have y1 := (show w2.cell? ⟨w.heap.size, 1, none⟩ = some (.int .i64 a) by rw [L2.t.cell zW1' (by simp; omega)]; exact Y1.out)
  have y2 := (show w2.cell? ⟨w.heap.size, 2, none⟩ = some (.int .i64 b) by rw [L2.t.cell zW1' (by simp; omega)]; exact Y2.out)
  have hst2 := hst1.lk L2
  have hpa := fun w => hand_Pick a 4 ha6 (by omega) (by omega) w
  obtain ⟨aos, caps, rfl⟩ := hst2.form
  have hr2' := L2.r
  by_cases hgo : a % 4 = 0 ∧ 0 < st.length
  · obtain ⟨hg1, hg2⟩ := hgo
    rw [hg1] at hpa
    clear hg1
    obtain ⟨j, hj⟩ : ∃ j : Nat, b % (st.length : Int) = (j : Int) := ⟨(b % (st.length : Int)).toNat, by have := Int.emod_nonneg b (show (st.length : Int) ≠ 0 by omega); omega⟩
    have hjl : j < st.length := by have := Int.emod_lt_of_pos b (show (0 : Int) < (st.length : Int) by omega); omega
    have hpb := fun w => hand_Pick b st.length hb6 (by omega) (by omega) w
    rw [hj] at hpb
    clear hj
    obtain ⟨ad, rfl, _, _, hcj⟩ := hst2.at (j := j) (by simpa using hjl)
    have hcj2 : w2.cell? (ad.add j) = some (.int .i64 st[j]) := by simpa [ints] using hcj
    have hsj := hsr st[j] (List.getElem_mem hjl)
    clear hcj
    generalize st[j] = sj at *
    obtain ⟨hM0, LM0⟩ := h2.setA sj (ok_jump sj hsj)
    obtain ⟨wS, hwS⟩ : ∃ wS, wS = w2.setCell ⟨r2, c1.length * 3 + 1, none⟩ (.int .i64 sj) := ⟨_, rfl⟩
    rw [← hwS] at hM0 LM0
    have tD : Tch [] wS wS.drew := (Tch.refl [] wS).drew
    have LD : Lk p r2 (c1.length + 1) q1 0 wS r2 (c1.length + 1) q1 wS.drew := ⟨by omega, by omega, .inl rfl, tD.nil⟩
    have hM := hM0.tch tD (by simp)
    have LM := ((((LA.trans L1).trans L2).trans LM0).trans LD)
    subst hwS
    obtain ⟨vc, vn, vk, hv, hown, hrow, hne, _, _⟩ := id h2.ex
    obtain ⟨g, capg, rfl, _, _⟩ := World.ownsRow.form hown (by simp)
    have hrg : r2 = g := by simpa [Value.ownBlock] using hrow
    subst hrg
    have e0 : w2.cell? ⟨p, 0, none⟩ = some (.slice (some ⟨r2, 0, none⟩) (c1.length + 1) capg) := by simp [World.cell?, hv]
    have e1 : w2.cell? ⟨r2, c1.length * 3 + 1, none⟩ = some (.int .i64 (-1)) := by
      rw [World.ownsRow.cellAt hown (c1.length * 3 + 1) (by simp; omega), codeCells_snoc', List.getElem?_append_right (by rw [codeCells_len]; omega), codeCells_len]
      have e : c1.length * 3 + 1 - c1.length * 3 = 1 := by omega
      rw [e]; rfl
    have e2 : w2.frozen? ⟨r2, c1.length * 3 + 1, none⟩ = false := World.ownsRow.frozenAt hown _
    have hb0 : (0 : Int) ≤ (j : Int) ∧ (j : Int) < (st.length : Int) := by omega
    have hb1 : (c1.length : Int) < (c1.length : Int) + 1 := by omega
    have hwr : IntKind.i64.wrap (c1.length : Int) = (c1.length : Int) := IntWalk.i64_in _ (by omega)
    clear hv hown hrow hne hst hst1 hst2
    go_upto_region 45 with (go_at_call 16; refine (hpa _).mono ?_; rintro e w' ⟨rfl, rfl⟩)
    go_still_tail 20, (by kernel_rfl)
    still_call ((hpb _).mono fun _ _ h => ⟨h.1, h.2.symm⟩)
    repeat still_step
    refine wpStill_nil ?_
    go_wp2_with fail
    go_end0
    exact ⟨rfl, c1 ++ [⟨24, sj, 0⟩], q1, r2, hM, by simpa using (LM.mono (by omega) : Lk p row c.length q 40000 w r2 (c1.length + 1) q1 _)⟩
  · have hcs : ((a % 4 == 0) = false) ∨ (a % 4 = 0 ∧ st.length = 0) := by
      by_cases h0 : a % 4 = 0
      · exact .inr ⟨h0, by omega⟩
      · exact .inl (beq_eq_false_iff_ne.2 h0)
    have Lend := ((LA.trans L1).trans L2).mono (B' := 40000) (by omega)
    rcases hcs with hz | ⟨hz, hs0⟩
    · go_wp2_with fail
      refine (hpa _).mono ?_
      rintro e w' ⟨rfl, rfl⟩
      go_wp2_with fail
      go_end0
      exact ⟨rfl, c1 ++ [⟨24, -1, 0⟩], q1, r2, h2, by simpa using Lend⟩
    · rw [hz] at hpa
      clear hz hgo
      have hs1 : ¬ (0 : Int) < (st.length : Int) := by omega
      have hs2 : decide ((0 : Int) < (st.length : Int)) = false := decide_eq_false (by omega)
      clear hs0
      go_wp2_with fail
      refine (hpa _).mono ?_
      rintro e w' ⟨rfl, rfl⟩
      go_wp2_with fail
      go_end0
      exact ⟨rfl, c1 ++ [⟨24, -1, 0⟩], q1, r2, h2, by simpa using Lend⟩
end Go.Proofs.YteebapopeaafhaaGreatDoor
