/-
  CONTRACTS: the maker of applets' code: stmt, the calls. Conditions: its memory is its own, its counts are small.
  CONTRACTS: the maker of applets' code: stmt, whole. Conditions: its memory is its own, its counts are small.
-/
import Derived.Test.YteebapopeaafhaaGreatDoorHStmt2
namespace Go.Tcn
open Go.RowKit
set_option linter.unusedVariables false
set_option linter.unusedSimpArgs false
set_option linter.unusedSectionVars false
variable [OkP]
theorem keepW {W0 w w' : World} {p row : Nat} {a : Addr} {v : Value} (h : W0.cell? a = some v) (t0 : Tch [] W0 w) (hp : W0.heap.size ≤ p) (hr : W0.heap.size ≤ row) (t : Tch [p, row] w w') : w'.cell? a = some v := by
  have z := cell_lt h
  have h1 := tch_cell' t0 h
  rw [t.cell (cell_lt h1) (by simp; omega)]
  exact h1
theorem add_off (ad : Addr) (n m : Nat) (h : 0 < m) : ad.add (n + m) = ⟨(ad.add n).block, (ad.add n).off + m, none⟩ := by
  by_cases hn : n = 0
  · subst hn; simp [Addr.add]; omega
  · simp [Addr.add, hn]; omega
end Go.Tcn
namespace Go.Proofs.YteebapopeaafhaaGreatDoor
open Go.RowKit Go.Tcn
set_option linter.unusedVariables false
set_option linter.unusedSimpArgs false
set_option linter.unusedSectionVars false
variable [OkP]

set_option maxRecDepth 100000 in
set_option maxHeartbeats 4000000 in
theorem mk_stmt_11 (w : World) (p row : Nat) (c : List Ins) (n : List Int) (q : Nat) (kd : List Int) (h : Mk 99 57 2 w p row c n q kd 0) (hn6 : I64s n) (hnl : n.length ≤ 9223372036854775807) (hq : q ≤ 500000) (hl : c.length ≤ 500000) (hkl : kd.length ≤ 10) (hkd : ∀ k ∈ kd, 1 ≤ k ∧ k ≤ 4)
    (W0 : World) (t0 : Tch [] W0 w) (hp0 : W0.heap.size ≤ p) (hr0 : W0.heap.size ≤ row) (o a b cc : Int) (ho6 : I6 o) (ha6 : I6 a) (hb6 : I6 b)
    (vst : Value) (st : List Int) (hst : Src w [p, row] vst st.length (ints st)) (hsr : ∀ s ∈ st, 0 ≤ s ∧ s ≤ 119) (hstl : st.length ≤ 1000)
    (vms : Value) (ms : List Mth) (hms : RMths W0 [] vms ms) (hm1 : 1 ≤ ms.length ∧ ms.length ≤ 8) (hmp : ∀ m ∈ ms, m.params.length ≤ 10 ∧ ∀ k ∈ m.params, 1 ≤ k ∧ k ≤ 4)
    (vim : Value) (im : List Imp) (him : RImps W0 [] vim im) (hi1 : im.length ≤ 4) (hip : ∀ m ∈ im, m.params.length ≤ 10 ∧ ∀ k ∈ m.params, 1 ≤ k ∧ k ≤ 4) (e1 : o % 16 = 11) :
    Calls Tryz.prog 58 #[.pointer (some ⟨p, 0, none⟩), .agg #[.int .i64 o, .int .i64 a, .int .i64 b, .int .i64 cc], vst, vms, vim] w fun e w' => e = .returned (.tuple #[]) ∧ MkTo 99 57 2 p row c n q kd 0 40000 w w' := by
  have hpo := fun w => hand_Pick o 16 ho6 (by omega) (by omega) w
  rw [e1] at hpo
  clear e1
  have tA : Tch [] w (w.alloc (.cells #[.int .i64 o, .int .i64 a, .int .i64 b, .int .i64 cc] 101)) := (Tch.refl [] w).alloc _
  have hA := h.tch tA (by simp)
  have LA : Lk p row c.length q 0 w row c.length q (w.alloc (.cells #[.int .i64 o, .int .i64 a, .int .i64 b, .int .i64 cc] 101)) := ⟨by omega, by omega, .inl rfl, tA.nil⟩
  have hX := Bq.new w (.int .i64 o) (.int .i64 a) (.int .i64 b) (.int .i64 cc) 101
  have hplt := h.lt
  have hrlt := h.row_lt
  obtain ⟨W, hW⟩ : ∃ W, W = w.alloc (.cells #[.int .i64 o, .int .i64 a, .int .i64 b, .int .i64 cc] 101) := ⟨_, rfl⟩
  rw [← hW] at tA hA LA hX
  obtain ⟨x0, x1, x2, x3⟩ := hX
  go_enter Tryz.func58, Tryz.ntmps58
  go_upto_region 1 with fail
  rw [← hW]
  clear hW h
  go_wp2_with fail
  refine (hpo _).mono ?_
  rintro e w' ⟨rfl, rfl⟩
  clear hpo x0 x3
  have hpa := fun w => hand_Pick a ms.length ha6 (by omega) (by omega) w
  obtain ⟨j, hj⟩ : ∃ j : Nat, a % (ms.length : Int) = (j : Int) := ⟨(a % (ms.length : Int)).toNat, by have := Int.emod_nonneg a (show (ms.length : Int) ≠ 0 by omega); omega⟩
  have hjl : j < ms.length := by have := Int.emod_lt_of_pos a (show (0 : Int) < (ms.length : Int) by omega); omega
  rw [hj] at hpa
  clear hj
  obtain ⟨css, hcs0, hcs1, hcs2, hcs3⟩ := id hms.ex
  obtain ⟨aom, capm, rfl⟩ := hcs2.form
  clear css hcs0 hcs1 hcs2 hcs3
  have hwb : IntKind.i64.wrap (ms.length - 1 : Int) = (ms.length - 1 : Int) := IntWalk.i64_in _ (by omega)
  go_upto_region 49 with (go_at_call 16; refine (hpa _).mono ?_; rintro e w' ⟨rfl, rfl⟩)
  go_cut [187] (fun v wz => W = wz ∧ ∃ bb : Bool, v = .bool bb)
  case first =>
    have hcs : ((((j : Nat) : Int) == 0) = false) ∨ ((((j : Nat) : Int) == 0) = true ∧ decide (0 < b.tmod 5) = false) ∨ ((((j : Nat) : Int) == 0) = true ∧ decide (0 < b.tmod 5) = true) := by
      cases (((j : Nat) : Int) == 0) <;> cases decide (0 < b.tmod 5) <;> simp
    rcases hcs with hz | ⟨hz, hz2⟩ | ⟨hz, hz2⟩
    all_goals
      go_wp2_with fail
      go_meet
      exact ⟨rfl, _, rfl⟩
  case rest =>
  obtain ⟨rfl, bb, rfl⟩ := hcut
  go_upto_if 187 with fail
  go_cut [16] (fun v wz => W = wz ∧ ∃ k : Nat, k < ms.length ∧ v = .int .i64 (k : Int))
  case first =>
    cases bb
    · go_wp2_with fail
      go_meet
      exact ⟨rfl, j, hjl, rfl⟩
    · go_wp2_with fail
      go_meet
      exact ⟨rfl, ms.length - 1, by omega, by go_num⟩
  case rest =>
    obtain ⟨rfl, k, hk, rfl⟩ := hcut
    clear x1 x2 hjl hpa
    go_wp2_with fail
    obtain ⟨ad, cs, rfl, ad1, ad2, hcl, hR, hcell⟩ := hms.at (k := k) hk (by omega)
    obtain ⟨vp, vl, vc, rfl, hp, hl, hc⟩ := hR
    have hq' := hmp ms[k] (List.getElem_mem hk)
    have f0 : W0.cell? (ad.add (k * 4)) = some vp := hcell 0 vp rfl
    have f1 : W0.cell? ⟨(ad.add (k * 4)).block, (ad.add (k * 4)).off + 1, none⟩ = some (.int .i64 ms[k].result) := (add_off ad (k * 4) 1 (by omega)) ▸ hcell 1 _ rfl
    clear hcell
    generalize ms[k] = mt at *
    obtain ⟨apo, capp, rfl⟩ := hp.form
    go_loopw [17] (fun i wz => ∃ (j : Nat) (c' : List Ins) (q' row' : Nat), j ≤ mt.params.length ∧ i = .int .i64 j ∧ Mk 99 57 2 wz p row' c' n q' kd 0 ∧ Lk p row c.length q (2300 * j) w row' c'.length q' wz) (fun i _ => mt.params.length - (intOf i).toNat)
    case atStart => exact ⟨0, c, q, row, by omega, rfl, hA, LA⟩
    case round =>
      obtain ⟨j, c1, q1, r1, hj, rfl, h1, L1⟩ := hrel
      have g0 := keepW f0 t0 hp0 hr0 L1.t
      have a1 := L1.q; have b1 := L1.l
      by_cases hlt : j < mt.params.length
      · obtain ⟨ad3, rfl, d1, d2, hcj⟩ := hp.at (j := j) (by simpa using hlt)
        have hcj2 : W0.cell? (ad3.add j) = some (.int .i64 mt.params[j]) := by simpa [ints] using hcj
        have hkj := hq'.2 mt.params[j] (List.getElem_mem hlt)
        clear hcj
        generalize mt.params[j] = kj at *
        have hcj := keepW hcj2 t0 hp0 hr0 L1.t
        have F0 := Lib.hid f0; have F1 := Lib.hid f1; have HJ2 := Lib.hid hcj2; clear f0 f1 hcj2
        go_wp2_with fail
        refine (mk_any _ p r1 c1 n q1 kd h1 hn6 hnl (by omega) (by omega) hkl kj hkj).mono ?_
        rintro e w2 ⟨rfl, c2, q2, r2, h2, L2⟩
        go_wp2_with fail
        go_roundw
        case rel => exact ⟨j + 1, c2, q2, r2, by omega, by go_num, h2, by simpa [Nat.mul_add] using L1.trans L2⟩
        case measure => simp [intOf]; omega
      · have F0 := Lib.hid f0; clear f0
        go_wp2_with fail
        refine (mk_putTo _ p r1 c1 n q1 kd 0 h1 37 (k : Int) 0 (ok_call _ (by omega)) (by omega)).mono ?_
        rintro e w2 ⟨rfl, c2, q2, r2, h2, L2⟩
        have g1 := keepW f1 t0 hp0 hr0 (L1.trans L2).t
        have a2 := L2.q; have b2 := L2.l
        have F1 := Lib.hid f1; clear f1 g0
        have hcr : (mt.result == 0) = true ∨ (mt.result == 0) = false := by cases (mt.result == 0) <;> simp
        generalize mt.result = rt at *
        rcases hcr with hz | hz
        · go_wp2_with fail
          go_end0
          exact ⟨rfl, c2, q2, r2, h2, (L1.trans L2).mono (by omega)⟩
        · go_wp2_with fail
          refine (mk_putTo _ p r2 c2 n q2 kd 0 h2 4 0 0 (ok_zero _ (by omega)) (by omega)).mono ?_
          rintro e w3 ⟨rfl, c3, q3, r3, h3, L3⟩
          go_wp2_with fail
          go_end0
          exact ⟨rfl, c3, q3, r3, h3, ((L1.trans L2).trans L3).mono (by omega)⟩

set_option maxRecDepth 100000 in
set_option maxHeartbeats 4000000 in
theorem mk_stmt_12 (w : World) (p row : Nat) (c : List Ins) (n : List Int) (q : Nat) (kd : List Int) (h : Mk 99 57 2 w p row c n q kd 0) (hn6 : I64s n) (hnl : n.length ≤ 9223372036854775807) (hq : q ≤ 500000) (hl : c.length ≤ 500000) (hkl : kd.length ≤ 10) (hkd : ∀ k ∈ kd, 1 ≤ k ∧ k ≤ 4)
    (W0 : World) (t0 : Tch [] W0 w) (hp0 : W0.heap.size ≤ p) (hr0 : W0.heap.size ≤ row) (o a b cc : Int) (ho6 : I6 o) (ha6 : I6 a) (hb6 : I6 b)
    (vst : Value) (st : List Int) (hst : Src w [p, row] vst st.length (ints st)) (hsr : ∀ s ∈ st, 0 ≤ s ∧ s ≤ 119) (hstl : st.length ≤ 1000)
    (vms : Value) (ms : List Mth) (hms : RMths W0 [] vms ms) (hm1 : 1 ≤ ms.length ∧ ms.length ≤ 8) (hmp : ∀ m ∈ ms, m.params.length ≤ 10 ∧ ∀ k ∈ m.params, 1 ≤ k ∧ k ≤ 4)
    (vim : Value) (im : List Imp) (him : RImps W0 [] vim im) (hi1 : im.length ≤ 4) (hip : ∀ m ∈ im, m.params.length ≤ 10 ∧ ∀ k ∈ m.params, 1 ≤ k ∧ k ≤ 4) (e1 : o % 16 = 12) :
    Calls Tryz.prog 58 #[.pointer (some ⟨p, 0, none⟩), .agg #[.int .i64 o, .int .i64 a, .int .i64 b, .int .i64 cc], vst, vms, vim] w fun e w' => e = .returned (.tuple #[]) ∧ MkTo 99 57 2 p row c n q kd 0 40000 w w' := by
  have hpo := fun w => hand_Pick o 16 ho6 (by omega) (by omega) w
  rw [e1] at hpo
  clear e1
  have tA : Tch [] w (w.alloc (.cells #[.int .i64 o, .int .i64 a, .int .i64 b, .int .i64 cc] 101)) := (Tch.refl [] w).alloc _
  have hA := h.tch tA (by simp)
  have LA : Lk p row c.length q 0 w row c.length q (w.alloc (.cells #[.int .i64 o, .int .i64 a, .int .i64 b, .int .i64 cc] 101)) := ⟨by omega, by omega, .inl rfl, tA.nil⟩
  have hX := Bq.new w (.int .i64 o) (.int .i64 a) (.int .i64 b) (.int .i64 cc) 101
  have hplt := h.lt
  have hrlt := h.row_lt
  obtain ⟨W, hW⟩ : ∃ W, W = w.alloc (.cells #[.int .i64 o, .int .i64 a, .int .i64 b, .int .i64 cc] 101) := ⟨_, rfl⟩
  rw [← hW] at tA hA LA hX
  obtain ⟨x0, x1, x2, x3⟩ := hX
  go_enter Tryz.func58, Tryz.ntmps58
  go_upto_region 1 with fail
  rw [← hW]
  clear hW h
  go_wp2_with fail
  refine (hpo _).mono ?_
  rintro e w' ⟨rfl, rfl⟩
  clear hpo x0 x3
  have hpa := fun w => hand_Pick a ms.length ha6 (by omega) (by omega) w
  obtain ⟨j, hj⟩ : ∃ j : Nat, a % (ms.length : Int) = (j : Int) := ⟨(a % (ms.length : Int)).toNat, by have := Int.emod_nonneg a (show (ms.length : Int) ≠ 0 by omega); omega⟩
  have hjl : j < ms.length := by have := Int.emod_lt_of_pos a (show (0 : Int) < (ms.length : Int) by omega); omega
  rw [hj] at hpa
  clear hj
  obtain ⟨css, hcs0, hcs1, hcs2, hcs3⟩ := id hms.ex
  obtain ⟨aom, capm, rfl⟩ := hcs2.form
  clear css hcs0 hcs1 hcs2 hcs3
  have hwb : IntKind.i64.wrap (ms.length - 1 : Int) = (ms.length - 1 : Int) := IntWalk.i64_in _ (by omega)
  go_upto_region 49 with (go_at_call 16; refine (hpa _).mono ?_; rintro e w' ⟨rfl, rfl⟩)
  go_cut [187] (fun v wz => W = wz ∧ ∃ bb : Bool, v = .bool bb)
  case first =>
    have hcs : ((((j : Nat) : Int) == 0) = false) ∨ ((((j : Nat) : Int) == 0) = true ∧ decide (0 < b.tmod 5) = false) ∨ ((((j : Nat) : Int) == 0) = true ∧ decide (0 < b.tmod 5) = true) := by
      cases (((j : Nat) : Int) == 0) <;> cases decide (0 < b.tmod 5) <;> simp
    rcases hcs with hz | ⟨hz, hz2⟩ | ⟨hz, hz2⟩
    all_goals
      go_wp2_with fail
      go_meet
      exact ⟨rfl, _, rfl⟩
  case rest =>
  obtain ⟨rfl, bb, rfl⟩ := hcut
  go_upto_if 187 with fail
  go_cut [16] (fun v wz => W = wz ∧ ∃ k : Nat, k < ms.length ∧ v = .int .i64 (k : Int))
  case first =>
    cases bb
    · go_wp2_with fail
      go_meet
      exact ⟨rfl, j, hjl, rfl⟩
    · go_wp2_with fail
      go_meet
      exact ⟨rfl, ms.length - 1, by omega, by go_num⟩
  case rest =>
    obtain ⟨rfl, k, hk, rfl⟩ := hcut
    clear x1 x2 hjl hpa
    go_wp2_with fail
    obtain ⟨ad, cs, rfl, ad1, ad2, hcl, hR, hcell⟩ := hms.at (k := k) hk (by omega)
    obtain ⟨vp, vl, vc, rfl, hp, hl, hc⟩ := hR
    have hq' := hmp ms[k] (List.getElem_mem hk)
    have f0 : W0.cell? (ad.add (k * 4)) = some vp := hcell 0 vp rfl
    have f1 : W0.cell? ⟨(ad.add (k * 4)).block, (ad.add (k * 4)).off + 1, none⟩ = some (.int .i64 ms[k].result) := (add_off ad (k * 4) 1 (by omega)) ▸ hcell 1 _ rfl
    clear hcell
    generalize ms[k] = mt at *
    obtain ⟨apo, capp, rfl⟩ := hp.form
    go_loopw [17] (fun i wz => ∃ (j : Nat) (c' : List Ins) (q' row' : Nat), j ≤ mt.params.length ∧ i = .int .i64 j ∧ Mk 99 57 2 wz p row' c' n q' kd 0 ∧ Lk p row c.length q (2300 * j) w row' c'.length q' wz) (fun i _ => mt.params.length - (intOf i).toNat)
    case atStart => exact ⟨0, c, q, row, by omega, rfl, hA, LA⟩
    case round =>
      obtain ⟨j, c1, q1, r1, hj, rfl, h1, L1⟩ := hrel
      have g0 := keepW f0 t0 hp0 hr0 L1.t
      have a1 := L1.q; have b1 := L1.l
      by_cases hlt : j < mt.params.length
      · obtain ⟨ad3, rfl, d1, d2, hcj⟩ := hp.at (j := j) (by simpa using hlt)
        have hcj2 : W0.cell? (ad3.add j) = some (.int .i64 mt.params[j]) := by simpa [ints] using hcj
        have hkj := hq'.2 mt.params[j] (List.getElem_mem hlt)
        clear hcj
        generalize mt.params[j] = kj at *
        have hcj := keepW hcj2 t0 hp0 hr0 L1.t
        have F0 := Lib.hid f0; have F1 := Lib.hid f1; have HJ2 := Lib.hid hcj2; clear f0 f1 hcj2
        go_wp2_with fail
        refine (mk_any _ p r1 c1 n q1 kd h1 hn6 hnl (by omega) (by omega) hkl kj hkj).mono ?_
        rintro e w2 ⟨rfl, c2, q2, r2, h2, L2⟩
        go_wp2_with fail
        go_roundw
        case rel => exact ⟨j + 1, c2, q2, r2, by omega, by go_num, h2, by simpa [Nat.mul_add] using L1.trans L2⟩
        case measure => simp [intOf]; omega
      · have F0 := Lib.hid f0; clear f0
        go_wp2_with fail
        refine (mk_putTo _ p r1 c1 n q1 kd 0 h1 37 (k : Int) 0 (ok_call _ (by omega)) (by omega)).mono ?_
        rintro e w2 ⟨rfl, c2, q2, r2, h2, L2⟩
        have g1 := keepW f1 t0 hp0 hr0 (L1.trans L2).t
        have a2 := L2.q; have b2 := L2.l
        have F1 := Lib.hid f1; clear f1 g0
        have hcr : (mt.result == 0) = true ∨ (mt.result == 0) = false := by cases (mt.result == 0) <;> simp
        generalize mt.result = rt at *
        rcases hcr with hz | hz
        · go_wp2_with fail
          go_end0
          exact ⟨rfl, c2, q2, r2, h2, (L1.trans L2).mono (by omega)⟩
        · go_wp2_with fail
          refine (mk_putTo _ p r2 c2 n q2 kd 0 h2 4 0 0 (ok_zero _ (by omega)) (by omega)).mono ?_
          rintro e w3 ⟨rfl, c3, q3, r3, h3, L3⟩
          go_wp2_with fail
          go_end0
          exact ⟨rfl, c3, q3, r3, h3, ((L1.trans L2).trans L3).mono (by omega)⟩

set_option maxRecDepth 100000 in
set_option maxHeartbeats 4000000 in
theorem mk_stmt_13 (w : World) (p row : Nat) (c : List Ins) (n : List Int) (q : Nat) (kd : List Int) (h : Mk 99 57 2 w p row c n q kd 0) (hn6 : I64s n) (hnl : n.length ≤ 9223372036854775807) (hq : q ≤ 500000) (hl : c.length ≤ 500000) (hkl : kd.length ≤ 10) (hkd : ∀ k ∈ kd, 1 ≤ k ∧ k ≤ 4)
    (W0 : World) (t0 : Tch [] W0 w) (hp0 : W0.heap.size ≤ p) (hr0 : W0.heap.size ≤ row) (o a b cc : Int) (ho6 : I6 o) (ha6 : I6 a) (hb6 : I6 b)
    (vst : Value) (st : List Int) (hst : Src w [p, row] vst st.length (ints st)) (hsr : ∀ s ∈ st, 0 ≤ s ∧ s ≤ 119) (hstl : st.length ≤ 1000)
    (vms : Value) (ms : List Mth) (hms : RMths W0 [] vms ms) (hm1 : 1 ≤ ms.length ∧ ms.length ≤ 8) (hmp : ∀ m ∈ ms, m.params.length ≤ 10 ∧ ∀ k ∈ m.params, 1 ≤ k ∧ k ≤ 4)
    (vim : Value) (im : List Imp) (him : RImps W0 [] vim im) (hi1 : im.length ≤ 4) (hip : ∀ m ∈ im, m.params.length ≤ 10 ∧ ∀ k ∈ m.params, 1 ≤ k ∧ k ≤ 4) (e1 : o % 16 = 13) :
    Calls Tryz.prog 58 #[.pointer (some ⟨p, 0, none⟩), .agg #[.int .i64 o, .int .i64 a, .int .i64 b, .int .i64 cc], vst, vms, vim] w fun e w' => e = .returned (.tuple #[]) ∧ MkTo 99 57 2 p row c n q kd 0 40000 w w' := by
  have hpo := fun w => hand_Pick o 16 ho6 (by omega) (by omega) w
  rw [e1] at hpo
  clear e1
  have tA : Tch [] w (w.alloc (.cells #[.int .i64 o, .int .i64 a, .int .i64 b, .int .i64 cc] 101)) := (Tch.refl [] w).alloc _
  have hA := h.tch tA (by simp)
  have LA : Lk p row c.length q 0 w row c.length q (w.alloc (.cells #[.int .i64 o, .int .i64 a, .int .i64 b, .int .i64 cc] 101)) := ⟨by omega, by omega, .inl rfl, tA.nil⟩
  have hX := Bq.new w (.int .i64 o) (.int .i64 a) (.int .i64 b) (.int .i64 cc) 101
  have hplt := h.lt
  have hrlt := h.row_lt
  obtain ⟨W, hW⟩ : ∃ W, W = w.alloc (.cells #[.int .i64 o, .int .i64 a, .int .i64 b, .int .i64 cc] 101) := ⟨_, rfl⟩
  rw [← hW] at tA hA LA hX
  obtain ⟨x0, x1, x2, x3⟩ := hX
  go_enter Tryz.func58, Tryz.ntmps58
  go_upto_region 1 with fail
  rw [← hW]
  clear hW h
  go_wp2_with fail
  refine (hpo _).mono ?_
  rintro e w' ⟨rfl, rfl⟩
  clear hpo x0 x3
  clear x2
  obtain ⟨css, hcs0, hcs1, hcs2, hcs3⟩ := id him.ex
  obtain ⟨aom, capm, rfl⟩ := hcs2.form
  clear css hcs0 hcs1 hcs2 hcs3
  by_cases h0 : im.length = 0
  · have h0b : (((im.length : Nat) : Int) == 0) = true := by simp [h0]
    have H0 := Lib.hid h0; clear h0
    go_wp2_with fail
    refine bodyPost_ret (v := .tuple #[]) (results_none rfl _ _ _) rfl ?_
    exact ⟨rfl, c, q, row, hA, LA.mono (by omega)⟩
  · have h0b : (((im.length : Nat) : Int) == 0) = false := by simpa using h0
    have hpa := fun w => hand_Pick a im.length ha6 (by omega) (by omega) w
    obtain ⟨k, hj⟩ : ∃ j : Nat, a % (im.length : Int) = (j : Int) := ⟨(a % (im.length : Int)).toNat, by have := Int.emod_nonneg a (show (im.length : Int) ≠ 0 by omega); omega⟩
    have hk : k < im.length := by have := Int.emod_lt_of_pos a (show (0 : Int) < (im.length : Int) by omega); omega
    rw [hj] at hpa
    clear hj h0
    go_wp2_with fail
    refine (hpa _).mono ?_
    rintro e w' ⟨rfl, rfl⟩
    clear x1 hpa
    go_wp2_with fail
    obtain ⟨ad, cs, rfl, ad1, ad2, hcl, hR, hcell⟩ := him.at (k := k) hk (by omega)
    obtain ⟨vp, rfl, hp⟩ := hR
    have hq' := hip im[k] (List.getElem_mem hk)
    have f0 : W0.cell? ⟨(ad.add (k * 4)).block, (ad.add (k * 4)).off + 2, none⟩ = some vp := (add_off ad (k * 4) 2 (by omega)) ▸ hcell 2 vp rfl
    have f1 : W0.cell? ⟨(ad.add (k * 4)).block, (ad.add (k * 4)).off + 3, none⟩ = some (.int .i64 im[k].result) := (add_off ad (k * 4) 3 (by omega)) ▸ hcell 3 _ rfl
    clear hcell
    generalize im[k] = mt at *
    obtain ⟨apo, capp, rfl⟩ := hp.form
    go_loopw [19] (fun i wz => ∃ (j : Nat) (c' : List Ins) (q' row' : Nat), j ≤ mt.params.length ∧ i = .int .i64 j ∧ Mk 99 57 2 wz p row' c' n q' kd 0 ∧ Lk p row c.length q (2300 * j) w row' c'.length q' wz) (fun i _ => mt.params.length - (intOf i).toNat)
    case atStart => exact ⟨0, c, q, row, by omega, rfl, hA, LA⟩
    case round =>
      obtain ⟨j, c1, q1, r1, hj, rfl, h1, L1⟩ := hrel
      have g0 := keepW f0 t0 hp0 hr0 L1.t
      have a1 := L1.q; have b1 := L1.l
      by_cases hlt : j < mt.params.length
      · obtain ⟨ad3, rfl, d1, d2, hcj⟩ := hp.at (j := j) (by simpa using hlt)
        have hcj2 : W0.cell? (ad3.add j) = some (.int .i64 mt.params[j]) := by simpa [ints] using hcj
        have hkj := hq'.2 mt.params[j] (List.getElem_mem hlt)
        clear hcj
        generalize mt.params[j] = kj at *
        have hcj := keepW hcj2 t0 hp0 hr0 L1.t
        have F0 := Lib.hid f0; have F1 := Lib.hid f1; have HJ2 := Lib.hid hcj2; clear f0 f1 hcj2
        go_wp2_with fail
        refine (mk_any _ p r1 c1 n q1 kd h1 hn6 hnl (by omega) (by omega) hkl kj hkj).mono ?_
        rintro e w2 ⟨rfl, c2, q2, r2, h2, L2⟩
        go_wp2_with fail
        go_roundw
        case rel => exact ⟨j + 1, c2, q2, r2, by omega, by go_num, h2, by simpa [Nat.mul_add] using L1.trans L2⟩
        case measure => simp [intOf]; omega
      · have F0 := Lib.hid f0; clear f0
        go_wp2_with fail
        refine (mk_putTo _ p r1 c1 n q1 kd 0 h1 38 (k : Int) 0 (ok_callx _ (by omega)) (by omega)).mono ?_
        rintro e w2 ⟨rfl, c2, q2, r2, h2, L2⟩
        have g1 := keepW f1 t0 hp0 hr0 (L1.trans L2).t
        have a2 := L2.q; have b2 := L2.l
        have F1 := Lib.hid f1; clear f1 g0
        have hcr : (mt.result == 0) = true ∨ (mt.result == 0) = false := by cases (mt.result == 0) <;> simp
        generalize mt.result = rt at *
        rcases hcr with hz | hz
        · go_wp2_with fail
          go_end0
          exact ⟨rfl, c2, q2, r2, h2, (L1.trans L2).mono (by omega)⟩
        · go_wp2_with fail
          refine (mk_putTo _ p r2 c2 n q2 kd 0 h2 4 0 0 (ok_zero _ (by omega)) (by omega)).mono ?_
          rintro e w3 ⟨rfl, c3, q3, r3, h3, L3⟩
          go_wp2_with fail
          go_end0
          exact ⟨rfl, c3, q3, r3, h3, ((L1.trans L2).trans L3).mono (by omega)⟩
end Go.Proofs.YteebapopeaafhaaGreatDoor
namespace Go.Proofs.YteebapopeaafhaaGreatDoor
open Go.RowKit Go.Tcn
set_option linter.unusedVariables false
set_option linter.unusedSimpArgs false
set_option linter.unusedSectionVars false
variable [OkP]

theorem mk_stmt (w : World) (p row : Nat) (c : List Ins) (n : List Int) (q : Nat) (kd : List Int) (h : Mk 99 57 2 w p row c n q kd 0) (hn6 : I64s n) (hnl : n.length ≤ 9223372036854775807) (hq : q ≤ 500000) (hl : c.length ≤ 500000) (hkl : kd.length ≤ 10) (hkd : ∀ k ∈ kd, 1 ≤ k ∧ k ≤ 4)
    (W0 : World) (t0 : Tch [] W0 w) (hp0 : W0.heap.size ≤ p) (hr0 : W0.heap.size ≤ row) (o a b cc : Int) (ho6 : I6 o) (ha6 : I6 a) (hb6 : I6 b)
    (vst : Value) (st : List Int) (hst : Src w [p, row] vst st.length (ints st)) (hsr : ∀ s ∈ st, 0 ≤ s ∧ s ≤ 119) (hstl : st.length ≤ 1000)
    (vms : Value) (ms : List Mth) (hms : RMths W0 [] vms ms) (hm1 : 1 ≤ ms.length ∧ ms.length ≤ 8) (hmp : ∀ m ∈ ms, m.params.length ≤ 10 ∧ ∀ k ∈ m.params, 1 ≤ k ∧ k ≤ 4)
    (vim : Value) (im : List Imp) (him : RImps W0 [] vim im) (hi1 : im.length ≤ 4) (hip : ∀ m ∈ im, m.params.length ≤ 10 ∧ ∀ k ∈ m.params, 1 ≤ k ∧ k ≤ 4) (hopn : OkP.opn = true) :
    Calls Tryz.prog 58 #[.pointer (some ⟨p, 0, none⟩), .agg #[.int .i64 o, .int .i64 a, .int .i64 b, .int .i64 cc], vst, vms, vim] w fun e w' => e = .returned (.tuple #[]) ∧ MkTo 99 57 2 p row c n q kd 0 40000 w w' := by
  have hcs : o % 16 = 0 ∨ o % 16 = 1 ∨ o % 16 = 2 ∨ o % 16 = 3 ∨ o % 16 = 4 ∨ o % 16 = 5 ∨ o % 16 = 6 ∨ o % 16 = 7 ∨ o % 16 = 8 ∨ o % 16 = 9 ∨ o % 16 = 10 ∨ o % 16 = 11 ∨ o % 16 = 12 ∨ o % 16 = 13 ∨ o % 16 = 14 ∨ o % 16 = 15 := by omega
  rcases hcs with e1 | e1 | e1 | e1 | e1 | e1 | e1 | e1 | e1 | e1 | e1 | e1 | e1 | e1 | e1 | e1
  · exact mk_stmt_0 w p row c n q kd h hn6 hnl hq hl hkl hkd W0 t0 hp0 hr0 o a b cc ho6 ha6 hb6 vst st hst hsr hstl vms ms hms hm1 hmp vim im him hi1 hip e1
  · exact mk_stmt_1 w p row c n q kd h hn6 hnl hq hl hkl hkd W0 t0 hp0 hr0 o a b cc ho6 ha6 hb6 vst st hst hsr hstl vms ms hms hm1 hmp vim im him hi1 hip e1
  · exact mk_stmt_2 w p row c n q kd h hn6 hnl hq hl hkl hkd W0 t0 hp0 hr0 o a b cc ho6 ha6 hb6 vst st hst hsr hstl vms ms hms hm1 hmp vim im him hi1 hip e1
  · exact mk_stmt_3 w p row c n q kd h hn6 hnl hq hl hkl hkd W0 t0 hp0 hr0 o a b cc ho6 ha6 hb6 vst st hst hsr hstl vms ms hms hm1 hmp vim im him hi1 hip e1
  · exact mk_stmt_4 w p row c n q kd h hn6 hnl hq hl hkl hkd W0 t0 hp0 hr0 o a b cc ho6 ha6 hb6 vst st hst hsr hstl vms ms hms hm1 hmp vim im him hi1 hip e1
  · exact mk_stmt_5 w p row c n q kd h hn6 hnl hq hl hkl hkd W0 t0 hp0 hr0 o a b cc ho6 ha6 hb6 vst st hst hsr hstl vms ms hms hm1 hmp vim im him hi1 hip e1
  · exact mk_stmt_6 w p row c n q kd h hn6 hnl hq hl hkl hkd W0 t0 hp0 hr0 o a b cc ho6 ha6 hb6 vst st hst hsr hstl vms ms hms hm1 hmp vim im him hi1 hip e1
  · exact mk_stmt_7 w p row c n q kd h hn6 hnl hq hl hkl hkd W0 t0 hp0 hr0 o a b cc ho6 ha6 hb6 vst st hst hsr hstl vms ms hms hm1 hmp vim im him hi1 hip e1
  · exact mk_stmt_8 w p row c n q kd h hn6 hnl hq hl hkl hkd W0 t0 hp0 hr0 o a b cc ho6 ha6 hb6 vst st hst hsr hstl vms ms hms hm1 hmp vim im him hi1 hip e1
  · exact mk_stmt_9 w p row c n q kd h hn6 hnl hq hl hkl hkd W0 t0 hp0 hr0 o a b cc ho6 ha6 hb6 vst st hst hsr hstl vms ms hms hm1 hmp vim im him hi1 hip hopn e1
  · exact mk_stmt_10 w p row c n q kd h hn6 hnl hq hl hkl hkd W0 t0 hp0 hr0 o a b cc ho6 ha6 hb6 vst st hst hsr hstl vms ms hms hm1 hmp vim im him hi1 hip hopn e1
  · exact mk_stmt_11 w p row c n q kd h hn6 hnl hq hl hkl hkd W0 t0 hp0 hr0 o a b cc ho6 ha6 hb6 vst st hst hsr hstl vms ms hms hm1 hmp vim im him hi1 hip e1
  · exact mk_stmt_12 w p row c n q kd h hn6 hnl hq hl hkl hkd W0 t0 hp0 hr0 o a b cc ho6 ha6 hb6 vst st hst hsr hstl vms ms hms hm1 hmp vim im him hi1 hip e1
  · exact mk_stmt_13 w p row c n q kd h hn6 hnl hq hl hkl hkd W0 t0 hp0 hr0 o a b cc ho6 ha6 hb6 vst st hst hsr hstl vms ms hms hm1 hmp vim im him hi1 hip e1
  · exact mk_stmt_14 w p row c n q kd h hn6 hnl hq hl hkl hkd W0 t0 hp0 hr0 o a b cc ho6 ha6 hb6 vst st hst hsr hstl vms ms hms hm1 hmp vim im him hi1 hip e1
  · exact mk_stmt_15 w p row c n q kd h hn6 hnl hq hl hkl hkd W0 t0 hp0 hr0 o a b cc ho6 ha6 hb6 vst st hst hsr hstl vms ms hms hm1 hmp vim im him hi1 hip e1
end Go.Proofs.YteebapopeaafhaaGreatDoor
