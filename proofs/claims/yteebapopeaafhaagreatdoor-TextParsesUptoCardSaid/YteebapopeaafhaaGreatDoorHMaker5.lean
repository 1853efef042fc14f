/-
  CONTRACTS: the maker of applets' code: pub, index. Conditions: its memory is its own, its counts are small.
  CONTRACTS: the maker of applets' code: pub, index at depth 2. Conditions: its memory is its own, its counts are small.
-/
import Derived.Test.YteebapopeaafhaaGreatDoorHMaker3
namespace Go.Proofs.YteebapopeaafhaaGreatDoor
open Go.RowKit Go.Tcn
set_option linter.unusedVariables false
set_option linter.unusedSimpArgs false
set_option linter.unusedSectionVars false
variable [OkP]
theorem arr8_at (b : Int) : ∃ v, (-1 ≤ v ∧ v ≤ 1073741824) ∧ ∀ w, (Instr.index 143 (.agg #[.int .i64 0, .int .i64 1, .int .i64 2, .int .i64 3, .int .i64 7, .int .i64 (-1), .int .i64 64, .int .i64 1073741824]) (.int .i64 (b % 8))).run Tryz.prog w = .ok (.int .i64 v) w := by
  have h : b % 8 = 0 ∨ b % 8 = 1 ∨ b % 8 = 2 ∨ b % 8 = 3 ∨ b % 8 = 4 ∨ b % 8 = 5 ∨ b % 8 = 6 ∨ b % 8 = 7 := by omega
  rcases h with h | h | h | h | h | h | h | h
  all_goals rw [h]
  · exact ⟨0, by omega, fun _ => by kernel_rfl⟩
  · exact ⟨1, by omega, fun _ => by kernel_rfl⟩
  · exact ⟨2, by omega, fun _ => by kernel_rfl⟩
  · exact ⟨3, by omega, fun _ => by kernel_rfl⟩
  · exact ⟨7, by omega, fun _ => by kernel_rfl⟩
  · exact ⟨(-1), by omega, fun _ => by kernel_rfl⟩
  · exact ⟨64, by omega, fun _ => by kernel_rfl⟩
  · exact ⟨1073741824, by omega, fun _ => by kernel_rfl⟩
theorem arr2_at (b : Int) : ∃ v, (17 ≤ v ∧ v ≤ 18) ∧ ∀ w, (Instr.index 145 (.agg #[.int .i64 17, .int .i64 18]) (.int .i64 (b % 2))).run Tryz.prog w = .ok (.int .i64 v) w := by
  have h : b % 2 = 0 ∨ b % 2 = 1 := by omega
  rcases h with h | h
  all_goals rw [h]
  · exact ⟨17, by omega, fun _ => by kernel_rfl⟩
  · exact ⟨18, by omega, fun _ => by kernel_rfl⟩
theorem arr3_at (b : Int) : ∃ v, (15 ≤ v ∧ v ≤ 16) ∧ ∀ w, (Instr.index 146 (.agg #[.int .i64 15, .int .i64 16, .int .i64 15]) (.int .i64 (b % 3))).run Tryz.prog w = .ok (.int .i64 v) w := by
  have h : b % 3 = 0 ∨ b % 3 = 1 ∨ b % 3 = 2 := by omega
  rcases h with h | h | h
  all_goals rw [h]
  · exact ⟨15, by omega, fun _ => by kernel_rfl⟩
  · exact ⟨16, by omega, fun _ => by kernel_rfl⟩
  · exact ⟨15, by omega, fun _ => by kernel_rfl⟩
theorem rem100 (c : Int) : -100 < c.tmod 100 ∧ c.tmod 100 < 100 := ⟨Int.lt_tmod_of_pos c (by omega), Int.tmod_lt_of_pos c (by omega)⟩

set_option maxRecDepth 100000 in
set_option maxHeartbeats 16000000 in
theorem mk_pub_3 (w : World) (p row : Nat) (c : List Ins) (n : List Int) (q : Nat) (kd : List Int) (d : Int) (hd : 3 ≤ d ∧ d ≤ 100) (h : Mk 99 57 2 w p row c n q kd d) (hn6 : I64s n) (hnl : n.length ≤ 9223372036854775807) (hq : q ≤ 880000) (hl : c.length ≤ 880000) (hkl : kd.length ≤ 10) :
    Calls Tryz.prog 95 #[.pointer (some ⟨p, 0, none⟩)] w fun e w' => e = .returned (.tuple #[]) ∧ MkTo 99 57 2 p row c n q kd d 10 w w' := by
  go_enter Tryz.func95, Tryz.ntmps95
  have cc4 := h.c4
  have ff4 := h.f4
  obtain ⟨hD, L0⟩ := h.deep (d + 1)
  obtain ⟨V, hV⟩ : ∃ V, V = w.setCell ⟨p, 4, none⟩ (.int .i64 (d + 1)) := ⟨_, rfl⟩
  rw [← hV] at hD L0
  go_upto_region 1 with fail
  rw [← hV]
  clear hV cc4 ff4
  have a0 := L0.q; have b0 := L0.l
  go_wp2_with fail
  refine (mk_next _ p row c n q kd (d + 1) hD hn6 hnl (by omega)).mono ?_
  rintro e w1 ⟨v1, q1, rfl, hv1, h1, L1⟩
  have a1 := L1.q; have b1 := L1.l
  have cc4 := h1.c4
  have hpk := fun w => hand_Pick v1 12 hv1 (by omega) (by omega) w
  have hd4 : ¬ d + 1 ≤ 3 := by omega
  have hd5 : 3 < d + 1 := by omega
  have hcs : v1 % 12 = 0 ∨ v1 % 12 = 1 ∨ v1 % 12 = 2 ∨ v1 % 12 = 3 ∨ v1 % 12 = 4 ∨ v1 % 12 = 5 ∨ v1 % 12 = 6 ∨ v1 % 12 = 7 ∨ v1 % 12 = 8 ∨ v1 % 12 = 9 ∨ v1 % 12 = 10 ∨ v1 % 12 = 11 := by omega
  rcases hcs with e1 | e1 | e1 | e1 | e1 | e1 | e1 | e1 | e1 | e1 | e1 | e1
  · rw [e1] at hpk
    clear e1
    go_wp2_with fail
    refine (hpk _).mono ?_
    rintro e w' ⟨rfl, rfl⟩
    go_wp2_with fail
    refine (mk_next _ p row c n q1 kd (d + 1) h1 hn6 hnl (by omega)).mono ?_
    rintro e w2 ⟨v2, q2, rfl, hv2, h2, L2⟩
    have a2 := L2.q; have b2 := L2.l
    obtain ⟨x2, hx2, hix2⟩ := arr8_at v2
    go_wp2_with fail
    refine (hand_Pick v2 8 hv2 (by omega) (by omega) _).mono ?_
    rintro e w' ⟨rfl, rfl⟩
    go_wp2_with fail
    refine (mk_putTo _ p row c n q2 kd (d + 1) h2 1 x2 0 (ok_push _ (by omega)) (by omega)).mono ?_
    rintro e w3 ⟨rfl, c3, q3, r3, h3, L3⟩
    have a3 := L3.q; have b3 := L3.l
    have c4z := h3.c4
    have f4z := h3.f4
    clear cc4
    have hdd : d + 1 - 1 = d := by omega
    have HDD := Lib.hid hdd; clear hdd
    obtain ⟨hE, LE⟩ := h3.deep d
    go_wp2_with fail
    go_end0
    exact ⟨rfl, c3, q3, r3, by first | exact hE | simpa using hE, by first | exact (((((L0.trans L1).trans L2).trans L3).trans LE)).mono (by omega) | simpa using (((((L0.trans L1).trans L2).trans L3).trans LE)).mono (by omega)⟩
  · rw [e1] at hpk
    clear e1
    go_wp2_with fail
    refine (hpk _).mono ?_
    rintro e w' ⟨rfl, rfl⟩
    go_wp2_with fail
    refine (mk_next _ p row c n q1 kd (d + 1) h1 hn6 hnl (by omega)).mono ?_
    rintro e w2 ⟨v2, q2, rfl, hv2, h2, L2⟩
    have a2 := L2.q; have b2 := L2.l
    obtain ⟨x2, hx2, hix2⟩ := arr8_at v2
    go_wp2_with fail
    refine (hand_Pick v2 8 hv2 (by omega) (by omega) _).mono ?_
    rintro e w' ⟨rfl, rfl⟩
    go_wp2_with fail
    refine (mk_putTo _ p row c n q2 kd (d + 1) h2 1 x2 0 (ok_push _ (by omega)) (by omega)).mono ?_
    rintro e w3 ⟨rfl, c3, q3, r3, h3, L3⟩
    have a3 := L3.q; have b3 := L3.l
    have c4z := h3.c4
    have f4z := h3.f4
    clear cc4
    have hdd : d + 1 - 1 = d := by omega
    have HDD := Lib.hid hdd; clear hdd
    obtain ⟨hE, LE⟩ := h3.deep d
    go_wp2_with fail
    go_end0
    exact ⟨rfl, c3, q3, r3, by first | exact hE | simpa using hE, by first | exact (((((L0.trans L1).trans L2).trans L3).trans LE)).mono (by omega) | simpa using (((((L0.trans L1).trans L2).trans L3).trans LE)).mono (by omega)⟩
  · rw [e1] at hpk
    clear e1
    go_wp2_with fail
    refine (hpk _).mono ?_
    rintro e w' ⟨rfl, rfl⟩
    go_wp2_with fail
    refine (mk_local _ p row c n q1 kd (d + 1) h1 hn6 hnl (by omega) (by omega) (by omega) 1).mono ?_
    rintro e w2 ⟨k2, ok2, q2, rfl, hk2, h2, L2⟩
    have a2 := L2.q; have b2 := L2.l
    cases ok2
    · go_wp2_with fail
      refine (mk_next _ p row c n q2 kd (d + 1) h2 hn6 hnl (by omega)).mono ?_
      rintro e w3 ⟨v3, q3, rfl, hv3, h3, L3⟩
      have a3 := L3.q; have b3 := L3.l
      have t3 := rem100 v3
      go_wp2_with fail
      refine (mk_putTo _ p row c n q3 kd (d + 1) h3 1 (v3.tmod 100) 0 (ok_push _ (by omega)) (by omega)).mono ?_
      rintro e w4 ⟨rfl, c4, q4, r4, h4, L4⟩
      have a4 := L4.q; have b4 := L4.l
      have c4z := h4.c4
      have f4z := h4.f4
      clear cc4
      have hdd : d + 1 - 1 = d := by omega
      have HDD := Lib.hid hdd; clear hdd
      obtain ⟨hE, LE⟩ := h4.deep d
      go_wp2_with fail
      go_end0
      exact ⟨rfl, c4, q4, r4, by first | exact hE | simpa using hE, by first | exact ((((((L0.trans L1).trans L2).trans L3).trans L4).trans LE)).mono (by omega) | simpa using ((((((L0.trans L1).trans L2).trans L3).trans L4).trans LE)).mono (by omega)⟩
    · have hk2 := hk2.2 rfl
      go_wp2_with fail
      refine (mk_putTo _ p row c n q2 kd (d + 1) h2 2 k2 0 (ok_load _ (by omega)) (by omega)).mono ?_
      rintro e w3 ⟨rfl, c3, q3, r3, h3, L3⟩
      have a3 := L3.q; have b3 := L3.l
      have c4z := h3.c4
      have f4z := h3.f4
      clear cc4
      have hdd : d + 1 - 1 = d := by omega
      have HDD := Lib.hid hdd; clear hdd
      obtain ⟨hE, LE⟩ := h3.deep d
      go_wp2_with fail
      go_end0
      exact ⟨rfl, c3, q3, r3, by first | exact hE | simpa using hE, by first | exact (((((L0.trans L1).trans L2).trans L3).trans LE)).mono (by omega) | simpa using (((((L0.trans L1).trans L2).trans L3).trans LE)).mono (by omega)⟩
  · rw [e1] at hpk
    clear e1
    go_wp2_with fail
    refine (hpk _).mono ?_
    rintro e w' ⟨rfl, rfl⟩
    go_wp2_with fail
    refine (mk_next _ p row c n q1 kd (d + 1) h1 hn6 hnl (by omega)).mono ?_
    rintro e w2 ⟨v2, q2, rfl, hv2, h2, L2⟩
    have a2 := L2.q; have b2 := L2.l
    obtain ⟨x2, hx2, hix2⟩ := arr8_at v2
    go_wp2_with fail
    refine (hand_Pick v2 8 hv2 (by omega) (by omega) _).mono ?_
    rintro e w' ⟨rfl, rfl⟩
    go_wp2_with fail
    refine (mk_putTo _ p row c n q2 kd (d + 1) h2 1 x2 0 (ok_push _ (by omega)) (by omega)).mono ?_
    rintro e w3 ⟨rfl, c3, q3, r3, h3, L3⟩
    have a3 := L3.q; have b3 := L3.l
    have c4z := h3.c4
    have f4z := h3.f4
    clear cc4
    have hdd : d + 1 - 1 = d := by omega
    have HDD := Lib.hid hdd; clear hdd
    obtain ⟨hE, LE⟩ := h3.deep d
    go_wp2_with fail
    go_end0
    exact ⟨rfl, c3, q3, r3, by first | exact hE | simpa using hE, by first | exact (((((L0.trans L1).trans L2).trans L3).trans LE)).mono (by omega) | simpa using (((((L0.trans L1).trans L2).trans L3).trans LE)).mono (by omega)⟩
  · rw [e1] at hpk
    clear e1
    go_wp2_with fail
    refine (hpk _).mono ?_
    rintro e w' ⟨rfl, rfl⟩
    go_wp2_with fail
    refine (mk_next _ p row c n q1 kd (d + 1) h1 hn6 hnl (by omega)).mono ?_
    rintro e w2 ⟨v2, q2, rfl, hv2, h2, L2⟩
    have a2 := L2.q; have b2 := L2.l
    obtain ⟨x2, hx2, hix2⟩ := arr8_at v2
    go_wp2_with fail
    refine (hand_Pick v2 8 hv2 (by omega) (by omega) _).mono ?_
    rintro e w' ⟨rfl, rfl⟩
    go_wp2_with fail
    refine (mk_putTo _ p row c n q2 kd (d + 1) h2 1 x2 0 (ok_push _ (by omega)) (by omega)).mono ?_
    rintro e w3 ⟨rfl, c3, q3, r3, h3, L3⟩
    have a3 := L3.q; have b3 := L3.l
    have c4z := h3.c4
    have f4z := h3.f4
    clear cc4
    have hdd : d + 1 - 1 = d := by omega
    have HDD := Lib.hid hdd; clear hdd
    obtain ⟨hE, LE⟩ := h3.deep d
    go_wp2_with fail
    go_end0
    exact ⟨rfl, c3, q3, r3, by first | exact hE | simpa using hE, by first | exact (((((L0.trans L1).trans L2).trans L3).trans LE)).mono (by omega) | simpa using (((((L0.trans L1).trans L2).trans L3).trans LE)).mono (by omega)⟩
  · rw [e1] at hpk
    clear e1
    go_wp2_with fail
    refine (hpk _).mono ?_
    rintro e w' ⟨rfl, rfl⟩
    go_wp2_with fail
    refine (mk_local _ p row c n q1 kd (d + 1) h1 hn6 hnl (by omega) (by omega) (by omega) 1).mono ?_
    rintro e w2 ⟨k2, ok2, q2, rfl, hk2, h2, L2⟩
    have a2 := L2.q; have b2 := L2.l
    cases ok2
    · go_wp2_with fail
      refine (mk_next _ p row c n q2 kd (d + 1) h2 hn6 hnl (by omega)).mono ?_
      rintro e w3 ⟨v3, q3, rfl, hv3, h3, L3⟩
      have a3 := L3.q; have b3 := L3.l
      have t3 := rem100 v3
      go_wp2_with fail
      refine (mk_putTo _ p row c n q3 kd (d + 1) h3 1 (v3.tmod 100) 0 (ok_push _ (by omega)) (by omega)).mono ?_
      rintro e w4 ⟨rfl, c4, q4, r4, h4, L4⟩
      have a4 := L4.q; have b4 := L4.l
      have c4z := h4.c4
      have f4z := h4.f4
      clear cc4
      have hdd : d + 1 - 1 = d := by omega
      have HDD := Lib.hid hdd; clear hdd
      obtain ⟨hE, LE⟩ := h4.deep d
      go_wp2_with fail
      go_end0
      exact ⟨rfl, c4, q4, r4, by first | exact hE | simpa using hE, by first | exact ((((((L0.trans L1).trans L2).trans L3).trans L4).trans LE)).mono (by omega) | simpa using ((((((L0.trans L1).trans L2).trans L3).trans L4).trans LE)).mono (by omega)⟩
    · have hk2 := hk2.2 rfl
      go_wp2_with fail
      refine (mk_putTo _ p row c n q2 kd (d + 1) h2 2 k2 0 (ok_load _ (by omega)) (by omega)).mono ?_
      rintro e w3 ⟨rfl, c3, q3, r3, h3, L3⟩
      have a3 := L3.q; have b3 := L3.l
      have c4z := h3.c4
      have f4z := h3.f4
      clear cc4
      have hdd : d + 1 - 1 = d := by omega
      have HDD := Lib.hid hdd; clear hdd
      obtain ⟨hE, LE⟩ := h3.deep d
      go_wp2_with fail
      go_end0
      exact ⟨rfl, c3, q3, r3, by first | exact hE | simpa using hE, by first | exact (((((L0.trans L1).trans L2).trans L3).trans LE)).mono (by omega) | simpa using (((((L0.trans L1).trans L2).trans L3).trans LE)).mono (by omega)⟩
  · rw [e1] at hpk
    clear e1
    go_wp2_with fail
    refine (hpk _).mono ?_
    rintro e w' ⟨rfl, rfl⟩
    go_wp2_with fail
    refine (mk_next _ p row c n q1 kd (d + 1) h1 hn6 hnl (by omega)).mono ?_
    rintro e w2 ⟨v2, q2, rfl, hv2, h2, L2⟩
    have a2 := L2.q; have b2 := L2.l
    obtain ⟨x2, hx2, hix2⟩ := arr8_at v2
    go_wp2_with fail
    refine (hand_Pick v2 8 hv2 (by omega) (by omega) _).mono ?_
    rintro e w' ⟨rfl, rfl⟩
    go_wp2_with fail
    refine (mk_putTo _ p row c n q2 kd (d + 1) h2 1 x2 0 (ok_push _ (by omega)) (by omega)).mono ?_
    rintro e w3 ⟨rfl, c3, q3, r3, h3, L3⟩
    have a3 := L3.q; have b3 := L3.l
    have c4z := h3.c4
    have f4z := h3.f4
    clear cc4
    have hdd : d + 1 - 1 = d := by omega
    have HDD := Lib.hid hdd; clear hdd
    obtain ⟨hE, LE⟩ := h3.deep d
    go_wp2_with fail
    go_end0
    exact ⟨rfl, c3, q3, r3, by first | exact hE | simpa using hE, by first | exact (((((L0.trans L1).trans L2).trans L3).trans LE)).mono (by omega) | simpa using (((((L0.trans L1).trans L2).trans L3).trans LE)).mono (by omega)⟩
  · rw [e1] at hpk
    clear e1
    go_wp2_with fail
    refine (hpk _).mono ?_
    rintro e w' ⟨rfl, rfl⟩
    go_wp2_with fail
    refine (mk_next _ p row c n q1 kd (d + 1) h1 hn6 hnl (by omega)).mono ?_
    rintro e w2 ⟨v2, q2, rfl, hv2, h2, L2⟩
    have a2 := L2.q; have b2 := L2.l
    obtain ⟨x2, hx2, hix2⟩ := arr8_at v2
    go_wp2_with fail
    refine (hand_Pick v2 8 hv2 (by omega) (by omega) _).mono ?_
    rintro e w' ⟨rfl, rfl⟩
    go_wp2_with fail
    refine (mk_putTo _ p row c n q2 kd (d + 1) h2 1 x2 0 (ok_push _ (by omega)) (by omega)).mono ?_
    rintro e w3 ⟨rfl, c3, q3, r3, h3, L3⟩
    have a3 := L3.q; have b3 := L3.l
    have c4z := h3.c4
    have f4z := h3.f4
    clear cc4
    have hdd : d + 1 - 1 = d := by omega
    have HDD := Lib.hid hdd; clear hdd
    obtain ⟨hE, LE⟩ := h3.deep d
    go_wp2_with fail
    go_end0
    exact ⟨rfl, c3, q3, r3, by first | exact hE | simpa using hE, by first | exact (((((L0.trans L1).trans L2).trans L3).trans LE)).mono (by omega) | simpa using (((((L0.trans L1).trans L2).trans L3).trans LE)).mono (by omega)⟩
  · rw [e1] at hpk
    clear e1
    go_wp2_with fail
    refine (hpk _).mono ?_
    rintro e w' ⟨rfl, rfl⟩
    go_wp2_with fail
    refine (mk_local _ p row c n q1 kd (d + 1) h1 hn6 hnl (by omega) (by omega) (by omega) 1).mono ?_
    rintro e w2 ⟨k2, ok2, q2, rfl, hk2, h2, L2⟩
    have a2 := L2.q; have b2 := L2.l
    cases ok2
    · go_wp2_with fail
      refine (mk_next _ p row c n q2 kd (d + 1) h2 hn6 hnl (by omega)).mono ?_
      rintro e w3 ⟨v3, q3, rfl, hv3, h3, L3⟩
      have a3 := L3.q; have b3 := L3.l
      have t3 := rem100 v3
      go_wp2_with fail
      refine (mk_putTo _ p row c n q3 kd (d + 1) h3 1 (v3.tmod 100) 0 (ok_push _ (by omega)) (by omega)).mono ?_
      rintro e w4 ⟨rfl, c4, q4, r4, h4, L4⟩
      have a4 := L4.q; have b4 := L4.l
      have c4z := h4.c4
      have f4z := h4.f4
      clear cc4
      have hdd : d + 1 - 1 = d := by omega
      have HDD := Lib.hid hdd; clear hdd
      obtain ⟨hE, LE⟩ := h4.deep d
      go_wp2_with fail
      go_end0
      exact ⟨rfl, c4, q4, r4, by first | exact hE | simpa using hE, by first | exact ((((((L0.trans L1).trans L2).trans L3).trans L4).trans LE)).mono (by omega) | simpa using ((((((L0.trans L1).trans L2).trans L3).trans L4).trans LE)).mono (by omega)⟩
    · have hk2 := hk2.2 rfl
      go_wp2_with fail
      refine (mk_putTo _ p row c n q2 kd (d + 1) h2 2 k2 0 (ok_load _ (by omega)) (by omega)).mono ?_
      rintro e w3 ⟨rfl, c3, q3, r3, h3, L3⟩
      have a3 := L3.q; have b3 := L3.l
      have c4z := h3.c4
      have f4z := h3.f4
      clear cc4
      have hdd : d + 1 - 1 = d := by omega
      have HDD := Lib.hid hdd; clear hdd
      obtain ⟨hE, LE⟩ := h3.deep d
      go_wp2_with fail
      go_end0
      exact ⟨rfl, c3, q3, r3, by first | exact hE | simpa using hE, by first | exact (((((L0.trans L1).trans L2).trans L3).trans LE)).mono (by omega) | simpa using (((((L0.trans L1).trans L2).trans L3).trans LE)).mono (by omega)⟩
  · rw [e1] at hpk
    clear e1
    go_wp2_with fail
    refine (hpk _).mono ?_
    rintro e w' ⟨rfl, rfl⟩
    go_wp2_with fail
    refine (mk_next _ p row c n q1 kd (d + 1) h1 hn6 hnl (by omega)).mono ?_
    rintro e w2 ⟨v2, q2, rfl, hv2, h2, L2⟩
    have a2 := L2.q; have b2 := L2.l
    obtain ⟨x2, hx2, hix2⟩ := arr8_at v2
    go_wp2_with fail
    refine (hand_Pick v2 8 hv2 (by omega) (by omega) _).mono ?_
    rintro e w' ⟨rfl, rfl⟩
    go_wp2_with fail
    refine (mk_putTo _ p row c n q2 kd (d + 1) h2 1 x2 0 (ok_push _ (by omega)) (by omega)).mono ?_
    rintro e w3 ⟨rfl, c3, q3, r3, h3, L3⟩
    have a3 := L3.q; have b3 := L3.l
    have c4z := h3.c4
    have f4z := h3.f4
    clear cc4
    have hdd : d + 1 - 1 = d := by omega
    have HDD := Lib.hid hdd; clear hdd
    obtain ⟨hE, LE⟩ := h3.deep d
    go_wp2_with fail
    go_end0
    exact ⟨rfl, c3, q3, r3, by first | exact hE | simpa using hE, by first | exact (((((L0.trans L1).trans L2).trans L3).trans LE)).mono (by omega) | simpa using (((((L0.trans L1).trans L2).trans L3).trans LE)).mono (by omega)⟩
  · rw [e1] at hpk
    clear e1
    go_wp2_with fail
    refine (hpk _).mono ?_
    rintro e w' ⟨rfl, rfl⟩
    go_wp2_with fail
    refine (mk_next _ p row c n q1 kd (d + 1) h1 hn6 hnl (by omega)).mono ?_
    rintro e w2 ⟨v2, q2, rfl, hv2, h2, L2⟩
    have a2 := L2.q; have b2 := L2.l
    obtain ⟨x2, hx2, hix2⟩ := arr8_at v2
    go_wp2_with fail
    refine (hand_Pick v2 8 hv2 (by omega) (by omega) _).mono ?_
    rintro e w' ⟨rfl, rfl⟩
    go_wp2_with fail
    refine (mk_putTo _ p row c n q2 kd (d + 1) h2 1 x2 0 (ok_push _ (by omega)) (by omega)).mono ?_
    rintro e w3 ⟨rfl, c3, q3, r3, h3, L3⟩
    have a3 := L3.q; have b3 := L3.l
    have c4z := h3.c4
    have f4z := h3.f4
    clear cc4
    have hdd : d + 1 - 1 = d := by omega
    have HDD := Lib.hid hdd; clear hdd
    obtain ⟨hE, LE⟩ := h3.deep d
    go_wp2_with fail
    go_end0
    exact ⟨rfl, c3, q3, r3, by first | exact hE | simpa using hE, by first | exact (((((L0.trans L1).trans L2).trans L3).trans LE)).mono (by omega) | simpa using (((((L0.trans L1).trans L2).trans L3).trans LE)).mono (by omega)⟩
  · rw [e1] at hpk
    clear e1
    go_wp2_with fail
    refine (hpk _).mono ?_
    rintro e w' ⟨rfl, rfl⟩
    go_wp2_with fail
    refine (mk_local _ p row c n q1 kd (d + 1) h1 hn6 hnl (by omega) (by omega) (by omega) 1).mono ?_
    rintro e w2 ⟨k2, ok2, q2, rfl, hk2, h2, L2⟩
    have a2 := L2.q; have b2 := L2.l
    cases ok2
    · go_wp2_with fail
      refine (mk_next _ p row c n q2 kd (d + 1) h2 hn6 hnl (by omega)).mono ?_
      rintro e w3 ⟨v3, q3, rfl, hv3, h3, L3⟩
      have a3 := L3.q; have b3 := L3.l
      have t3 := rem100 v3
      go_wp2_with fail
      refine (mk_putTo _ p row c n q3 kd (d + 1) h3 1 (v3.tmod 100) 0 (ok_push _ (by omega)) (by omega)).mono ?_
      rintro e w4 ⟨rfl, c4, q4, r4, h4, L4⟩
      have a4 := L4.q; have b4 := L4.l
      have c4z := h4.c4
      have f4z := h4.f4
      clear cc4
      have hdd : d + 1 - 1 = d := by omega
      have HDD := Lib.hid hdd; clear hdd
      obtain ⟨hE, LE⟩ := h4.deep d
      go_wp2_with fail
      go_end0
      exact ⟨rfl, c4, q4, r4, by first | exact hE | simpa using hE, by first | exact ((((((L0.trans L1).trans L2).trans L3).trans L4).trans LE)).mono (by omega) | simpa using ((((((L0.trans L1).trans L2).trans L3).trans L4).trans LE)).mono (by omega)⟩
    · have hk2 := hk2.2 rfl
      go_wp2_with fail
      refine (mk_putTo _ p row c n q2 kd (d + 1) h2 2 k2 0 (ok_load _ (by omega)) (by omega)).mono ?_
      rintro e w3 ⟨rfl, c3, q3, r3, h3, L3⟩
      have a3 := L3.q; have b3 := L3.l
      have c4z := h3.c4
      have f4z := h3.f4
      clear cc4
      have hdd : d + 1 - 1 = d := by omega
      have HDD := Lib.hid hdd; clear hdd
      obtain ⟨hE, LE⟩ := h3.deep d
      go_wp2_with fail
      go_end0
      exact ⟨rfl, c3, q3, r3, by first | exact hE | simpa using hE, by first | exact (((((L0.trans L1).trans L2).trans L3).trans LE)).mono (by omega) | simpa using (((((L0.trans L1).trans L2).trans L3).trans LE)).mono (by omega)⟩

set_option maxRecDepth 100000 in
set_option maxHeartbeats 4000000 in
theorem mk_index_3 (w : World) (p row : Nat) (c : List Ins) (n : List Int) (q : Nat) (kd : List Int) (d : Int) (hd : 3 ≤ d ∧ d ≤ 100) (h : Mk 99 57 2 w p row c n q kd d) (hn6 : I64s n) (hnl : n.length ≤ 9223372036854775807) (hq : q ≤ 870000) (hl : c.length ≤ 870000) (hkl : kd.length ≤ 10) :
    Calls Tryz.prog 94 #[.pointer (some ⟨p, 0, none⟩)] w fun e w' => e = .returned (.tuple #[]) ∧ MkTo 99 57 2 p row c n q kd d 13 w w' := by
  go_enter Tryz.func94, Tryz.ntmps94
  go_wp2_with fail
  refine (mk_next _ p row c n q kd d h hn6 hnl (by omega)).mono ?_
  rintro e w1 ⟨v1, q1, rfl, hv1, h1, L1⟩
  have a1 := L1.q; have b1 := L1.l
  have hpk := fun w => hand_Pick v1 5 hv1 (by omega) (by omega) w
  have hcs : v1 % 5 = 4 ∨ (0 ≤ v1 % 5 ∧ v1 % 5 < 4) := by omega
  rcases hcs with e1 | e1
  · rw [e1] at hpk
    clear e1
    go_wp2_with fail
    refine (hpk _).mono ?_
    rintro e w' ⟨rfl, rfl⟩
    go_wp2_with fail
    refine (mk_pub_3 _ p row c n q1 kd d (by omega) h1 hn6 hnl (by omega) (by omega) hkl).mono ?_
    rintro e w2 ⟨rfl, c2, q2, r2, h2, L2⟩
    have a2 := L2.q; have b2 := L2.l
    go_wp2_with fail
    go_end0
    exact ⟨rfl, c2, q2, r2, h2, (L1.trans L2).mono (by omega)⟩
  · have m1 : ((v1 % 5) == 4) = false := beq_eq_false_iff_ne.2 (by omega)
    go_wp2_with fail
    refine (hpk _).mono ?_
    rintro e w' ⟨rfl, rfl⟩
    go_wp2_with fail
    refine (mk_next _ p row c n q1 kd d h1 hn6 hnl (by omega)).mono ?_
    rintro e w2 ⟨v2, q2, rfl, hv2, h2, L2⟩
    have a2 := L2.q; have b2 := L2.l
    go_wp2_with fail
    refine (hand_Pick v2 5 hv2 (by omega) (by omega) _).mono ?_
    rintro e w' ⟨rfl, rfl⟩
    have m2 : 0 ≤ v2 % 5 ∧ v2 % 5 < 5 := by omega
    go_wp2_with fail
    refine (mk_putTo _ p row c n q2 kd d h2 1 (v2 % 5) 0 (ok_push _ (by omega)) (by omega)).mono ?_
    rintro e w3 ⟨rfl, c3, q3, r3, h3, L3⟩
    have a3 := L3.q; have b3 := L3.l
    go_wp2_with fail
    go_end0
    exact ⟨rfl, c3, q3, r3, h3, ((L1.trans L2).trans L3).mono (by omega)⟩
end Go.Proofs.YteebapopeaafhaaGreatDoor
namespace Go.Proofs.YteebapopeaafhaaGreatDoor
open Go.RowKit Go.Tcn
set_option linter.unusedVariables false
set_option linter.unusedSimpArgs false
set_option linter.unusedSectionVars false
variable [OkP]

set_option maxRecDepth 100000 in
set_option maxHeartbeats 16000000 in
theorem mk_pub_2 (w : World) (p row : Nat) (c : List Ins) (n : List Int) (q : Nat) (kd : List Int) (h : Mk 99 57 2 w p row c n q kd 2) (hn6 : I64s n) (hnl : n.length ≤ 9223372036854775807) (hq : q ≤ 860000) (hl : c.length ≤ 860000) (hkl : kd.length ≤ 10) :
    Calls Tryz.prog 95 #[.pointer (some ⟨p, 0, none⟩)] w fun e w' => e = .returned (.tuple #[]) ∧ MkTo 99 57 2 p row c n q kd 2 42 w w' := by
  go_enter Tryz.func95, Tryz.ntmps95
  have cc4 := h.c4
  have ff4 := h.f4
  obtain ⟨hD, L0⟩ := h.deep 3
  obtain ⟨V, hV⟩ : ∃ V, V = w.setCell ⟨p, 4, none⟩ (.int .i64 3) := ⟨_, rfl⟩
  rw [← hV] at hD L0
  go_upto_region 1 with fail
  rw [← hV]
  clear hV cc4 ff4
  have a0 := L0.q; have b0 := L0.l
  go_wp2_with fail
  refine (mk_next _ p row c n q kd 3 hD hn6 hnl (by omega)).mono ?_
  rintro e w1 ⟨v1, q1, rfl, hv1, h1, L1⟩
  have a1 := L1.q; have b1 := L1.l
  have cc4 := h1.c4
  have hpk := fun w => hand_Pick v1 12 hv1 (by omega) (by omega) w
  have hcs : v1 % 12 = 0 ∨ v1 % 12 = 1 ∨ v1 % 12 = 2 ∨ v1 % 12 = 3 ∨ v1 % 12 = 4 ∨ v1 % 12 = 5 ∨ v1 % 12 = 6 ∨ v1 % 12 = 7 ∨ v1 % 12 = 8 ∨ v1 % 12 = 9 ∨ v1 % 12 = 10 ∨ v1 % 12 = 11 := by omega
  rcases hcs with e1 | e1 | e1 | e1 | e1 | e1 | e1 | e1 | e1 | e1 | e1 | e1
  · rw [e1] at hpk
    clear e1
    go_wp2_with fail
    refine (hpk _).mono ?_
    rintro e w' ⟨rfl, rfl⟩
    go_wp2_with fail
    refine (mk_next _ p row c n q1 kd 3 h1 hn6 hnl (by omega)).mono ?_
    rintro e w2 ⟨v2, q2, rfl, hv2, h2, L2⟩
    have a2 := L2.q; have b2 := L2.l
    obtain ⟨x2, hx2, hix2⟩ := arr8_at v2
    go_wp2_with fail
    refine (hand_Pick v2 8 hv2 (by omega) (by omega) _).mono ?_
    rintro e w' ⟨rfl, rfl⟩
    go_wp2_with fail
    refine (mk_putTo _ p row c n q2 kd 3 h2 1 x2 0 (ok_push _ (by omega)) (by omega)).mono ?_
    rintro e w3 ⟨rfl, c3, q3, r3, h3, L3⟩
    have a3 := L3.q; have b3 := L3.l
    have c4z := h3.c4
    have f4z := h3.f4
    clear cc4
    obtain ⟨hE, LE⟩ := h3.deep 2
    go_wp2_with fail
    go_end0
    exact ⟨rfl, c3, q3, r3, by first | exact hE | simpa using hE, by first | exact (((((L0.trans L1).trans L2).trans L3).trans LE)).mono (by omega) | simpa using (((((L0.trans L1).trans L2).trans L3).trans LE)).mono (by omega)⟩
  · rw [e1] at hpk
    clear e1
    go_wp2_with fail
    refine (hpk _).mono ?_
    rintro e w' ⟨rfl, rfl⟩
    go_wp2_with fail
    refine (mk_next _ p row c n q1 kd 3 h1 hn6 hnl (by omega)).mono ?_
    rintro e w2 ⟨v2, q2, rfl, hv2, h2, L2⟩
    have a2 := L2.q; have b2 := L2.l
    obtain ⟨x2, hx2, hix2⟩ := arr8_at v2
    go_wp2_with fail
    refine (hand_Pick v2 8 hv2 (by omega) (by omega) _).mono ?_
    rintro e w' ⟨rfl, rfl⟩
    go_wp2_with fail
    refine (mk_putTo _ p row c n q2 kd 3 h2 1 x2 0 (ok_push _ (by omega)) (by omega)).mono ?_
    rintro e w3 ⟨rfl, c3, q3, r3, h3, L3⟩
    have a3 := L3.q; have b3 := L3.l
    have c4z := h3.c4
    have f4z := h3.f4
    clear cc4
    obtain ⟨hE, LE⟩ := h3.deep 2
    go_wp2_with fail
    go_end0
    exact ⟨rfl, c3, q3, r3, by first | exact hE | simpa using hE, by first | exact (((((L0.trans L1).trans L2).trans L3).trans LE)).mono (by omega) | simpa using (((((L0.trans L1).trans L2).trans L3).trans LE)).mono (by omega)⟩
  · rw [e1] at hpk
    clear e1
    go_wp2_with fail
    refine (hpk _).mono ?_
    rintro e w' ⟨rfl, rfl⟩
    go_wp2_with fail
    refine (mk_local _ p row c n q1 kd 3 h1 hn6 hnl (by omega) (by omega) (by omega) 1).mono ?_
    rintro e w2 ⟨k2, ok2, q2, rfl, hk2, h2, L2⟩
    have a2 := L2.q; have b2 := L2.l
    cases ok2
    · go_wp2_with fail
      refine (mk_next _ p row c n q2 kd 3 h2 hn6 hnl (by omega)).mono ?_
      rintro e w3 ⟨v3, q3, rfl, hv3, h3, L3⟩
      have a3 := L3.q; have b3 := L3.l
      have t3 := rem100 v3
      go_wp2_with fail
      refine (mk_putTo _ p row c n q3 kd 3 h3 1 (v3.tmod 100) 0 (ok_push _ (by omega)) (by omega)).mono ?_
      rintro e w4 ⟨rfl, c4, q4, r4, h4, L4⟩
      have a4 := L4.q; have b4 := L4.l
      have c4z := h4.c4
      have f4z := h4.f4
      clear cc4
      obtain ⟨hE, LE⟩ := h4.deep 2
      go_wp2_with fail
      go_end0
      exact ⟨rfl, c4, q4, r4, by first | exact hE | simpa using hE, by first | exact ((((((L0.trans L1).trans L2).trans L3).trans L4).trans LE)).mono (by omega) | simpa using ((((((L0.trans L1).trans L2).trans L3).trans L4).trans LE)).mono (by omega)⟩
    · have hk2 := hk2.2 rfl
      go_wp2_with fail
      refine (mk_putTo _ p row c n q2 kd 3 h2 2 k2 0 (ok_load _ (by omega)) (by omega)).mono ?_
      rintro e w3 ⟨rfl, c3, q3, r3, h3, L3⟩
      have a3 := L3.q; have b3 := L3.l
      have c4z := h3.c4
      have f4z := h3.f4
      clear cc4
      obtain ⟨hE, LE⟩ := h3.deep 2
      go_wp2_with fail
      go_end0
      exact ⟨rfl, c3, q3, r3, by first | exact hE | simpa using hE, by first | exact (((((L0.trans L1).trans L2).trans L3).trans LE)).mono (by omega) | simpa using (((((L0.trans L1).trans L2).trans L3).trans LE)).mono (by omega)⟩
  · rw [e1] at hpk
    clear e1
    go_wp2_with fail
    refine (hpk _).mono ?_
    rintro e w' ⟨rfl, rfl⟩
    go_wp2_with fail
    refine (mk_local _ p row c n q1 kd 3 h1 hn6 hnl (by omega) (by omega) (by omega) 1).mono ?_
    rintro e w2 ⟨k2, ok2, q2, rfl, hk2, h2, L2⟩
    have a2 := L2.q; have b2 := L2.l
    cases ok2
    · go_wp2_with fail
      refine (mk_next _ p row c n q2 kd 3 h2 hn6 hnl (by omega)).mono ?_
      rintro e w3 ⟨v3, q3, rfl, hv3, h3, L3⟩
      have a3 := L3.q; have b3 := L3.l
      have t3 := rem100 v3
      go_wp2_with fail
      refine (mk_putTo _ p row c n q3 kd 3 h3 1 (v3.tmod 100) 0 (ok_push _ (by omega)) (by omega)).mono ?_
      rintro e w4 ⟨rfl, c4, q4, r4, h4, L4⟩
      have a4 := L4.q; have b4 := L4.l
      have c4z := h4.c4
      have f4z := h4.f4
      clear cc4
      obtain ⟨hE, LE⟩ := h4.deep 2
      go_wp2_with fail
      go_end0
      exact ⟨rfl, c4, q4, r4, by first | exact hE | simpa using hE, by first | exact ((((((L0.trans L1).trans L2).trans L3).trans L4).trans LE)).mono (by omega) | simpa using ((((((L0.trans L1).trans L2).trans L3).trans L4).trans LE)).mono (by omega)⟩
    · have hk2 := hk2.2 rfl
      go_wp2_with fail
      refine (mk_putTo _ p row c n q2 kd 3 h2 2 k2 0 (ok_load _ (by omega)) (by omega)).mono ?_
      rintro e w3 ⟨rfl, c3, q3, r3, h3, L3⟩
      have a3 := L3.q; have b3 := L3.l
      have c4z := h3.c4
      have f4z := h3.f4
      clear cc4
      obtain ⟨hE, LE⟩ := h3.deep 2
      go_wp2_with fail
      go_end0
      exact ⟨rfl, c3, q3, r3, by first | exact hE | simpa using hE, by first | exact (((((L0.trans L1).trans L2).trans L3).trans LE)).mono (by omega) | simpa using (((((L0.trans L1).trans L2).trans L3).trans LE)).mono (by omega)⟩
  · rw [e1] at hpk
    clear e1
    go_wp2_with fail
    refine (hpk _).mono ?_
    rintro e w' ⟨rfl, rfl⟩
    go_wp2_with fail
    refine (mk_pub_3 _ p row c n q1 kd 3 (by omega) h1 hn6 hnl (by omega) (by omega) hkl).mono ?_
    rintro e w2 ⟨rfl, c2, q2, r2, h2, L2⟩
    have a2 := L2.q; have b2 := L2.l
    go_wp2_with fail
    refine (mk_pub_3 _ p r2 c2 n q2 kd 3 (by omega) h2 hn6 hnl (by omega) (by omega) hkl).mono ?_
    rintro e w3 ⟨rfl, c3, q3, r3, h3, L3⟩
    have a3 := L3.q; have b3 := L3.l
    go_wp2_with fail
    refine (mk_next _ p r3 c3 n q3 kd 3 h3 hn6 hnl (by omega)).mono ?_
    rintro e w4 ⟨v4, q4, rfl, hv4, h4, L4⟩
    have a4 := L4.q; have b4 := L4.l
    obtain ⟨j4, hj4⟩ : ∃ j : Nat, v4 % 12 = (j : Int) := ⟨(v4 % 12).toNat, by omega⟩
    have jl4 : j4 < 12 := by omega
    obtain ⟨op4, ho4, hc4⟩ := h4.bins j4 jl4
    have hpj4 := fun w => hand_Pick v4 12 hv4 (by omega) (by omega) w
    rw [hj4] at hpj4
    clear hj4
    go_wp2_with fail
    refine (hpj4 _).mono ?_
    rintro e w' ⟨rfl, rfl⟩
    go_wp2_with fail
    refine (mk_putTo _ p r3 c3 n q4 kd 3 h4 op4 0 0 (ok_zero _ (by omega)) (by omega)).mono ?_
    rintro e w5 ⟨rfl, c5, q5, r5, h5, L5⟩
    have a5 := L5.q; have b5 := L5.l
    have c4z := h5.c4
    have f4z := h5.f4
    clear cc4
    obtain ⟨hE, LE⟩ := h5.deep 2
    go_wp2_with fail
    go_end0
    exact ⟨rfl, c5, q5, r5, by first | exact hE | simpa using hE, by first | exact (((((((L0.trans L1).trans L2).trans L3).trans L4).trans L5).trans LE)).mono (by omega) | simpa using (((((((L0.trans L1).trans L2).trans L3).trans L4).trans L5).trans LE)).mono (by omega)⟩
  · rw [e1] at hpk
    clear e1
    go_wp2_with fail
    refine (hpk _).mono ?_
    rintro e w' ⟨rfl, rfl⟩
    go_wp2_with fail
    refine (mk_pub_3 _ p row c n q1 kd 3 (by omega) h1 hn6 hnl (by omega) (by omega) hkl).mono ?_
    rintro e w2 ⟨rfl, c2, q2, r2, h2, L2⟩
    have a2 := L2.q; have b2 := L2.l
    go_wp2_with fail
    refine (mk_pub_3 _ p r2 c2 n q2 kd 3 (by omega) h2 hn6 hnl (by omega) (by omega) hkl).mono ?_
    rintro e w3 ⟨rfl, c3, q3, r3, h3, L3⟩
    have a3 := L3.q; have b3 := L3.l
    go_wp2_with fail
    refine (mk_next _ p r3 c3 n q3 kd 3 h3 hn6 hnl (by omega)).mono ?_
    rintro e w4 ⟨v4, q4, rfl, hv4, h4, L4⟩
    have a4 := L4.q; have b4 := L4.l
    obtain ⟨j4, hj4⟩ : ∃ j : Nat, v4 % 12 = (j : Int) := ⟨(v4 % 12).toNat, by omega⟩
    have jl4 : j4 < 12 := by omega
    obtain ⟨op4, ho4, hc4⟩ := h4.bins j4 jl4
    have hpj4 := fun w => hand_Pick v4 12 hv4 (by omega) (by omega) w
    rw [hj4] at hpj4
    clear hj4
    go_wp2_with fail
    refine (hpj4 _).mono ?_
    rintro e w' ⟨rfl, rfl⟩
    go_wp2_with fail
    refine (mk_putTo _ p r3 c3 n q4 kd 3 h4 op4 0 0 (ok_zero _ (by omega)) (by omega)).mono ?_
    rintro e w5 ⟨rfl, c5, q5, r5, h5, L5⟩
    have a5 := L5.q; have b5 := L5.l
    have c4z := h5.c4
    have f4z := h5.f4
    clear cc4
    obtain ⟨hE, LE⟩ := h5.deep 2
    go_wp2_with fail
    go_end0
    exact ⟨rfl, c5, q5, r5, by first | exact hE | simpa using hE, by first | exact (((((((L0.trans L1).trans L2).trans L3).trans L4).trans L5).trans LE)).mono (by omega) | simpa using (((((((L0.trans L1).trans L2).trans L3).trans L4).trans L5).trans LE)).mono (by omega)⟩
  · rw [e1] at hpk
    clear e1
    go_wp2_with fail
    refine (hpk _).mono ?_
    rintro e w' ⟨rfl, rfl⟩
    go_wp2_with fail
    refine (mk_pub_3 _ p row c n q1 kd 3 (by omega) h1 hn6 hnl (by omega) (by omega) hkl).mono ?_
    rintro e w2 ⟨rfl, c2, q2, r2, h2, L2⟩
    have a2 := L2.q; have b2 := L2.l
    go_wp2_with fail
    refine (mk_pub_3 _ p r2 c2 n q2 kd 3 (by omega) h2 hn6 hnl (by omega) (by omega) hkl).mono ?_
    rintro e w3 ⟨rfl, c3, q3, r3, h3, L3⟩
    have a3 := L3.q; have b3 := L3.l
    go_wp2_with fail
    refine (mk_next _ p r3 c3 n q3 kd 3 h3 hn6 hnl (by omega)).mono ?_
    rintro e w4 ⟨v4, q4, rfl, hv4, h4, L4⟩
    have a4 := L4.q; have b4 := L4.l
    obtain ⟨j4, hj4⟩ : ∃ j : Nat, v4 % 12 = (j : Int) := ⟨(v4 % 12).toNat, by omega⟩
    have jl4 : j4 < 12 := by omega
    obtain ⟨op4, ho4, hc4⟩ := h4.bins j4 jl4
    have hpj4 := fun w => hand_Pick v4 12 hv4 (by omega) (by omega) w
    rw [hj4] at hpj4
    clear hj4
    go_wp2_with fail
    refine (hpj4 _).mono ?_
    rintro e w' ⟨rfl, rfl⟩
    go_wp2_with fail
    refine (mk_putTo _ p r3 c3 n q4 kd 3 h4 op4 0 0 (ok_zero _ (by omega)) (by omega)).mono ?_
    rintro e w5 ⟨rfl, c5, q5, r5, h5, L5⟩
    have a5 := L5.q; have b5 := L5.l
    have c4z := h5.c4
    have f4z := h5.f4
    clear cc4
    obtain ⟨hE, LE⟩ := h5.deep 2
    go_wp2_with fail
    go_end0
    exact ⟨rfl, c5, q5, r5, by first | exact hE | simpa using hE, by first | exact (((((((L0.trans L1).trans L2).trans L3).trans L4).trans L5).trans LE)).mono (by omega) | simpa using (((((((L0.trans L1).trans L2).trans L3).trans L4).trans L5).trans LE)).mono (by omega)⟩
  · rw [e1] at hpk
    clear e1
    go_wp2_with fail
    refine (hpk _).mono ?_
    rintro e w' ⟨rfl, rfl⟩
    go_wp2_with fail
    refine (mk_next _ p row c n q1 kd 3 h1 hn6 hnl (by omega)).mono ?_
    rintro e w2 ⟨v2, q2, rfl, hv2, h2, L2⟩
    have a2 := L2.q; have b2 := L2.l
    go_wp2_with fail
    refine (hand_Pick v2 2 hv2 (by omega) (by omega) _).mono ?_
    rintro e w' ⟨rfl, rfl⟩
    have m2 : 0 ≤ v2 % 2 ∧ v2 % 2 < 2 := by omega
    go_wp2_with fail
    refine (mk_putTo _ p row c n q2 kd 3 h2 35 (1 + (v2 % 2)) 0 (ok_buf _ (by omega)) (by omega)).mono ?_
    rintro e w3 ⟨rfl, c3, q3, r3, h3, L3⟩
    have a3 := L3.q; have b3 := L3.l
    go_wp2_with fail
    refine (mk_putTo _ p r3 c3 n q3 kd 3 h3 28 0 0 (ok_zero _ (by omega)) (by omega)).mono ?_
    rintro e w4 ⟨rfl, c4, q4, r4, h4, L4⟩
    have a4 := L4.q; have b4 := L4.l
    have c4z := h4.c4
    have f4z := h4.f4
    clear cc4
    obtain ⟨hE, LE⟩ := h4.deep 2
    go_wp2_with fail
    go_end0
    exact ⟨rfl, c4, q4, r4, by first | exact hE | simpa using hE, by first | exact ((((((L0.trans L1).trans L2).trans L3).trans L4).trans LE)).mono (by omega) | simpa using ((((((L0.trans L1).trans L2).trans L3).trans L4).trans LE)).mono (by omega)⟩
  · rw [e1] at hpk
    clear e1
    go_wp2_with fail
    refine (hpk _).mono ?_
    rintro e w' ⟨rfl, rfl⟩
    go_wp2_with fail
    refine (mk_pub_3 _ p row c n q1 kd 3 (by omega) h1 hn6 hnl (by omega) (by omega) hkl).mono ?_
    rintro e w2 ⟨rfl, c2, q2, r2, h2, L2⟩
    have a2 := L2.q; have b2 := L2.l
    go_wp2_with fail
    refine (mk_pub_3 _ p r2 c2 n q2 kd 3 (by omega) h2 hn6 hnl (by omega) (by omega) hkl).mono ?_
    rintro e w3 ⟨rfl, c3, q3, r3, h3, L3⟩
    have a3 := L3.q; have b3 := L3.l
    go_wp2_with fail
    refine (mk_next _ p r3 c3 n q3 kd 3 h3 hn6 hnl (by omega)).mono ?_
    rintro e w4 ⟨v4, q4, rfl, hv4, h4, L4⟩
    have a4 := L4.q; have b4 := L4.l
    obtain ⟨x4, hx4, hix4⟩ := arr2_at v4
    go_wp2_with fail
    refine (hand_Pick v4 2 hv4 (by omega) (by omega) _).mono ?_
    rintro e w' ⟨rfl, rfl⟩
    go_wp2_with fail
    refine (mk_putTo _ p r3 c3 n q4 kd 3 h4 x4 0 0 (ok_zero _ (by omega)) (by omega)).mono ?_
    rintro e w5 ⟨rfl, c5, q5, r5, h5, L5⟩
    have a5 := L5.q; have b5 := L5.l
    have c4z := h5.c4
    have f4z := h5.f4
    clear cc4
    obtain ⟨hE, LE⟩ := h5.deep 2
    go_wp2_with fail
    go_end0
    exact ⟨rfl, c5, q5, r5, by first | exact hE | simpa using hE, by first | exact (((((((L0.trans L1).trans L2).trans L3).trans L4).trans L5).trans LE)).mono (by omega) | simpa using (((((((L0.trans L1).trans L2).trans L3).trans L4).trans L5).trans LE)).mono (by omega)⟩
  · rw [e1] at hpk
    clear e1
    go_wp2_with fail
    refine (hpk _).mono ?_
    rintro e w' ⟨rfl, rfl⟩
    go_wp2_with fail
    refine (mk_arr _ p row c n q1 kd 3 h1 hn6 hnl (by omega) (by omega) hkl 3 (by omega)).mono ?_
    rintro e w2 ⟨rfl, c2, q2, r2, h2, L2⟩
    have a2 := L2.q; have b2 := L2.l
    go_wp2_with fail
    refine (mk_index_3 _ p r2 c2 n q2 kd 3 (by omega) h2 hn6 hnl (by omega) (by omega) hkl).mono ?_
    rintro e w3 ⟨rfl, c3, q3, r3, h3, L3⟩
    have a3 := L3.q; have b3 := L3.l
    go_wp2_with fail
    refine (mk_putTo _ p r3 c3 n q3 kd 3 h3 29 0 0 (ok_zero _ (by omega)) (by omega)).mono ?_
    rintro e w4 ⟨rfl, c4, q4, r4, h4, L4⟩
    have a4 := L4.q; have b4 := L4.l
    have c4z := h4.c4
    have f4z := h4.f4
    clear cc4
    obtain ⟨hE, LE⟩ := h4.deep 2
    go_wp2_with fail
    go_end0
    exact ⟨rfl, c4, q4, r4, by first | exact hE | simpa using hE, by first | exact ((((((L0.trans L1).trans L2).trans L3).trans L4).trans LE)).mono (by omega) | simpa using ((((((L0.trans L1).trans L2).trans L3).trans L4).trans LE)).mono (by omega)⟩
  · rw [e1] at hpk
    clear e1
    go_wp2_with fail
    refine (hpk _).mono ?_
    rintro e w' ⟨rfl, rfl⟩
    go_wp2_with fail
    refine (mk_pub_3 _ p row c n q1 kd 3 (by omega) h1 hn6 hnl (by omega) (by omega) hkl).mono ?_
    rintro e w2 ⟨rfl, c2, q2, r2, h2, L2⟩
    have a2 := L2.q; have b2 := L2.l
    go_wp2_with fail
    refine (mk_next _ p r2 c2 n q2 kd 3 h2 hn6 hnl (by omega)).mono ?_
    rintro e w3 ⟨v3, q3, rfl, hv3, h3, L3⟩
    have a3 := L3.q; have b3 := L3.l
    obtain ⟨x3, hx3, hix3⟩ := arr3_at v3
    go_wp2_with fail
    refine (hand_Pick v3 3 hv3 (by omega) (by omega) _).mono ?_
    rintro e w' ⟨rfl, rfl⟩
    go_wp2_with fail
    refine (mk_putTo _ p r2 c2 n q3 kd 3 h3 x3 0 0 (ok_zero _ (by omega)) (by omega)).mono ?_
    rintro e w4 ⟨rfl, c4, q4, r4, h4, L4⟩
    have a4 := L4.q; have b4 := L4.l
    have c4z := h4.c4
    have f4z := h4.f4
    clear cc4
    obtain ⟨hE, LE⟩ := h4.deep 2
    go_wp2_with fail
    go_end0
    exact ⟨rfl, c4, q4, r4, by first | exact hE | simpa using hE, by first | exact ((((((L0.trans L1).trans L2).trans L3).trans L4).trans LE)).mono (by omega) | simpa using ((((((L0.trans L1).trans L2).trans L3).trans L4).trans LE)).mono (by omega)⟩
  · rw [e1] at hpk
    clear e1
    go_wp2_with fail
    refine (hpk _).mono ?_
    rintro e w' ⟨rfl, rfl⟩
    go_wp2_with fail
    refine (mk_next _ p row c n q1 kd 3 h1 hn6 hnl (by omega)).mono ?_
    rintro e w2 ⟨v2, q2, rfl, hv2, h2, L2⟩
    have a2 := L2.q; have b2 := L2.l
    go_wp2_with fail
    refine (hand_Pick v2 2 hv2 (by omega) (by omega) _).mono ?_
    rintro e w' ⟨rfl, rfl⟩
    have m2 : 0 ≤ v2 % 2 ∧ v2 % 2 < 2 := by omega
    go_wp2_with fail
    refine (mk_arr _ p row c n q2 kd 3 h2 hn6 hnl (by omega) (by omega) hkl (3 + (v2 % 2)) (by omega)).mono ?_
    rintro e w3 ⟨rfl, c3, q3, r3, h3, L3⟩
    have a3 := L3.q; have b3 := L3.l
    go_wp2_with fail
    refine (mk_putTo _ p r3 c3 n q3 kd 3 h3 26 0 0 (ok_zero _ (by omega)) (by omega)).mono ?_
    rintro e w4 ⟨rfl, c4, q4, r4, h4, L4⟩
    have a4 := L4.q; have b4 := L4.l
    have c4z := h4.c4
    have f4z := h4.f4
    clear cc4
    obtain ⟨hE, LE⟩ := h4.deep 2
    go_wp2_with fail
    go_end0
    exact ⟨rfl, c4, q4, r4, by first | exact hE | simpa using hE, by first | exact ((((((L0.trans L1).trans L2).trans L3).trans L4).trans LE)).mono (by omega) | simpa using ((((((L0.trans L1).trans L2).trans L3).trans L4).trans LE)).mono (by omega)⟩

set_option maxRecDepth 100000 in
set_option maxHeartbeats 4000000 in
theorem mk_index_2 (w : World) (p row : Nat) (c : List Ins) (n : List Int) (q : Nat) (kd : List Int) (h : Mk 99 57 2 w p row c n q kd 2) (hn6 : I64s n) (hnl : n.length ≤ 9223372036854775807) (hq : q ≤ 850000) (hl : c.length ≤ 850000) (hkl : kd.length ≤ 10) :
    Calls Tryz.prog 94 #[.pointer (some ⟨p, 0, none⟩)] w fun e w' => e = .returned (.tuple #[]) ∧ MkTo 99 57 2 p row c n q kd 2 45 w w' := by
  go_enter Tryz.func94, Tryz.ntmps94
  go_wp2_with fail
  refine (mk_next _ p row c n q kd 2 h hn6 hnl (by omega)).mono ?_
  rintro e w1 ⟨v1, q1, rfl, hv1, h1, L1⟩
  have a1 := L1.q; have b1 := L1.l
  have hpk := fun w => hand_Pick v1 5 hv1 (by omega) (by omega) w
  have hcs : v1 % 5 = 4 ∨ (0 ≤ v1 % 5 ∧ v1 % 5 < 4) := by omega
  rcases hcs with e1 | e1
  · rw [e1] at hpk
    clear e1
    go_wp2_with fail
    refine (hpk _).mono ?_
    rintro e w' ⟨rfl, rfl⟩
    go_wp2_with fail
    refine (mk_pub_2 _ p row c n q1 kd h1 hn6 hnl (by omega) (by omega) hkl).mono ?_
    rintro e w2 ⟨rfl, c2, q2, r2, h2, L2⟩
    have a2 := L2.q; have b2 := L2.l
    go_wp2_with fail
    go_end0
    exact ⟨rfl, c2, q2, r2, h2, (L1.trans L2).mono (by omega)⟩
  · have m1 : ((v1 % 5) == 4) = false := beq_eq_false_iff_ne.2 (by omega)
    go_wp2_with fail
    refine (hpk _).mono ?_
    rintro e w' ⟨rfl, rfl⟩
    go_wp2_with fail
    refine (mk_next _ p row c n q1 kd 2 h1 hn6 hnl (by omega)).mono ?_
    rintro e w2 ⟨v2, q2, rfl, hv2, h2, L2⟩
    have a2 := L2.q; have b2 := L2.l
    go_wp2_with fail
    refine (hand_Pick v2 5 hv2 (by omega) (by omega) _).mono ?_
    rintro e w' ⟨rfl, rfl⟩
    have m2 : 0 ≤ v2 % 5 ∧ v2 % 5 < 5 := by omega
    go_wp2_with fail
    refine (mk_putTo _ p row c n q2 kd 2 h2 1 (v2 % 5) 0 (ok_push _ (by omega)) (by omega)).mono ?_
    rintro e w3 ⟨rfl, c3, q3, r3, h3, L3⟩
    have a3 := L3.q; have b3 := L3.l
    go_wp2_with fail
    go_end0
    exact ⟨rfl, c3, q3, r3, h3, ((L1.trans L2).trans L3).mono (by omega)⟩
end Go.Proofs.YteebapopeaafhaaGreatDoor
