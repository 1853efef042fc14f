/-
  CONTRACTS: the maker of applets' code: sec at depth 3. Conditions: its memory is its own, its counts are small.
  CONTRACTS: the maker of applets' code: sec at depth 2. Conditions: its memory is its own, its counts are small.
  CONTRACTS: the maker of applets' code: sec at depth 1. Conditions: its memory is its own, its counts are small.
  CONTRACTS: the maker of applets' code: sec at depth 0. Conditions: its memory is its own, its counts are small.
  CONTRACTS: the maker of applets' code: any. Conditions: its memory is its own, its counts are small.
-/
import Derived.Test.YteebapopeaafhaaGreatDoorHMaker5
import Derived.Test.YteebapopeaafhaaGreatDoorHMaker7
namespace Go.Proofs.YteebapopeaafhaaGreatDoor
open Go.RowKit Go.Tcn
set_option linter.unusedVariables false
set_option linter.unusedSimpArgs false
set_option linter.unusedSectionVars false
variable [OkP]
theorem rem1000 (c : Int) : -1000 < c.tmod 1000 ∧ c.tmod 1000 < 1000 := ⟨Int.lt_tmod_of_pos c (by omega), Int.tmod_lt_of_pos c (by omega)⟩

set_option maxRecDepth 100000 in
set_option maxHeartbeats 16000000 in
theorem mk_sec_3 (w : World) (p row : Nat) (c : List Ins) (n : List Int) (q : Nat) (kd : List Int) (d : Int) (hd : 3 ≤ d ∧ d ≤ 100) (h : Mk 99 57 2 w p row c n q kd d) (hn6 : I64s n) (hnl : n.length ≤ 9223372036854775807) (hq : q ≤ 800000) (hl : c.length ≤ 800000) (hkl : kd.length ≤ 10) :
    Calls Tryz.prog 96 #[.pointer (some ⟨p, 0, none⟩)] w fun e w' => e = .returned (.tuple #[]) ∧ MkTo 99 57 2 p row c n q kd d 10 w w' := by
  go_enter Tryz.func96, Tryz.ntmps96
  have cc4 := h.c4
  have ff4 := h.f4
  obtain ⟨hD, L0⟩ := h.deep (d + 1)
  obtain ⟨V, hV⟩ : ∃ V, V = w.setCell ⟨p, 4, none⟩ (.int .i64 (d + 1)) := ⟨_, rfl⟩
  rw [← hV] at hD L0
  go_upto_region 1 with fail
  rw [← hV]
  clear hV cc4 ff4
  have a0 := L0.q; have b0 := L0.l
  go_wp2_with fail
  refine (mk_next _ p row c n q kd (d + 1) hD hn6 hnl (by omega)).mono ?_
  rintro e w1 ⟨v1, q1, rfl, hv1, h1, L1⟩
  have a1 := L1.q; have b1 := L1.l
  have cc4 := h1.c4
  have hpk := fun w => hand_Pick v1 9 hv1 (by omega) (by omega) w
  have hd4 : ¬ d + 1 ≤ 3 := by omega
  have hd5 : 3 < d + 1 := by omega
  have hcs : v1 % 9 = 0 ∨ v1 % 9 = 1 ∨ v1 % 9 = 2 ∨ v1 % 9 = 3 ∨ v1 % 9 = 4 ∨ v1 % 9 = 5 ∨ v1 % 9 = 6 ∨ v1 % 9 = 7 ∨ v1 % 9 = 8 := by omega
  rcases hcs with e1 | e1 | e1 | e1 | e1 | e1 | e1 | e1 | e1
  · rw [e1] at hpk
    clear e1
    go_wp2_with fail
    refine (hpk _).mono ?_
    rintro e w' ⟨rfl, rfl⟩
    go_wp2_with fail
    refine (mk_local _ p row c n q1 kd (d + 1) h1 hn6 hnl (by omega) (by omega) (by omega) 2).mono ?_
    rintro e w2 ⟨k2, ok2, q2, rfl, hk2, h2, L2⟩
    have a2 := L2.q; have b2 := L2.l
    cases ok2
    · go_wp2_with fail
      refine (mk_putTo _ p row c n q2 kd (d + 1) h2 1 5 0 (ok_push _ (by omega)) (by omega)).mono ?_
      rintro e w3 ⟨rfl, c3, q3, r3, h3, L3⟩
      have a3 := L3.q; have b3 := L3.l
      have c4z := h3.c4
      have f4z := h3.f4
      clear cc4
      have hdd : d + 1 - 1 = d := by omega
      have HDD := Lib.hid hdd; clear hdd
      obtain ⟨hE, LE⟩ := h3.deep d
      go_wp2_with fail
      go_end0
      exact ⟨rfl, c3, q3, r3, by first | exact hE | simpa using hE, by first | exact (((((L0.trans L1).trans L2).trans L3).trans LE)).mono (by omega) | simpa using (((((L0.trans L1).trans L2).trans L3).trans LE)).mono (by omega)⟩
    · have hk2 := hk2.2 rfl
      go_wp2_with fail
      refine (mk_putTo _ p row c n q2 kd (d + 1) h2 2 k2 0 (ok_load _ (by omega)) (by omega)).mono ?_
      rintro e w3 ⟨rfl, c3, q3, r3, h3, L3⟩
      have a3 := L3.q; have b3 := L3.l
      have c4z := h3.c4
      have f4z := h3.f4
      clear cc4
      have hdd : d + 1 - 1 = d := by omega
      have HDD := Lib.hid hdd; clear hdd
      obtain ⟨hE, LE⟩ := h3.deep d
      go_wp2_with fail
      go_end0
      exact ⟨rfl, c3, q3, r3, by first | exact hE | simpa using hE, by first | exact (((((L0.trans L1).trans L2).trans L3).trans LE)).mono (by omega) | simpa using (((((L0.trans L1).trans L2).trans L3).trans LE)).mono (by omega)⟩
  · rw [e1] at hpk
    clear e1
    go_wp2_with fail
    refine (hpk _).mono ?_
    rintro e w' ⟨rfl, rfl⟩
    go_wp2_with fail
    refine (mk_next _ p row c n q1 kd (d + 1) h1 hn6 hnl (by omega)).mono ?_
    rintro e w2 ⟨v2, q2, rfl, hv2, h2, L2⟩
    have a2 := L2.q; have b2 := L2.l
    have t2 := rem1000 v2
    go_wp2_with fail
    refine (mk_putTo _ p row c n q2 kd (d + 1) h2 1 (v2.tmod 1000) 0 (ok_push _ (by omega)) (by omega)).mono ?_
    rintro e w3 ⟨rfl, c3, q3, r3, h3, L3⟩
    have a3 := L3.q; have b3 := L3.l
    have c4z := h3.c4
    have f4z := h3.f4
    clear cc4
    have hdd : d + 1 - 1 = d := by omega
    have HDD := Lib.hid hdd; clear hdd
    obtain ⟨hE, LE⟩ := h3.deep d
    go_wp2_with fail
    go_end0
    exact ⟨rfl, c3, q3, r3, by first | exact hE | simpa using hE, by first | exact (((((L0.trans L1).trans L2).trans L3).trans LE)).mono (by omega) | simpa using (((((L0.trans L1).trans L2).trans L3).trans LE)).mono (by omega)⟩
  · rw [e1] at hpk
    clear e1
    go_wp2_with fail
    refine (hpk _).mono ?_
    rintro e w' ⟨rfl, rfl⟩
    go_wp2_with fail
    refine (mk_local _ p row c n q1 kd (d + 1) h1 hn6 hnl (by omega) (by omega) (by omega) 2).mono ?_
    rintro e w2 ⟨k2, ok2, q2, rfl, hk2, h2, L2⟩
    have a2 := L2.q; have b2 := L2.l
    cases ok2
    · go_wp2_with fail
      refine (mk_putTo _ p row c n q2 kd (d + 1) h2 1 5 0 (ok_push _ (by omega)) (by omega)).mono ?_
      rintro e w3 ⟨rfl, c3, q3, r3, h3, L3⟩
      have a3 := L3.q; have b3 := L3.l
      have c4z := h3.c4
      have f4z := h3.f4
      clear cc4
      have hdd : d + 1 - 1 = d := by omega
      have HDD := Lib.hid hdd; clear hdd
      obtain ⟨hE, LE⟩ := h3.deep d
      go_wp2_with fail
      go_end0
      exact ⟨rfl, c3, q3, r3, by first | exact hE | simpa using hE, by first | exact (((((L0.trans L1).trans L2).trans L3).trans LE)).mono (by omega) | simpa using (((((L0.trans L1).trans L2).trans L3).trans LE)).mono (by omega)⟩
    · have hk2 := hk2.2 rfl
      go_wp2_with fail
      refine (mk_putTo _ p row c n q2 kd (d + 1) h2 2 k2 0 (ok_load _ (by omega)) (by omega)).mono ?_
      rintro e w3 ⟨rfl, c3, q3, r3, h3, L3⟩
      have a3 := L3.q; have b3 := L3.l
      have c4z := h3.c4
      have f4z := h3.f4
      clear cc4
      have hdd : d + 1 - 1 = d := by omega
      have HDD := Lib.hid hdd; clear hdd
      obtain ⟨hE, LE⟩ := h3.deep d
      go_wp2_with fail
      go_end0
      exact ⟨rfl, c3, q3, r3, by first | exact hE | simpa using hE, by first | exact (((((L0.trans L1).trans L2).trans L3).trans LE)).mono (by omega) | simpa using (((((L0.trans L1).trans L2).trans L3).trans LE)).mono (by omega)⟩
  · rw [e1] at hpk
    clear e1
    go_wp2_with fail
    refine (hpk _).mono ?_
    rintro e w' ⟨rfl, rfl⟩
    go_wp2_with fail
    refine (mk_next _ p row c n q1 kd (d + 1) h1 hn6 hnl (by omega)).mono ?_
    rintro e w2 ⟨v2, q2, rfl, hv2, h2, L2⟩
    have a2 := L2.q; have b2 := L2.l
    have t2 := rem1000 v2
    go_wp2_with fail
    refine (mk_putTo _ p row c n q2 kd (d + 1) h2 1 (v2.tmod 1000) 0 (ok_push _ (by omega)) (by omega)).mono ?_
    rintro e w3 ⟨rfl, c3, q3, r3, h3, L3⟩
    have a3 := L3.q; have b3 := L3.l
    have c4z := h3.c4
    have f4z := h3.f4
    clear cc4
    have hdd : d + 1 - 1 = d := by omega
    have HDD := Lib.hid hdd; clear hdd
    obtain ⟨hE, LE⟩ := h3.deep d
    go_wp2_with fail
    go_end0
    exact ⟨rfl, c3, q3, r3, by first | exact hE | simpa using hE, by first | exact (((((L0.trans L1).trans L2).trans L3).trans LE)).mono (by omega) | simpa using (((((L0.trans L1).trans L2).trans L3).trans LE)).mono (by omega)⟩
  · rw [e1] at hpk
    clear e1
    go_wp2_with fail
    refine (hpk _).mono ?_
    rintro e w' ⟨rfl, rfl⟩
    go_wp2_with fail
    refine (mk_local _ p row c n q1 kd (d + 1) h1 hn6 hnl (by omega) (by omega) (by omega) 2).mono ?_
    rintro e w2 ⟨k2, ok2, q2, rfl, hk2, h2, L2⟩
    have a2 := L2.q; have b2 := L2.l
    cases ok2
    · go_wp2_with fail
      refine (mk_putTo _ p row c n q2 kd (d + 1) h2 1 5 0 (ok_push _ (by omega)) (by omega)).mono ?_
      rintro e w3 ⟨rfl, c3, q3, r3, h3, L3⟩
      have a3 := L3.q; have b3 := L3.l
      have c4z := h3.c4
      have f4z := h3.f4
      clear cc4
      have hdd : d + 1 - 1 = d := by omega
      have HDD := Lib.hid hdd; clear hdd
      obtain ⟨hE, LE⟩ := h3.deep d
      go_wp2_with fail
      go_end0
      exact ⟨rfl, c3, q3, r3, by first | exact hE | simpa using hE, by first | exact (((((L0.trans L1).trans L2).trans L3).trans LE)).mono (by omega) | simpa using (((((L0.trans L1).trans L2).trans L3).trans LE)).mono (by omega)⟩
    · have hk2 := hk2.2 rfl
      go_wp2_with fail
      refine (mk_putTo _ p row c n q2 kd (d + 1) h2 2 k2 0 (ok_load _ (by omega)) (by omega)).mono ?_
      rintro e w3 ⟨rfl, c3, q3, r3, h3, L3⟩
      have a3 := L3.q; have b3 := L3.l
      have c4z := h3.c4
      have f4z := h3.f4
      clear cc4
      have hdd : d + 1 - 1 = d := by omega
      have HDD := Lib.hid hdd; clear hdd
      obtain ⟨hE, LE⟩ := h3.deep d
      go_wp2_with fail
      go_end0
      exact ⟨rfl, c3, q3, r3, by first | exact hE | simpa using hE, by first | exact (((((L0.trans L1).trans L2).trans L3).trans LE)).mono (by omega) | simpa using (((((L0.trans L1).trans L2).trans L3).trans LE)).mono (by omega)⟩
  · rw [e1] at hpk
    clear e1
    go_wp2_with fail
    refine (hpk _).mono ?_
    rintro e w' ⟨rfl, rfl⟩
    go_wp2_with fail
    refine (mk_next _ p row c n q1 kd (d + 1) h1 hn6 hnl (by omega)).mono ?_
    rintro e w2 ⟨v2, q2, rfl, hv2, h2, L2⟩
    have a2 := L2.q; have b2 := L2.l
    have t2 := rem1000 v2
    go_wp2_with fail
    refine (mk_putTo _ p row c n q2 kd (d + 1) h2 1 (v2.tmod 1000) 0 (ok_push _ (by omega)) (by omega)).mono ?_
    rintro e w3 ⟨rfl, c3, q3, r3, h3, L3⟩
    have a3 := L3.q; have b3 := L3.l
    have c4z := h3.c4
    have f4z := h3.f4
    clear cc4
    have hdd : d + 1 - 1 = d := by omega
    have HDD := Lib.hid hdd; clear hdd
    obtain ⟨hE, LE⟩ := h3.deep d
    go_wp2_with fail
    go_end0
    exact ⟨rfl, c3, q3, r3, by first | exact hE | simpa using hE, by first | exact (((((L0.trans L1).trans L2).trans L3).trans LE)).mono (by omega) | simpa using (((((L0.trans L1).trans L2).trans L3).trans LE)).mono (by omega)⟩
  · rw [e1] at hpk
    clear e1
    go_wp2_with fail
    refine (hpk _).mono ?_
    rintro e w' ⟨rfl, rfl⟩
    go_wp2_with fail
    refine (mk_local _ p row c n q1 kd (d + 1) h1 hn6 hnl (by omega) (by omega) (by omega) 2).mono ?_
    rintro e w2 ⟨k2, ok2, q2, rfl, hk2, h2, L2⟩
    have a2 := L2.q; have b2 := L2.l
    cases ok2
    · go_wp2_with fail
      refine (mk_putTo _ p row c n q2 kd (d + 1) h2 1 5 0 (ok_push _ (by omega)) (by omega)).mono ?_
      rintro e w3 ⟨rfl, c3, q3, r3, h3, L3⟩
      have a3 := L3.q; have b3 := L3.l
      have c4z := h3.c4
      have f4z := h3.f4
      clear cc4
      have hdd : d + 1 - 1 = d := by omega
      have HDD := Lib.hid hdd; clear hdd
      obtain ⟨hE, LE⟩ := h3.deep d
      go_wp2_with fail
      go_end0
      exact ⟨rfl, c3, q3, r3, by first | exact hE | simpa using hE, by first | exact (((((L0.trans L1).trans L2).trans L3).trans LE)).mono (by omega) | simpa using (((((L0.trans L1).trans L2).trans L3).trans LE)).mono (by omega)⟩
    · have hk2 := hk2.2 rfl
      go_wp2_with fail
      refine (mk_putTo _ p row c n q2 kd (d + 1) h2 2 k2 0 (ok_load _ (by omega)) (by omega)).mono ?_
      rintro e w3 ⟨rfl, c3, q3, r3, h3, L3⟩
      have a3 := L3.q; have b3 := L3.l
      have c4z := h3.c4
      have f4z := h3.f4
      clear cc4
      have hdd : d + 1 - 1 = d := by omega
      have HDD := Lib.hid hdd; clear hdd
      obtain ⟨hE, LE⟩ := h3.deep d
      go_wp2_with fail
      go_end0
      exact ⟨rfl, c3, q3, r3, by first | exact hE | simpa using hE, by first | exact (((((L0.trans L1).trans L2).trans L3).trans LE)).mono (by omega) | simpa using (((((L0.trans L1).trans L2).trans L3).trans LE)).mono (by omega)⟩
  · rw [e1] at hpk
    clear e1
    go_wp2_with fail
    refine (hpk _).mono ?_
    rintro e w' ⟨rfl, rfl⟩
    go_wp2_with fail
    refine (mk_next _ p row c n q1 kd (d + 1) h1 hn6 hnl (by omega)).mono ?_
    rintro e w2 ⟨v2, q2, rfl, hv2, h2, L2⟩
    have a2 := L2.q; have b2 := L2.l
    have t2 := rem1000 v2
    go_wp2_with fail
    refine (mk_putTo _ p row c n q2 kd (d + 1) h2 1 (v2.tmod 1000) 0 (ok_push _ (by omega)) (by omega)).mono ?_
    rintro e w3 ⟨rfl, c3, q3, r3, h3, L3⟩
    have a3 := L3.q; have b3 := L3.l
    have c4z := h3.c4
    have f4z := h3.f4
    clear cc4
    have hdd : d + 1 - 1 = d := by omega
    have HDD := Lib.hid hdd; clear hdd
    obtain ⟨hE, LE⟩ := h3.deep d
    go_wp2_with fail
    go_end0
    exact ⟨rfl, c3, q3, r3, by first | exact hE | simpa using hE, by first | exact (((((L0.trans L1).trans L2).trans L3).trans LE)).mono (by omega) | simpa using (((((L0.trans L1).trans L2).trans L3).trans LE)).mono (by omega)⟩
  · rw [e1] at hpk
    clear e1
    go_wp2_with fail
    refine (hpk _).mono ?_
    rintro e w' ⟨rfl, rfl⟩
    go_wp2_with fail
    refine (mk_local _ p row c n q1 kd (d + 1) h1 hn6 hnl (by omega) (by omega) (by omega) 2).mono ?_
    rintro e w2 ⟨k2, ok2, q2, rfl, hk2, h2, L2⟩
    have a2 := L2.q; have b2 := L2.l
    cases ok2
    · go_wp2_with fail
      refine (mk_putTo _ p row c n q2 kd (d + 1) h2 1 5 0 (ok_push _ (by omega)) (by omega)).mono ?_
      rintro e w3 ⟨rfl, c3, q3, r3, h3, L3⟩
      have a3 := L3.q; have b3 := L3.l
      have c4z := h3.c4
      have f4z := h3.f4
      clear cc4
      have hdd : d + 1 - 1 = d := by omega
      have HDD := Lib.hid hdd; clear hdd
      obtain ⟨hE, LE⟩ := h3.deep d
      go_wp2_with fail
      go_end0
      exact ⟨rfl, c3, q3, r3, by first | exact hE | simpa using hE, by first | exact (((((L0.trans L1).trans L2).trans L3).trans LE)).mono (by omega) | simpa using (((((L0.trans L1).trans L2).trans L3).trans LE)).mono (by omega)⟩
    · have hk2 := hk2.2 rfl
      go_wp2_with fail
      refine (mk_putTo _ p row c n q2 kd (d + 1) h2 2 k2 0 (ok_load _ (by omega)) (by omega)).mono ?_
      rintro e w3 ⟨rfl, c3, q3, r3, h3, L3⟩
      have a3 := L3.q; have b3 := L3.l
      have c4z := h3.c4
      have f4z := h3.f4
      clear cc4
      have hdd : d + 1 - 1 = d := by omega
      have HDD := Lib.hid hdd; clear hdd
      obtain ⟨hE, LE⟩ := h3.deep d
      go_wp2_with fail
      go_end0
      exact ⟨rfl, c3, q3, r3, by first | exact hE | simpa using hE, by first | exact (((((L0.trans L1).trans L2).trans L3).trans LE)).mono (by omega) | simpa using (((((L0.trans L1).trans L2).trans L3).trans LE)).mono (by omega)⟩
end Go.Proofs.YteebapopeaafhaaGreatDoor
namespace Go.Proofs.YteebapopeaafhaaGreatDoor
open Go.RowKit Go.Tcn
set_option linter.unusedVariables false
set_option linter.unusedSimpArgs false
set_option linter.unusedSectionVars false
variable [OkP]

set_option maxRecDepth 100000 in
set_option maxHeartbeats 16000000 in
theorem mk_sec_2 (w : World) (p row : Nat) (c : List Ins) (n : List Int) (q : Nat) (kd : List Int) (h : Mk 99 57 2 w p row c n q kd 2) (hn6 : I64s n) (hnl : n.length ≤ 9223372036854775807) (hq : q ≤ 780000) (hl : c.length ≤ 780000) (hkl : kd.length ≤ 10) :
    Calls Tryz.prog 96 #[.pointer (some ⟨p, 0, none⟩)] w fun e w' => e = .returned (.tuple #[]) ∧ MkTo 99 57 2 p row c n q kd 2 150 w w' := by
  go_enter Tryz.func96, Tryz.ntmps96
  have cc4 := h.c4
  have ff4 := h.f4
  obtain ⟨hD, L0⟩ := h.deep 3
  obtain ⟨V, hV⟩ : ∃ V, V = w.setCell ⟨p, 4, none⟩ (.int .i64 3) := ⟨_, rfl⟩
  rw [← hV] at hD L0
  go_upto_region 1 with fail
  rw [← hV]
  clear hV cc4 ff4
  have a0 := L0.q; have b0 := L0.l
  go_wp2_with fail
  refine (mk_next _ p row c n q kd 3 hD hn6 hnl (by omega)).mono ?_
  rintro e w1 ⟨v1, q1, rfl, hv1, h1, L1⟩
  have a1 := L1.q; have b1 := L1.l
  have cc4 := h1.c4
  have hpk := fun w => hand_Pick v1 9 hv1 (by omega) (by omega) w
  have hcs : v1 % 9 = 0 ∨ v1 % 9 = 1 ∨ v1 % 9 = 2 ∨ v1 % 9 = 3 ∨ v1 % 9 = 4 ∨ v1 % 9 = 5 ∨ v1 % 9 = 6 ∨ v1 % 9 = 7 ∨ v1 % 9 = 8 := by omega
  rcases hcs with e1 | e1 | e1 | e1 | e1 | e1 | e1 | e1 | e1
  · rw [e1] at hpk
    clear e1
    go_wp2_with fail
    refine (hpk _).mono ?_
    rintro e w' ⟨rfl, rfl⟩
    go_wp2_with fail
    refine (mk_local _ p row c n q1 kd 3 h1 hn6 hnl (by omega) (by omega) (by omega) 2).mono ?_
    rintro e w2 ⟨k2, ok2, q2, rfl, hk2, h2, L2⟩
    have a2 := L2.q; have b2 := L2.l
    cases ok2
    · go_wp2_with fail
      refine (mk_putTo _ p row c n q2 kd 3 h2 1 5 0 (ok_push _ (by omega)) (by omega)).mono ?_
      rintro e w3 ⟨rfl, c3, q3, r3, h3, L3⟩
      have a3 := L3.q; have b3 := L3.l
      have c4z := h3.c4
      have f4z := h3.f4
      clear cc4
      obtain ⟨hE, LE⟩ := h3.deep 2
      go_wp2_with fail
      go_end0
      exact ⟨rfl, c3, q3, r3, by first | exact hE | simpa using hE, by first | exact (((((L0.trans L1).trans L2).trans L3).trans LE)).mono (by omega) | simpa using (((((L0.trans L1).trans L2).trans L3).trans LE)).mono (by omega)⟩
    · have hk2 := hk2.2 rfl
      go_wp2_with fail
      refine (mk_putTo _ p row c n q2 kd 3 h2 2 k2 0 (ok_load _ (by omega)) (by omega)).mono ?_
      rintro e w3 ⟨rfl, c3, q3, r3, h3, L3⟩
      have a3 := L3.q; have b3 := L3.l
      have c4z := h3.c4
      have f4z := h3.f4
      clear cc4
      obtain ⟨hE, LE⟩ := h3.deep 2
      go_wp2_with fail
      go_end0
      exact ⟨rfl, c3, q3, r3, by first | exact hE | simpa using hE, by first | exact (((((L0.trans L1).trans L2).trans L3).trans LE)).mono (by omega) | simpa using (((((L0.trans L1).trans L2).trans L3).trans LE)).mono (by omega)⟩
  · rw [e1] at hpk
    clear e1
    go_wp2_with fail
    refine (hpk _).mono ?_
    rintro e w' ⟨rfl, rfl⟩
    go_wp2_with fail
    refine (mk_next _ p row c n q1 kd 3 h1 hn6 hnl (by omega)).mono ?_
    rintro e w2 ⟨v2, q2, rfl, hv2, h2, L2⟩
    have a2 := L2.q; have b2 := L2.l
    have t2 := rem1000 v2
    go_wp2_with fail
    refine (mk_putTo _ p row c n q2 kd 3 h2 1 (v2.tmod 1000) 0 (ok_push _ (by omega)) (by omega)).mono ?_
    rintro e w3 ⟨rfl, c3, q3, r3, h3, L3⟩
    have a3 := L3.q; have b3 := L3.l
    have c4z := h3.c4
    have f4z := h3.f4
    clear cc4
    obtain ⟨hE, LE⟩ := h3.deep 2
    go_wp2_with fail
    go_end0
    exact ⟨rfl, c3, q3, r3, by first | exact hE | simpa using hE, by first | exact (((((L0.trans L1).trans L2).trans L3).trans LE)).mono (by omega) | simpa using (((((L0.trans L1).trans L2).trans L3).trans LE)).mono (by omega)⟩
  · rw [e1] at hpk
    clear e1
    go_wp2_with fail
    refine (hpk _).mono ?_
    rintro e w' ⟨rfl, rfl⟩
    go_wp2_with fail
    refine (mk_sec_3 _ p row c n q1 kd 3 (by omega) h1 hn6 hnl (by omega) (by omega) hkl).mono ?_
    rintro e w2 ⟨rfl, c2, q2, r2, h2, L2⟩
    have a2 := L2.q; have b2 := L2.l
    go_wp2_with fail
    refine (mk_sec_3 _ p r2 c2 n q2 kd 3 (by omega) h2 hn6 hnl (by omega) (by omega) hkl).mono ?_
    rintro e w3 ⟨rfl, c3, q3, r3, h3, L3⟩
    have a3 := L3.q; have b3 := L3.l
    go_wp2_with fail
    refine (mk_next _ p r3 c3 n q3 kd 3 h3 hn6 hnl (by omega)).mono ?_
    rintro e w4 ⟨v4, q4, rfl, hv4, h4, L4⟩
    have a4 := L4.q; have b4 := L4.l
    obtain ⟨j4, hj4⟩ : ∃ j : Nat, v4 % 12 = (j : Int) := ⟨(v4 % 12).toNat, by omega⟩
    have jl4 : j4 < 12 := by omega
    obtain ⟨op4, ho4, hc4⟩ := h4.bins j4 jl4
    have hpj4 := fun w => hand_Pick v4 12 hv4 (by omega) (by omega) w
    rw [hj4] at hpj4
    clear hj4
    go_wp2_with fail
    refine (hpj4 _).mono ?_
    rintro e w' ⟨rfl, rfl⟩
    go_wp2_with fail
    refine (mk_putTo _ p r3 c3 n q4 kd 3 h4 op4 0 0 (ok_zero _ (by omega)) (by omega)).mono ?_
    rintro e w5 ⟨rfl, c5, q5, r5, h5, L5⟩
    have a5 := L5.q; have b5 := L5.l
    have c4z := h5.c4
    have f4z := h5.f4
    clear cc4
    obtain ⟨hE, LE⟩ := h5.deep 2
    go_wp2_with fail
    go_end0
    exact ⟨rfl, c5, q5, r5, by first | exact hE | simpa using hE, by first | exact (((((((L0.trans L1).trans L2).trans L3).trans L4).trans L5).trans LE)).mono (by omega) | simpa using (((((((L0.trans L1).trans L2).trans L3).trans L4).trans L5).trans LE)).mono (by omega)⟩
  · rw [e1] at hpk
    clear e1
    go_wp2_with fail
    refine (hpk _).mono ?_
    rintro e w' ⟨rfl, rfl⟩
    go_wp2_with fail
    refine (mk_sec_3 _ p row c n q1 kd 3 (by omega) h1 hn6 hnl (by omega) (by omega) hkl).mono ?_
    rintro e w2 ⟨rfl, c2, q2, r2, h2, L2⟩
    have a2 := L2.q; have b2 := L2.l
    go_wp2_with fail
    refine (mk_sec_3 _ p r2 c2 n q2 kd 3 (by omega) h2 hn6 hnl (by omega) (by omega) hkl).mono ?_
    rintro e w3 ⟨rfl, c3, q3, r3, h3, L3⟩
    have a3 := L3.q; have b3 := L3.l
    go_wp2_with fail
    refine (mk_next _ p r3 c3 n q3 kd 3 h3 hn6 hnl (by omega)).mono ?_
    rintro e w4 ⟨v4, q4, rfl, hv4, h4, L4⟩
    have a4 := L4.q; have b4 := L4.l
    obtain ⟨j4, hj4⟩ : ∃ j : Nat, v4 % 12 = (j : Int) := ⟨(v4 % 12).toNat, by omega⟩
    have jl4 : j4 < 12 := by omega
    obtain ⟨op4, ho4, hc4⟩ := h4.bins j4 jl4
    have hpj4 := fun w => hand_Pick v4 12 hv4 (by omega) (by omega) w
    rw [hj4] at hpj4
    clear hj4
    go_wp2_with fail
    refine (hpj4 _).mono ?_
    rintro e w' ⟨rfl, rfl⟩
    go_wp2_with fail
    refine (mk_putTo _ p r3 c3 n q4 kd 3 h4 op4 0 0 (ok_zero _ (by omega)) (by omega)).mono ?_
    rintro e w5 ⟨rfl, c5, q5, r5, h5, L5⟩
    have a5 := L5.q; have b5 := L5.l
    have c4z := h5.c4
    have f4z := h5.f4
    clear cc4
    obtain ⟨hE, LE⟩ := h5.deep 2
    go_wp2_with fail
    go_end0
    exact ⟨rfl, c5, q5, r5, by first | exact hE | simpa using hE, by first | exact (((((((L0.trans L1).trans L2).trans L3).trans L4).trans L5).trans LE)).mono (by omega) | simpa using (((((((L0.trans L1).trans L2).trans L3).trans L4).trans L5).trans LE)).mono (by omega)⟩
  · rw [e1] at hpk
    clear e1
    go_wp2_with fail
    refine (hpk _).mono ?_
    rintro e w' ⟨rfl, rfl⟩
    go_wp2_with fail
    refine (mk_arr _ p row c n q1 kd 3 h1 hn6 hnl (by omega) (by omega) hkl 4 (by omega)).mono ?_
    rintro e w2 ⟨rfl, c2, q2, r2, h2, L2⟩
    have a2 := L2.q; have b2 := L2.l
    go_wp2_with fail
    refine (mk_index_3 _ p r2 c2 n q2 kd 3 (by omega) h2 hn6 hnl (by omega) (by omega) hkl).mono ?_
    rintro e w3 ⟨rfl, c3, q3, r3, h3, L3⟩
    have a3 := L3.q; have b3 := L3.l
    go_wp2_with fail
    refine (mk_putTo _ p r3 c3 n q3 kd 3 h3 29 0 0 (ok_zero _ (by omega)) (by omega)).mono ?_
    rintro e w4 ⟨rfl, c4, q4, r4, h4, L4⟩
    have a4 := L4.q; have b4 := L4.l
    have c4z := h4.c4
    have f4z := h4.f4
    clear cc4
    obtain ⟨hE, LE⟩ := h4.deep 2
    go_wp2_with fail
    go_end0
    exact ⟨rfl, c4, q4, r4, by first | exact hE | simpa using hE, by first | exact ((((((L0.trans L1).trans L2).trans L3).trans L4).trans LE)).mono (by omega) | simpa using ((((((L0.trans L1).trans L2).trans L3).trans L4).trans LE)).mono (by omega)⟩
  · rw [e1] at hpk
    clear e1
    go_wp2_with fail
    refine (hpk _).mono ?_
    rintro e w' ⟨rfl, rfl⟩
    go_wp2_with fail
    refine (mk_arr _ p row c n q1 kd 3 h1 hn6 hnl (by omega) (by omega) hkl 4 (by omega)).mono ?_
    rintro e w2 ⟨rfl, c2, q2, r2, h2, L2⟩
    have a2 := L2.q; have b2 := L2.l
    go_wp2_with fail
    refine (mk_index_3 _ p r2 c2 n q2 kd 3 (by omega) h2 hn6 hnl (by omega) (by omega) hkl).mono ?_
    rintro e w3 ⟨rfl, c3, q3, r3, h3, L3⟩
    have a3 := L3.q; have b3 := L3.l
    go_wp2_with fail
    refine (mk_putTo _ p r3 c3 n q3 kd 3 h3 29 0 0 (ok_zero _ (by omega)) (by omega)).mono ?_
    rintro e w4 ⟨rfl, c4, q4, r4, h4, L4⟩
    have a4 := L4.q; have b4 := L4.l
    have c4z := h4.c4
    have f4z := h4.f4
    clear cc4
    obtain ⟨hE, LE⟩ := h4.deep 2
    go_wp2_with fail
    go_end0
    exact ⟨rfl, c4, q4, r4, by first | exact hE | simpa using hE, by first | exact ((((((L0.trans L1).trans L2).trans L3).trans L4).trans LE)).mono (by omega) | simpa using ((((((L0.trans L1).trans L2).trans L3).trans L4).trans LE)).mono (by omega)⟩
  · rw [e1] at hpk
    clear e1
    go_wp2_with fail
    refine (hpk _).mono ?_
    rintro e w' ⟨rfl, rfl⟩
    go_wp2_with fail
    refine (mk_sec_3 _ p row c n q1 kd 3 (by omega) h1 hn6 hnl (by omega) (by omega) hkl).mono ?_
    rintro e w2 ⟨rfl, c2, q2, r2, h2, L2⟩
    have a2 := L2.q; have b2 := L2.l
    go_wp2_with fail
    refine (mk_sec_3 _ p r2 c2 n q2 kd 3 (by omega) h2 hn6 hnl (by omega) (by omega) hkl).mono ?_
    rintro e w3 ⟨rfl, c3, q3, r3, h3, L3⟩
    have a3 := L3.q; have b3 := L3.l
    go_wp2_with fail
    refine (mk_sec_3 _ p r3 c3 n q3 kd 3 (by omega) h3 hn6 hnl (by omega) (by omega) hkl).mono ?_
    rintro e w4 ⟨rfl, c4, q4, r4, h4, L4⟩
    have a4 := L4.q; have b4 := L4.l
    go_wp2_with fail
    refine (mk_putTo _ p r4 c4 n q4 kd 3 h4 22 0 0 (ok_zero _ (by omega)) (by omega)).mono ?_
    rintro e w5 ⟨rfl, c5, q5, r5, h5, L5⟩
    have a5 := L5.q; have b5 := L5.l
    have c4z := h5.c4
    have f4z := h5.f4
    clear cc4
    obtain ⟨hE, LE⟩ := h5.deep 2
    go_wp2_with fail
    go_end0
    exact ⟨rfl, c5, q5, r5, by first | exact hE | simpa using hE, by first | exact (((((((L0.trans L1).trans L2).trans L3).trans L4).trans L5).trans LE)).mono (by omega) | simpa using (((((((L0.trans L1).trans L2).trans L3).trans L4).trans L5).trans LE)).mono (by omega)⟩
  · rw [e1] at hpk
    clear e1
    go_wp2_with fail
    refine (hpk _).mono ?_
    rintro e w' ⟨rfl, rfl⟩
    go_wp2_with fail
    refine (mk_arr _ p row c n q1 kd 3 h1 hn6 hnl (by omega) (by omega) hkl 4 (by omega)).mono ?_
    rintro e w2 ⟨rfl, c2, q2, r2, h2, L2⟩
    have a2 := L2.q; have b2 := L2.l
    go_wp2_with fail
    refine (mk_index_3 _ p r2 c2 n q2 kd 3 (by omega) h2 hn6 hnl (by omega) (by omega) hkl).mono ?_
    rintro e w3 ⟨rfl, c3, q3, r3, h3, L3⟩
    have a3 := L3.q; have b3 := L3.l
    go_wp2_with fail
    refine (mk_next _ p r3 c3 n q3 kd 3 h3 hn6 hnl (by omega)).mono ?_
    rintro e w4 ⟨v4, q4, rfl, hv4, h4, L4⟩
    have a4 := L4.q; have b4 := L4.l
    go_wp2_with fail
    refine (hand_Pick v4 2 hv4 (by omega) (by omega) _).mono ?_
    rintro e w' ⟨rfl, rfl⟩
    have m4 : 0 ≤ v4 % 2 ∧ v4 % 2 < 2 := by omega
    go_wp2_with fail
    refine (mk_arr _ p r3 c3 n q4 kd 3 h4 hn6 hnl (by omega) (by omega) hkl (3 + (v4 % 2)) (by omega)).mono ?_
    rintro e w5 ⟨rfl, c5, q5, r5, h5, L5⟩
    have a5 := L5.q; have b5 := L5.l
    go_wp2_with fail
    refine (mk_index_3 _ p r5 c5 n q5 kd 3 (by omega) h5 hn6 hnl (by omega) (by omega) hkl).mono ?_
    rintro e w6 ⟨rfl, c6, q6, r6, h6, L6⟩
    have a6 := L6.q; have b6 := L6.l
    go_wp2_with fail
    refine (mk_index_3 _ p r6 c6 n q6 kd 3 (by omega) h6 hn6 hnl (by omega) (by omega) hkl).mono ?_
    rintro e w7 ⟨rfl, c7, q7, r7, h7, L7⟩
    have a7 := L7.q; have b7 := L7.l
    go_wp2_with fail
    refine (mk_putTo _ p r7 c7 n q7 kd 3 h7 32 0 0 (ok_zero _ (by omega)) (by omega)).mono ?_
    rintro e w8 ⟨rfl, c8, q8, r8, h8, L8⟩
    have a8 := L8.q; have b8 := L8.l
    have c4z := h8.c4
    have f4z := h8.f4
    clear cc4
    obtain ⟨hE, LE⟩ := h8.deep 2
    go_wp2_with fail
    go_end0
    exact ⟨rfl, c8, q8, r8, by first | exact hE | simpa using hE, by first | exact ((((((((((L0.trans L1).trans L2).trans L3).trans L4).trans L5).trans L6).trans L7).trans L8).trans LE)).mono (by omega) | simpa using ((((((((((L0.trans L1).trans L2).trans L3).trans L4).trans L5).trans L6).trans L7).trans L8).trans LE)).mono (by omega)⟩
  · rw [e1] at hpk
    clear e1
    go_wp2_with fail
    refine (hpk _).mono ?_
    rintro e w' ⟨rfl, rfl⟩
    go_wp2_with fail
    refine (mk_putTo _ p row c n q1 kd 3 h1 33 1 0 (ok_getf _ (by omega)) (by omega)).mono ?_
    rintro e w2 ⟨rfl, c2, q2, r2, h2, L2⟩
    have a2 := L2.q; have b2 := L2.l
    have c4z := h2.c4
    have f4z := h2.f4
    clear cc4
    obtain ⟨hE, LE⟩ := h2.deep 2
    go_wp2_with fail
    go_end0
    exact ⟨rfl, c2, q2, r2, by first | exact hE | simpa using hE, by first | exact ((((L0.trans L1).trans L2).trans LE)).mono (by omega) | simpa using ((((L0.trans L1).trans L2).trans LE)).mono (by omega)⟩
end Go.Proofs.YteebapopeaafhaaGreatDoor
namespace Go.Proofs.YteebapopeaafhaaGreatDoor
open Go.RowKit Go.Tcn
set_option linter.unusedVariables false
set_option linter.unusedSimpArgs false
set_option linter.unusedSectionVars false
variable [OkP]

set_option maxRecDepth 100000 in
set_option maxHeartbeats 16000000 in
theorem mk_sec_1 (w : World) (p row : Nat) (c : List Ins) (n : List Int) (q : Nat) (kd : List Int) (h : Mk 99 57 2 w p row c n q kd 1) (hn6 : I64s n) (hnl : n.length ≤ 9223372036854775807) (hq : q ≤ 760000) (hl : c.length ≤ 760000) (hkl : kd.length ≤ 10) :
    Calls Tryz.prog 96 #[.pointer (some ⟨p, 0, none⟩)] w fun e w' => e = .returned (.tuple #[]) ∧ MkTo 99 57 2 p row c n q kd 1 620 w w' := by
  go_enter Tryz.func96, Tryz.ntmps96
  have cc4 := h.c4
  have ff4 := h.f4
  obtain ⟨hD, L0⟩ := h.deep 2
  obtain ⟨V, hV⟩ : ∃ V, V = w.setCell ⟨p, 4, none⟩ (.int .i64 2) := ⟨_, rfl⟩
  rw [← hV] at hD L0
  go_upto_region 1 with fail
  rw [← hV]
  clear hV cc4 ff4
  have a0 := L0.q; have b0 := L0.l
  go_wp2_with fail
  refine (mk_next _ p row c n q kd 2 hD hn6 hnl (by omega)).mono ?_
  rintro e w1 ⟨v1, q1, rfl, hv1, h1, L1⟩
  have a1 := L1.q; have b1 := L1.l
  have cc4 := h1.c4
  have hpk := fun w => hand_Pick v1 9 hv1 (by omega) (by omega) w
  have hcs : v1 % 9 = 0 ∨ v1 % 9 = 1 ∨ v1 % 9 = 2 ∨ v1 % 9 = 3 ∨ v1 % 9 = 4 ∨ v1 % 9 = 5 ∨ v1 % 9 = 6 ∨ v1 % 9 = 7 ∨ v1 % 9 = 8 := by omega
  rcases hcs with e1 | e1 | e1 | e1 | e1 | e1 | e1 | e1 | e1
  · rw [e1] at hpk
    clear e1
    go_wp2_with fail
    refine (hpk _).mono ?_
    rintro e w' ⟨rfl, rfl⟩
    go_wp2_with fail
    refine (mk_local _ p row c n q1 kd 2 h1 hn6 hnl (by omega) (by omega) (by omega) 2).mono ?_
    rintro e w2 ⟨k2, ok2, q2, rfl, hk2, h2, L2⟩
    have a2 := L2.q; have b2 := L2.l
    cases ok2
    · go_wp2_with fail
      refine (mk_putTo _ p row c n q2 kd 2 h2 1 5 0 (ok_push _ (by omega)) (by omega)).mono ?_
      rintro e w3 ⟨rfl, c3, q3, r3, h3, L3⟩
      have a3 := L3.q; have b3 := L3.l
      have c4z := h3.c4
      have f4z := h3.f4
      clear cc4
      obtain ⟨hE, LE⟩ := h3.deep 1
      go_wp2_with fail
      go_end0
      exact ⟨rfl, c3, q3, r3, by first | exact hE | simpa using hE, by first | exact (((((L0.trans L1).trans L2).trans L3).trans LE)).mono (by omega) | simpa using (((((L0.trans L1).trans L2).trans L3).trans LE)).mono (by omega)⟩
    · have hk2 := hk2.2 rfl
      go_wp2_with fail
      refine (mk_putTo _ p row c n q2 kd 2 h2 2 k2 0 (ok_load _ (by omega)) (by omega)).mono ?_
      rintro e w3 ⟨rfl, c3, q3, r3, h3, L3⟩
      have a3 := L3.q; have b3 := L3.l
      have c4z := h3.c4
      have f4z := h3.f4
      clear cc4
      obtain ⟨hE, LE⟩ := h3.deep 1
      go_wp2_with fail
      go_end0
      exact ⟨rfl, c3, q3, r3, by first | exact hE | simpa using hE, by first | exact (((((L0.trans L1).trans L2).trans L3).trans LE)).mono (by omega) | simpa using (((((L0.trans L1).trans L2).trans L3).trans LE)).mono (by omega)⟩
  · rw [e1] at hpk
    clear e1
    go_wp2_with fail
    refine (hpk _).mono ?_
    rintro e w' ⟨rfl, rfl⟩
    go_wp2_with fail
    refine (mk_next _ p row c n q1 kd 2 h1 hn6 hnl (by omega)).mono ?_
    rintro e w2 ⟨v2, q2, rfl, hv2, h2, L2⟩
    have a2 := L2.q; have b2 := L2.l
    have t2 := rem1000 v2
    go_wp2_with fail
    refine (mk_putTo _ p row c n q2 kd 2 h2 1 (v2.tmod 1000) 0 (ok_push _ (by omega)) (by omega)).mono ?_
    rintro e w3 ⟨rfl, c3, q3, r3, h3, L3⟩
    have a3 := L3.q; have b3 := L3.l
    have c4z := h3.c4
    have f4z := h3.f4
    clear cc4
    obtain ⟨hE, LE⟩ := h3.deep 1
    go_wp2_with fail
    go_end0
    exact ⟨rfl, c3, q3, r3, by first | exact hE | simpa using hE, by first | exact (((((L0.trans L1).trans L2).trans L3).trans LE)).mono (by omega) | simpa using (((((L0.trans L1).trans L2).trans L3).trans LE)).mono (by omega)⟩
  · rw [e1] at hpk
    clear e1
    go_wp2_with fail
    refine (hpk _).mono ?_
    rintro e w' ⟨rfl, rfl⟩
    go_wp2_with fail
    refine (mk_sec_2 _ p row c n q1 kd h1 hn6 hnl (by omega) (by omega) hkl).mono ?_
    rintro e w2 ⟨rfl, c2, q2, r2, h2, L2⟩
    have a2 := L2.q; have b2 := L2.l
    go_wp2_with fail
    refine (mk_sec_2 _ p r2 c2 n q2 kd h2 hn6 hnl (by omega) (by omega) hkl).mono ?_
    rintro e w3 ⟨rfl, c3, q3, r3, h3, L3⟩
    have a3 := L3.q; have b3 := L3.l
    go_wp2_with fail
    refine (mk_next _ p r3 c3 n q3 kd 2 h3 hn6 hnl (by omega)).mono ?_
    rintro e w4 ⟨v4, q4, rfl, hv4, h4, L4⟩
    have a4 := L4.q; have b4 := L4.l
    obtain ⟨j4, hj4⟩ : ∃ j : Nat, v4 % 12 = (j : Int) := ⟨(v4 % 12).toNat, by omega⟩
    have jl4 : j4 < 12 := by omega
    obtain ⟨op4, ho4, hc4⟩ := h4.bins j4 jl4
    have hpj4 := fun w => hand_Pick v4 12 hv4 (by omega) (by omega) w
    rw [hj4] at hpj4
    clear hj4
    go_wp2_with fail
    refine (hpj4 _).mono ?_
    rintro e w' ⟨rfl, rfl⟩
    go_wp2_with fail
    refine (mk_putTo _ p r3 c3 n q4 kd 2 h4 op4 0 0 (ok_zero _ (by omega)) (by omega)).mono ?_
    rintro e w5 ⟨rfl, c5, q5, r5, h5, L5⟩
    have a5 := L5.q; have b5 := L5.l
    have c4z := h5.c4
    have f4z := h5.f4
    clear cc4
    obtain ⟨hE, LE⟩ := h5.deep 1
    go_wp2_with fail
    go_end0
    exact ⟨rfl, c5, q5, r5, by first | exact hE | simpa using hE, by first | exact (((((((L0.trans L1).trans L2).trans L3).trans L4).trans L5).trans LE)).mono (by omega) | simpa using (((((((L0.trans L1).trans L2).trans L3).trans L4).trans L5).trans LE)).mono (by omega)⟩
  · rw [e1] at hpk
    clear e1
    go_wp2_with fail
    refine (hpk _).mono ?_
    rintro e w' ⟨rfl, rfl⟩
    go_wp2_with fail
    refine (mk_sec_2 _ p row c n q1 kd h1 hn6 hnl (by omega) (by omega) hkl).mono ?_
    rintro e w2 ⟨rfl, c2, q2, r2, h2, L2⟩
    have a2 := L2.q; have b2 := L2.l
    go_wp2_with fail
    refine (mk_sec_2 _ p r2 c2 n q2 kd h2 hn6 hnl (by omega) (by omega) hkl).mono ?_
    rintro e w3 ⟨rfl, c3, q3, r3, h3, L3⟩
    have a3 := L3.q; have b3 := L3.l
    go_wp2_with fail
    refine (mk_next _ p r3 c3 n q3 kd 2 h3 hn6 hnl (by omega)).mono ?_
    rintro e w4 ⟨v4, q4, rfl, hv4, h4, L4⟩
    have a4 := L4.q; have b4 := L4.l
    obtain ⟨j4, hj4⟩ : ∃ j : Nat, v4 % 12 = (j : Int) := ⟨(v4 % 12).toNat, by omega⟩
    have jl4 : j4 < 12 := by omega
    obtain ⟨op4, ho4, hc4⟩ := h4.bins j4 jl4
    have hpj4 := fun w => hand_Pick v4 12 hv4 (by omega) (by omega) w
    rw [hj4] at hpj4
    clear hj4
    go_wp2_with fail
    refine (hpj4 _).mono ?_
    rintro e w' ⟨rfl, rfl⟩
    go_wp2_with fail
    refine (mk_putTo _ p r3 c3 n q4 kd 2 h4 op4 0 0 (ok_zero _ (by omega)) (by omega)).mono ?_
    rintro e w5 ⟨rfl, c5, q5, r5, h5, L5⟩
    have a5 := L5.q; have b5 := L5.l
    have c4z := h5.c4
    have f4z := h5.f4
    clear cc4
    obtain ⟨hE, LE⟩ := h5.deep 1
    go_wp2_with fail
    go_end0
    exact ⟨rfl, c5, q5, r5, by first | exact hE | simpa using hE, by first | exact (((((((L0.trans L1).trans L2).trans L3).trans L4).trans L5).trans LE)).mono (by omega) | simpa using (((((((L0.trans L1).trans L2).trans L3).trans L4).trans L5).trans LE)).mono (by omega)⟩
  · rw [e1] at hpk
    clear e1
    go_wp2_with fail
    refine (hpk _).mono ?_
    rintro e w' ⟨rfl, rfl⟩
    go_wp2_with fail
    refine (mk_arr _ p row c n q1 kd 2 h1 hn6 hnl (by omega) (by omega) hkl 4 (by omega)).mono ?_
    rintro e w2 ⟨rfl, c2, q2, r2, h2, L2⟩
    have a2 := L2.q; have b2 := L2.l
    go_wp2_with fail
    refine (mk_index_2 _ p r2 c2 n q2 kd h2 hn6 hnl (by omega) (by omega) hkl).mono ?_
    rintro e w3 ⟨rfl, c3, q3, r3, h3, L3⟩
    have a3 := L3.q; have b3 := L3.l
    go_wp2_with fail
    refine (mk_putTo _ p r3 c3 n q3 kd 2 h3 29 0 0 (ok_zero _ (by omega)) (by omega)).mono ?_
    rintro e w4 ⟨rfl, c4, q4, r4, h4, L4⟩
    have a4 := L4.q; have b4 := L4.l
    have c4z := h4.c4
    have f4z := h4.f4
    clear cc4
    obtain ⟨hE, LE⟩ := h4.deep 1
    go_wp2_with fail
    go_end0
    exact ⟨rfl, c4, q4, r4, by first | exact hE | simpa using hE, by first | exact ((((((L0.trans L1).trans L2).trans L3).trans L4).trans LE)).mono (by omega) | simpa using ((((((L0.trans L1).trans L2).trans L3).trans L4).trans LE)).mono (by omega)⟩
  · rw [e1] at hpk
    clear e1
    go_wp2_with fail
    refine (hpk _).mono ?_
    rintro e w' ⟨rfl, rfl⟩
    go_wp2_with fail
    refine (mk_arr _ p row c n q1 kd 2 h1 hn6 hnl (by omega) (by omega) hkl 4 (by omega)).mono ?_
    rintro e w2 ⟨rfl, c2, q2, r2, h2, L2⟩
    have a2 := L2.q; have b2 := L2.l
    go_wp2_with fail
    refine (mk_index_2 _ p r2 c2 n q2 kd h2 hn6 hnl (by omega) (by omega) hkl).mono ?_
    rintro e w3 ⟨rfl, c3, q3, r3, h3, L3⟩
    have a3 := L3.q; have b3 := L3.l
    go_wp2_with fail
    refine (mk_putTo _ p r3 c3 n q3 kd 2 h3 29 0 0 (ok_zero _ (by omega)) (by omega)).mono ?_
    rintro e w4 ⟨rfl, c4, q4, r4, h4, L4⟩
    have a4 := L4.q; have b4 := L4.l
    have c4z := h4.c4
    have f4z := h4.f4
    clear cc4
    obtain ⟨hE, LE⟩ := h4.deep 1
    go_wp2_with fail
    go_end0
    exact ⟨rfl, c4, q4, r4, by first | exact hE | simpa using hE, by first | exact ((((((L0.trans L1).trans L2).trans L3).trans L4).trans LE)).mono (by omega) | simpa using ((((((L0.trans L1).trans L2).trans L3).trans L4).trans LE)).mono (by omega)⟩
  · rw [e1] at hpk
    clear e1
    go_wp2_with fail
    refine (hpk _).mono ?_
    rintro e w' ⟨rfl, rfl⟩
    go_wp2_with fail
    refine (mk_sec_2 _ p row c n q1 kd h1 hn6 hnl (by omega) (by omega) hkl).mono ?_
    rintro e w2 ⟨rfl, c2, q2, r2, h2, L2⟩
    have a2 := L2.q; have b2 := L2.l
    go_wp2_with fail
    refine (mk_sec_2 _ p r2 c2 n q2 kd h2 hn6 hnl (by omega) (by omega) hkl).mono ?_
    rintro e w3 ⟨rfl, c3, q3, r3, h3, L3⟩
    have a3 := L3.q; have b3 := L3.l
    go_wp2_with fail
    refine (mk_sec_2 _ p r3 c3 n q3 kd h3 hn6 hnl (by omega) (by omega) hkl).mono ?_
    rintro e w4 ⟨rfl, c4, q4, r4, h4, L4⟩
    have a4 := L4.q; have b4 := L4.l
    go_wp2_with fail
    refine (mk_putTo _ p r4 c4 n q4 kd 2 h4 22 0 0 (ok_zero _ (by omega)) (by omega)).mono ?_
    rintro e w5 ⟨rfl, c5, q5, r5, h5, L5⟩
    have a5 := L5.q; have b5 := L5.l
    have c4z := h5.c4
    have f4z := h5.f4
    clear cc4
    obtain ⟨hE, LE⟩ := h5.deep 1
    go_wp2_with fail
    go_end0
    exact ⟨rfl, c5, q5, r5, by first | exact hE | simpa using hE, by first | exact (((((((L0.trans L1).trans L2).trans L3).trans L4).trans L5).trans LE)).mono (by omega) | simpa using (((((((L0.trans L1).trans L2).trans L3).trans L4).trans L5).trans LE)).mono (by omega)⟩
  · rw [e1] at hpk
    clear e1
    go_wp2_with fail
    refine (hpk _).mono ?_
    rintro e w' ⟨rfl, rfl⟩
    go_wp2_with fail
    refine (mk_arr _ p row c n q1 kd 2 h1 hn6 hnl (by omega) (by omega) hkl 4 (by omega)).mono ?_
    rintro e w2 ⟨rfl, c2, q2, r2, h2, L2⟩
    have a2 := L2.q; have b2 := L2.l
    go_wp2_with fail
    refine (mk_index_2 _ p r2 c2 n q2 kd h2 hn6 hnl (by omega) (by omega) hkl).mono ?_
    rintro e w3 ⟨rfl, c3, q3, r3, h3, L3⟩
    have a3 := L3.q; have b3 := L3.l
    go_wp2_with fail
    refine (mk_next _ p r3 c3 n q3 kd 2 h3 hn6 hnl (by omega)).mono ?_
    rintro e w4 ⟨v4, q4, rfl, hv4, h4, L4⟩
    have a4 := L4.q; have b4 := L4.l
    go_wp2_with fail
    refine (hand_Pick v4 2 hv4 (by omega) (by omega) _).mono ?_
    rintro e w' ⟨rfl, rfl⟩
    have m4 : 0 ≤ v4 % 2 ∧ v4 % 2 < 2 := by omega
    go_wp2_with fail
    refine (mk_arr _ p r3 c3 n q4 kd 2 h4 hn6 hnl (by omega) (by omega) hkl (3 + (v4 % 2)) (by omega)).mono ?_
    rintro e w5 ⟨rfl, c5, q5, r5, h5, L5⟩
    have a5 := L5.q; have b5 := L5.l
    go_wp2_with fail
    refine (mk_index_2 _ p r5 c5 n q5 kd h5 hn6 hnl (by omega) (by omega) hkl).mono ?_
    rintro e w6 ⟨rfl, c6, q6, r6, h6, L6⟩
    have a6 := L6.q; have b6 := L6.l
    go_wp2_with fail
    refine (mk_index_2 _ p r6 c6 n q6 kd h6 hn6 hnl (by omega) (by omega) hkl).mono ?_
    rintro e w7 ⟨rfl, c7, q7, r7, h7, L7⟩
    have a7 := L7.q; have b7 := L7.l
    go_wp2_with fail
    refine (mk_putTo _ p r7 c7 n q7 kd 2 h7 32 0 0 (ok_zero _ (by omega)) (by omega)).mono ?_
    rintro e w8 ⟨rfl, c8, q8, r8, h8, L8⟩
    have a8 := L8.q; have b8 := L8.l
    have c4z := h8.c4
    have f4z := h8.f4
    clear cc4
    obtain ⟨hE, LE⟩ := h8.deep 1
    go_wp2_with fail
    go_end0
    exact ⟨rfl, c8, q8, r8, by first | exact hE | simpa using hE, by first | exact ((((((((((L0.trans L1).trans L2).trans L3).trans L4).trans L5).trans L6).trans L7).trans L8).trans LE)).mono (by omega) | simpa using ((((((((((L0.trans L1).trans L2).trans L3).trans L4).trans L5).trans L6).trans L7).trans L8).trans LE)).mono (by omega)⟩
  · rw [e1] at hpk
    clear e1
    go_wp2_with fail
    refine (hpk _).mono ?_
    rintro e w' ⟨rfl, rfl⟩
    go_wp2_with fail
    refine (mk_putTo _ p row c n q1 kd 2 h1 33 1 0 (ok_getf _ (by omega)) (by omega)).mono ?_
    rintro e w2 ⟨rfl, c2, q2, r2, h2, L2⟩
    have a2 := L2.q; have b2 := L2.l
    have c4z := h2.c4
    have f4z := h2.f4
    clear cc4
    obtain ⟨hE, LE⟩ := h2.deep 1
    go_wp2_with fail
    go_end0
    exact ⟨rfl, c2, q2, r2, by first | exact hE | simpa using hE, by first | exact ((((L0.trans L1).trans L2).trans LE)).mono (by omega) | simpa using ((((L0.trans L1).trans L2).trans LE)).mono (by omega)⟩
end Go.Proofs.YteebapopeaafhaaGreatDoor
namespace Go.Proofs.YteebapopeaafhaaGreatDoor
open Go.RowKit Go.Tcn
set_option linter.unusedVariables false
set_option linter.unusedSimpArgs false
set_option linter.unusedSectionVars false
variable [OkP]

set_option maxRecDepth 100000 in
set_option maxHeartbeats 16000000 in
theorem mk_sec_0 (w : World) (p row : Nat) (c : List Ins) (n : List Int) (q : Nat) (kd : List Int) (h : Mk 99 57 2 w p row c n q kd 0) (hn6 : I64s n) (hnl : n.length ≤ 9223372036854775807) (hq : q ≤ 740000) (hl : c.length ≤ 740000) (hkl : kd.length ≤ 10) :
    Calls Tryz.prog 96 #[.pointer (some ⟨p, 0, none⟩)] w fun e w' => e = .returned (.tuple #[]) ∧ MkTo 99 57 2 p row c n q kd 0 2200 w w' := by
  go_enter Tryz.func96, Tryz.ntmps96
  have cc4 := h.c4
  have ff4 := h.f4
  obtain ⟨hD, L0⟩ := h.deep 1
  obtain ⟨V, hV⟩ : ∃ V, V = w.setCell ⟨p, 4, none⟩ (.int .i64 1) := ⟨_, rfl⟩
  rw [← hV] at hD L0
  go_upto_region 1 with fail
  rw [← hV]
  clear hV cc4 ff4
  have a0 := L0.q; have b0 := L0.l
  go_wp2_with fail
  refine (mk_next _ p row c n q kd 1 hD hn6 hnl (by omega)).mono ?_
  rintro e w1 ⟨v1, q1, rfl, hv1, h1, L1⟩
  have a1 := L1.q; have b1 := L1.l
  have cc4 := h1.c4
  have hpk := fun w => hand_Pick v1 9 hv1 (by omega) (by omega) w
  have hcs : v1 % 9 = 0 ∨ v1 % 9 = 1 ∨ v1 % 9 = 2 ∨ v1 % 9 = 3 ∨ v1 % 9 = 4 ∨ v1 % 9 = 5 ∨ v1 % 9 = 6 ∨ v1 % 9 = 7 ∨ v1 % 9 = 8 := by omega
  rcases hcs with e1 | e1 | e1 | e1 | e1 | e1 | e1 | e1 | e1
  · rw [e1] at hpk
    clear e1
    go_wp2_with fail
    refine (hpk _).mono ?_
    rintro e w' ⟨rfl, rfl⟩
    go_wp2_with fail
    refine (mk_local _ p row c n q1 kd 1 h1 hn6 hnl (by omega) (by omega) (by omega) 2).mono ?_
    rintro e w2 ⟨k2, ok2, q2, rfl, hk2, h2, L2⟩
    have a2 := L2.q; have b2 := L2.l
    cases ok2
    · go_wp2_with fail
      refine (mk_putTo _ p row c n q2 kd 1 h2 1 5 0 (ok_push _ (by omega)) (by omega)).mono ?_
      rintro e w3 ⟨rfl, c3, q3, r3, h3, L3⟩
      have a3 := L3.q; have b3 := L3.l
      have c4z := h3.c4
      have f4z := h3.f4
      clear cc4
      obtain ⟨hE, LE⟩ := h3.deep 0
      go_wp2_with fail
      go_end0
      exact ⟨rfl, c3, q3, r3, by first | exact hE | simpa using hE, by first | exact (((((L0.trans L1).trans L2).trans L3).trans LE)).mono (by omega) | simpa using (((((L0.trans L1).trans L2).trans L3).trans LE)).mono (by omega)⟩
    · have hk2 := hk2.2 rfl
      go_wp2_with fail
      refine (mk_putTo _ p row c n q2 kd 1 h2 2 k2 0 (ok_load _ (by omega)) (by omega)).mono ?_
      rintro e w3 ⟨rfl, c3, q3, r3, h3, L3⟩
      have a3 := L3.q; have b3 := L3.l
      have c4z := h3.c4
      have f4z := h3.f4
      clear cc4
      obtain ⟨hE, LE⟩ := h3.deep 0
      go_wp2_with fail
      go_end0
      exact ⟨rfl, c3, q3, r3, by first | exact hE | simpa using hE, by first | exact (((((L0.trans L1).trans L2).trans L3).trans LE)).mono (by omega) | simpa using (((((L0.trans L1).trans L2).trans L3).trans LE)).mono (by omega)⟩
  · rw [e1] at hpk
    clear e1
    go_wp2_with fail
    refine (hpk _).mono ?_
    rintro e w' ⟨rfl, rfl⟩
    go_wp2_with fail
    refine (mk_next _ p row c n q1 kd 1 h1 hn6 hnl (by omega)).mono ?_
    rintro e w2 ⟨v2, q2, rfl, hv2, h2, L2⟩
    have a2 := L2.q; have b2 := L2.l
    have t2 := rem1000 v2
    go_wp2_with fail
    refine (mk_putTo _ p row c n q2 kd 1 h2 1 (v2.tmod 1000) 0 (ok_push _ (by omega)) (by omega)).mono ?_
    rintro e w3 ⟨rfl, c3, q3, r3, h3, L3⟩
    have a3 := L3.q; have b3 := L3.l
    have c4z := h3.c4
    have f4z := h3.f4
    clear cc4
    obtain ⟨hE, LE⟩ := h3.deep 0
    go_wp2_with fail
    go_end0
    exact ⟨rfl, c3, q3, r3, by first | exact hE | simpa using hE, by first | exact (((((L0.trans L1).trans L2).trans L3).trans LE)).mono (by omega) | simpa using (((((L0.trans L1).trans L2).trans L3).trans LE)).mono (by omega)⟩
  · rw [e1] at hpk
    clear e1
    go_wp2_with fail
    refine (hpk _).mono ?_
    rintro e w' ⟨rfl, rfl⟩
    go_wp2_with fail
    refine (mk_sec_1 _ p row c n q1 kd h1 hn6 hnl (by omega) (by omega) hkl).mono ?_
    rintro e w2 ⟨rfl, c2, q2, r2, h2, L2⟩
    have a2 := L2.q; have b2 := L2.l
    go_wp2_with fail
    refine (mk_sec_1 _ p r2 c2 n q2 kd h2 hn6 hnl (by omega) (by omega) hkl).mono ?_
    rintro e w3 ⟨rfl, c3, q3, r3, h3, L3⟩
    have a3 := L3.q; have b3 := L3.l
    go_wp2_with fail
    refine (mk_next _ p r3 c3 n q3 kd 1 h3 hn6 hnl (by omega)).mono ?_
    rintro e w4 ⟨v4, q4, rfl, hv4, h4, L4⟩
    have a4 := L4.q; have b4 := L4.l
    obtain ⟨j4, hj4⟩ : ∃ j : Nat, v4 % 12 = (j : Int) := ⟨(v4 % 12).toNat, by omega⟩
    have jl4 : j4 < 12 := by omega
    obtain ⟨op4, ho4, hc4⟩ := h4.bins j4 jl4
    have hpj4 := fun w => hand_Pick v4 12 hv4 (by omega) (by omega) w
    rw [hj4] at hpj4
    clear hj4
    go_wp2_with fail
    refine (hpj4 _).mono ?_
    rintro e w' ⟨rfl, rfl⟩
    go_wp2_with fail
    refine (mk_putTo _ p r3 c3 n q4 kd 1 h4 op4 0 0 (ok_zero _ (by omega)) (by omega)).mono ?_
    rintro e w5 ⟨rfl, c5, q5, r5, h5, L5⟩
    have a5 := L5.q; have b5 := L5.l
    have c4z := h5.c4
    have f4z := h5.f4
    clear cc4
    obtain ⟨hE, LE⟩ := h5.deep 0
    go_wp2_with fail
    go_end0
    exact ⟨rfl, c5, q5, r5, by first | exact hE | simpa using hE, by first | exact (((((((L0.trans L1).trans L2).trans L3).trans L4).trans L5).trans LE)).mono (by omega) | simpa using (((((((L0.trans L1).trans L2).trans L3).trans L4).trans L5).trans LE)).mono (by omega)⟩
  · rw [e1] at hpk
    clear e1
    go_wp2_with fail
    refine (hpk _).mono ?_
    rintro e w' ⟨rfl, rfl⟩
    go_wp2_with fail
    refine (mk_sec_1 _ p row c n q1 kd h1 hn6 hnl (by omega) (by omega) hkl).mono ?_
    rintro e w2 ⟨rfl, c2, q2, r2, h2, L2⟩
    have a2 := L2.q; have b2 := L2.l
    go_wp2_with fail
    refine (mk_sec_1 _ p r2 c2 n q2 kd h2 hn6 hnl (by omega) (by omega) hkl).mono ?_
    rintro e w3 ⟨rfl, c3, q3, r3, h3, L3⟩
    have a3 := L3.q; have b3 := L3.l
    go_wp2_with fail
    refine (mk_next _ p r3 c3 n q3 kd 1 h3 hn6 hnl (by omega)).mono ?_
    rintro e w4 ⟨v4, q4, rfl, hv4, h4, L4⟩
    have a4 := L4.q; have b4 := L4.l
    obtain ⟨j4, hj4⟩ : ∃ j : Nat, v4 % 12 = (j : Int) := ⟨(v4 % 12).toNat, by omega⟩
    have jl4 : j4 < 12 := by omega
    obtain ⟨op4, ho4, hc4⟩ := h4.bins j4 jl4
    have hpj4 := fun w => hand_Pick v4 12 hv4 (by omega) (by omega) w
    rw [hj4] at hpj4
    clear hj4
    go_wp2_with fail
    refine (hpj4 _).mono ?_
    rintro e w' ⟨rfl, rfl⟩
    go_wp2_with fail
    refine (mk_putTo _ p r3 c3 n q4 kd 1 h4 op4 0 0 (ok_zero _ (by omega)) (by omega)).mono ?_
    rintro e w5 ⟨rfl, c5, q5, r5, h5, L5⟩
    have a5 := L5.q; have b5 := L5.l
    have c4z := h5.c4
    have f4z := h5.f4
    clear cc4
    obtain ⟨hE, LE⟩ := h5.deep 0
    go_wp2_with fail
    go_end0
    exact ⟨rfl, c5, q5, r5, by first | exact hE | simpa using hE, by first | exact (((((((L0.trans L1).trans L2).trans L3).trans L4).trans L5).trans LE)).mono (by omega) | simpa using (((((((L0.trans L1).trans L2).trans L3).trans L4).trans L5).trans LE)).mono (by omega)⟩
  · rw [e1] at hpk
    clear e1
    go_wp2_with fail
    refine (hpk _).mono ?_
    rintro e w' ⟨rfl, rfl⟩
    go_wp2_with fail
    refine (mk_arr _ p row c n q1 kd 1 h1 hn6 hnl (by omega) (by omega) hkl 4 (by omega)).mono ?_
    rintro e w2 ⟨rfl, c2, q2, r2, h2, L2⟩
    have a2 := L2.q; have b2 := L2.l
    go_wp2_with fail
    refine (mk_index_1 _ p r2 c2 n q2 kd h2 hn6 hnl (by omega) (by omega) hkl).mono ?_
    rintro e w3 ⟨rfl, c3, q3, r3, h3, L3⟩
    have a3 := L3.q; have b3 := L3.l
    go_wp2_with fail
    refine (mk_putTo _ p r3 c3 n q3 kd 1 h3 29 0 0 (ok_zero _ (by omega)) (by omega)).mono ?_
    rintro e w4 ⟨rfl, c4, q4, r4, h4, L4⟩
    have a4 := L4.q; have b4 := L4.l
    have c4z := h4.c4
    have f4z := h4.f4
    clear cc4
    obtain ⟨hE, LE⟩ := h4.deep 0
    go_wp2_with fail
    go_end0
    exact ⟨rfl, c4, q4, r4, by first | exact hE | simpa using hE, by first | exact ((((((L0.trans L1).trans L2).trans L3).trans L4).trans LE)).mono (by omega) | simpa using ((((((L0.trans L1).trans L2).trans L3).trans L4).trans LE)).mono (by omega)⟩
  · rw [e1] at hpk
    clear e1
    go_wp2_with fail
    refine (hpk _).mono ?_
    rintro e w' ⟨rfl, rfl⟩
    go_wp2_with fail
    refine (mk_arr _ p row c n q1 kd 1 h1 hn6 hnl (by omega) (by omega) hkl 4 (by omega)).mono ?_
    rintro e w2 ⟨rfl, c2, q2, r2, h2, L2⟩
    have a2 := L2.q; have b2 := L2.l
    go_wp2_with fail
    refine (mk_index_1 _ p r2 c2 n q2 kd h2 hn6 hnl (by omega) (by omega) hkl).mono ?_
    rintro e w3 ⟨rfl, c3, q3, r3, h3, L3⟩
    have a3 := L3.q; have b3 := L3.l
    go_wp2_with fail
    refine (mk_putTo _ p r3 c3 n q3 kd 1 h3 29 0 0 (ok_zero _ (by omega)) (by omega)).mono ?_
    rintro e w4 ⟨rfl, c4, q4, r4, h4, L4⟩
    have a4 := L4.q; have b4 := L4.l
    have c4z := h4.c4
    have f4z := h4.f4
    clear cc4
    obtain ⟨hE, LE⟩ := h4.deep 0
    go_wp2_with fail
    go_end0
    exact ⟨rfl, c4, q4, r4, by first | exact hE | simpa using hE, by first | exact ((((((L0.trans L1).trans L2).trans L3).trans L4).trans LE)).mono (by omega) | simpa using ((((((L0.trans L1).trans L2).trans L3).trans L4).trans LE)).mono (by omega)⟩
  · rw [e1] at hpk
    clear e1
    go_wp2_with fail
    refine (hpk _).mono ?_
    rintro e w' ⟨rfl, rfl⟩
    go_wp2_with fail
    refine (mk_sec_1 _ p row c n q1 kd h1 hn6 hnl (by omega) (by omega) hkl).mono ?_
    rintro e w2 ⟨rfl, c2, q2, r2, h2, L2⟩
    have a2 := L2.q; have b2 := L2.l
    go_wp2_with fail
    refine (mk_sec_1 _ p r2 c2 n q2 kd h2 hn6 hnl (by omega) (by omega) hkl).mono ?_
    rintro e w3 ⟨rfl, c3, q3, r3, h3, L3⟩
    have a3 := L3.q; have b3 := L3.l
    go_wp2_with fail
    refine (mk_sec_1 _ p r3 c3 n q3 kd h3 hn6 hnl (by omega) (by omega) hkl).mono ?_
    rintro e w4 ⟨rfl, c4, q4, r4, h4, L4⟩
    have a4 := L4.q; have b4 := L4.l
    go_wp2_with fail
    refine (mk_putTo _ p r4 c4 n q4 kd 1 h4 22 0 0 (ok_zero _ (by omega)) (by omega)).mono ?_
    rintro e w5 ⟨rfl, c5, q5, r5, h5, L5⟩
    have a5 := L5.q; have b5 := L5.l
    have c4z := h5.c4
    have f4z := h5.f4
    clear cc4
    obtain ⟨hE, LE⟩ := h5.deep 0
    go_wp2_with fail
    go_end0
    exact ⟨rfl, c5, q5, r5, by first | exact hE | simpa using hE, by first | exact (((((((L0.trans L1).trans L2).trans L3).trans L4).trans L5).trans LE)).mono (by omega) | simpa using (((((((L0.trans L1).trans L2).trans L3).trans L4).trans L5).trans LE)).mono (by omega)⟩
  · rw [e1] at hpk
    clear e1
    go_wp2_with fail
    refine (hpk _).mono ?_
    rintro e w' ⟨rfl, rfl⟩
    go_wp2_with fail
    refine (mk_arr _ p row c n q1 kd 1 h1 hn6 hnl (by omega) (by omega) hkl 4 (by omega)).mono ?_
    rintro e w2 ⟨rfl, c2, q2, r2, h2, L2⟩
    have a2 := L2.q; have b2 := L2.l
    go_wp2_with fail
    refine (mk_index_1 _ p r2 c2 n q2 kd h2 hn6 hnl (by omega) (by omega) hkl).mono ?_
    rintro e w3 ⟨rfl, c3, q3, r3, h3, L3⟩
    have a3 := L3.q; have b3 := L3.l
    go_wp2_with fail
    refine (mk_next _ p r3 c3 n q3 kd 1 h3 hn6 hnl (by omega)).mono ?_
    rintro e w4 ⟨v4, q4, rfl, hv4, h4, L4⟩
    have a4 := L4.q; have b4 := L4.l
    go_wp2_with fail
    refine (hand_Pick v4 2 hv4 (by omega) (by omega) _).mono ?_
    rintro e w' ⟨rfl, rfl⟩
    have m4 : 0 ≤ v4 % 2 ∧ v4 % 2 < 2 := by omega
    go_wp2_with fail
    refine (mk_arr _ p r3 c3 n q4 kd 1 h4 hn6 hnl (by omega) (by omega) hkl (3 + (v4 % 2)) (by omega)).mono ?_
    rintro e w5 ⟨rfl, c5, q5, r5, h5, L5⟩
    have a5 := L5.q; have b5 := L5.l
    go_wp2_with fail
    refine (mk_index_1 _ p r5 c5 n q5 kd h5 hn6 hnl (by omega) (by omega) hkl).mono ?_
    rintro e w6 ⟨rfl, c6, q6, r6, h6, L6⟩
    have a6 := L6.q; have b6 := L6.l
    go_wp2_with fail
    refine (mk_index_1 _ p r6 c6 n q6 kd h6 hn6 hnl (by omega) (by omega) hkl).mono ?_
    rintro e w7 ⟨rfl, c7, q7, r7, h7, L7⟩
    have a7 := L7.q; have b7 := L7.l
    go_wp2_with fail
    refine (mk_putTo _ p r7 c7 n q7 kd 1 h7 32 0 0 (ok_zero _ (by omega)) (by omega)).mono ?_
    rintro e w8 ⟨rfl, c8, q8, r8, h8, L8⟩
    have a8 := L8.q; have b8 := L8.l
    have c4z := h8.c4
    have f4z := h8.f4
    clear cc4
    obtain ⟨hE, LE⟩ := h8.deep 0
    go_wp2_with fail
    go_end0
    exact ⟨rfl, c8, q8, r8, by first | exact hE | simpa using hE, by first | exact ((((((((((L0.trans L1).trans L2).trans L3).trans L4).trans L5).trans L6).trans L7).trans L8).trans LE)).mono (by omega) | simpa using ((((((((((L0.trans L1).trans L2).trans L3).trans L4).trans L5).trans L6).trans L7).trans L8).trans LE)).mono (by omega)⟩
  · rw [e1] at hpk
    clear e1
    go_wp2_with fail
    refine (hpk _).mono ?_
    rintro e w' ⟨rfl, rfl⟩
    go_wp2_with fail
    refine (mk_putTo _ p row c n q1 kd 1 h1 33 1 0 (ok_getf _ (by omega)) (by omega)).mono ?_
    rintro e w2 ⟨rfl, c2, q2, r2, h2, L2⟩
    have a2 := L2.q; have b2 := L2.l
    have c4z := h2.c4
    have f4z := h2.f4
    clear cc4
    obtain ⟨hE, LE⟩ := h2.deep 0
    go_wp2_with fail
    go_end0
    exact ⟨rfl, c2, q2, r2, by first | exact hE | simpa using hE, by first | exact ((((L0.trans L1).trans L2).trans LE)).mono (by omega) | simpa using ((((L0.trans L1).trans L2).trans LE)).mono (by omega)⟩
end Go.Proofs.YteebapopeaafhaaGreatDoor
namespace Go.Proofs.YteebapopeaafhaaGreatDoor
open Go.RowKit Go.Tcn
set_option linter.unusedVariables false
set_option linter.unusedSimpArgs false
set_option linter.unusedSectionVars false
variable [OkP]

set_option maxRecDepth 100000 in
set_option maxHeartbeats 4000000 in
theorem mk_any (w : World) (p row : Nat) (c : List Ins) (n : List Int) (q : Nat) (kd : List Int) (h : Mk 99 57 2 w p row c n q kd 0) (hn6 : I64s n) (hnl : n.length ≤ 9223372036854775807) (hq : q ≤ 700000) (hl : c.length ≤ 700000) (hkl : kd.length ≤ 10) (kind : Int) (hkind : 1 ≤ kind ∧ kind ≤ 4) :
    Calls Tryz.prog 59 #[.pointer (some ⟨p, 0, none⟩), .int .i64 kind] w fun e w' => e = .returned (.tuple #[]) ∧ MkTo 99 57 2 p row c n q kd 0 2300 w w' := by
  have hcs : kind = 1 ∨ kind = 2 ∨ (3 ≤ kind ∧ kind ≤ 4) := by omega
  rcases hcs with rfl | rfl | hk3
  · go_enter Tryz.func59, Tryz.ntmps59
    go_wp2_with fail
    refine (mk_pub_0 _ p row c n q kd h hn6 hnl (by omega) (by omega) hkl).mono ?_
    rintro e w1 ⟨rfl, c1, q1, r1, h1, L1⟩
    have a1 := L1.q; have b1 := L1.l
    go_wp2_with fail
    go_end0
    exact ⟨rfl, c1, q1, r1, h1, L1.mono (by omega)⟩
  · go_enter Tryz.func59, Tryz.ntmps59
    go_wp2_with fail
    refine (mk_sec_0 _ p row c n q kd h hn6 hnl (by omega) (by omega) hkl).mono ?_
    rintro e w1 ⟨rfl, c1, q1, r1, h1, L1⟩
    have a1 := L1.q; have b1 := L1.l
    go_wp2_with fail
    go_end0
    exact ⟨rfl, c1, q1, r1, h1, L1.mono (by omega)⟩
  · have m1 : (kind == 1) = false := beq_eq_false_iff_ne.2 (by omega)
    have m2 : (kind == 2) = false := beq_eq_false_iff_ne.2 (by omega)
    go_enter Tryz.func59, Tryz.ntmps59
    go_wp2_with fail
    refine (mk_arr _ p row c n q kd 0 h hn6 hnl (by omega) (by omega) hkl kind hk3).mono ?_
    rintro e w1 ⟨rfl, c1, q1, r1, h1, L1⟩
    have a1 := L1.q; have b1 := L1.l
    go_wp2_with fail
    go_end0
    exact ⟨rfl, c1, q1, r1, h1, L1.mono (by omega)⟩
end Go.Proofs.YteebapopeaafhaaGreatDoor
