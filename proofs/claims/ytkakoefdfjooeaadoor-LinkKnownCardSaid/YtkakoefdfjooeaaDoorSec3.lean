/-
  CONTRACTS: the maker of applets' code: sec at depth 3. Conditions: its memory is its own, its counts are small.
-/
import Derived.Test.YtkakoefdfjooeaaDoorMaker4
namespace Go.Proofs.YtkakoefdfjooeaaDoor
open Go.RowKit Go.Tcn
set_option linter.unusedVariables false
set_option linter.unusedSimpArgs false
set_option linter.unusedSectionVars false
variable [OkP]
theorem rem1000 (c : Int) : -1000 < c.tmod 1000 ∧ c.tmod 1000 < 1000 := ⟨Int.lt_tmod_of_pos c (by omega), Int.tmod_lt_of_pos c (by omega)⟩

set_option maxRecDepth 100000 in
set_option maxHeartbeats 16000000 in
theorem mk_sec_3 (w : World) (p row : Nat) (c : List Ins) (n : List Int) (q : Nat) (kd : List Int) (d : Int) (hd : 3 ≤ d ∧ d ≤ 100) (h : Mk 51 54 0 w p row c n q kd d) (hn6 : I64s n) (hnl : n.length ≤ 9223372036854775807) (hq : q ≤ 800000) (hl : c.length ≤ 800000) (hkl : kd.length ≤ 10) :
    Calls Tryd.prog 24 #[.pointer (some ⟨p, 0, none⟩)] w fun e w' => e = .returned (.tuple #[]) ∧ MkTo 51 54 0 p row c n q kd d 10 w w' := by
  go_enter Tryd.func24, Tryd.ntmps24
  have cc4 := h.c4
  have ff4 := h.f4
  obtain ⟨hD, L0⟩ := h.deep (d + 1)
  obtain ⟨V, hV⟩ : ∃ V, V = w.setCell ⟨p, 4, none⟩ (.int .i64 (d + 1)) := ⟨_, rfl⟩
  rw [← hV] at hD L0
  go_upto_region 1 with fail
  rw [← hV]
  clear hV cc4 ff4
  have a0 := L0.q; have b0 := L0.l
  go_wp2_with fail
  refine (mk_next _ p row c n q kd (d + 1) hD hn6 hnl (by omega)).mono ?_
  rintro e w1 ⟨v1, q1, rfl, hv1, h1, L1⟩
  have a1 := L1.q; have b1 := L1.l
  have cc4 := h1.c4
  have hpk := fun w => hand_Pick v1 9 hv1 (by omega) (by omega) w
  have hd4 : ¬ d + 1 ≤ 3 := by omega
  have hd5 : 3 < d + 1 := by omega
  have hcs : v1 % 9 = 0 ∨ v1 % 9 = 1 ∨ v1 % 9 = 2 ∨ v1 % 9 = 3 ∨ v1 % 9 = 4 ∨ v1 % 9 = 5 ∨ v1 % 9 = 6 ∨ v1 % 9 = 7 ∨ v1 % 9 = 8 := by omega
  rcases hcs with e1 | e1 | e1 | e1 | e1 | e1 | e1 | e1 | e1
  · rw [e1] at hpk
    clear e1
    go_wp2_with fail
    refine (hpk _).mono ?_
    rintro e w' ⟨rfl, rfl⟩
    go_wp2_with fail
    refine (mk_local _ p row c n q1 kd (d + 1) h1 hn6 hnl (by omega) (by omega) (by omega) 2).mono ?_
    rintro e w2 ⟨k2, ok2, q2, rfl, hk2, h2, L2⟩
    have a2 := L2.q; have b2 := L2.l
    cases ok2
    · go_wp2_with fail
      refine (mk_putTo _ p row c n q2 kd (d + 1) h2 1 5 0 (ok_push _ (by omega)) (by omega)).mono ?_
      rintro e w3 ⟨rfl, c3, q3, r3, h3, L3⟩
      have a3 := L3.q; have b3 := L3.l
      have c4z := h3.c4
      have f4z := h3.f4
      clear cc4
      have hdd : d + 1 - 1 = d := by omega
      have HDD := Lib.hid hdd; clear hdd
      obtain ⟨hE, LE⟩ := h3.deep d
      go_wp2_with fail
      go_end0
      exact ⟨rfl, c3, q3, r3, by first | exact hE | simpa using hE, by first | exact (((((L0.trans L1).trans L2).trans L3).trans LE)).mono (by omega) | simpa using (((((L0.trans L1).trans L2).trans L3).trans LE)).mono (by omega)⟩
    · have hk2 := hk2.2 rfl
      go_wp2_with fail
      refine (mk_putTo _ p row c n q2 kd (d + 1) h2 2 k2 0 (ok_load _ (by omega)) (by omega)).mono ?_
      rintro e w3 ⟨rfl, c3, q3, r3, h3, L3⟩
      have a3 := L3.q; have b3 := L3.l
      have c4z := h3.c4
      have f4z := h3.f4
      clear cc4
      have hdd : d + 1 - 1 = d := by omega
      have HDD := Lib.hid hdd; clear hdd
      obtain ⟨hE, LE⟩ := h3.deep d
      go_wp2_with fail
      go_end0
      exact ⟨rfl, c3, q3, r3, by first | exact hE | simpa using hE, by first | exact (((((L0.trans L1).trans L2).trans L3).trans LE)).mono (by omega) | simpa using (((((L0.trans L1).trans L2).trans L3).trans LE)).mono (by omega)⟩
  · rw [e1] at hpk
    clear e1
    go_wp2_with fail
    refine (hpk _).mono ?_
    rintro e w' ⟨rfl, rfl⟩
    go_wp2_with fail
    refine (mk_next _ p row c n q1 kd (d + 1) h1 hn6 hnl (by omega)).mono ?_
    rintro e w2 ⟨v2, q2, rfl, hv2, h2, L2⟩
    have a2 := L2.q; have b2 := L2.l
    have t2 := rem1000 v2
    go_wp2_with fail
    refine (mk_putTo _ p row c n q2 kd (d + 1) h2 1 (v2.tmod 1000) 0 (ok_push _ (by omega)) (by omega)).mono ?_
    rintro e w3 ⟨rfl, c3, q3, r3, h3, L3⟩
    have a3 := L3.q; have b3 := L3.l
    have c4z := h3.c4
    have f4z := h3.f4
    clear cc4
    have hdd : d + 1 - 1 = d := by omega
    have HDD := Lib.hid hdd; clear hdd
    obtain ⟨hE, LE⟩ := h3.deep d
    go_wp2_with fail
    go_end0
    exact ⟨rfl, c3, q3, r3, by first | exact hE | simpa using hE, by first | exact (((((L0.trans L1).trans L2).trans L3).trans LE)).mono (by omega) | simpa using (((((L0.trans L1).trans L2).trans L3).trans LE)).mono (by omega)⟩
  · rw [e1] at hpk
    clear e1
    go_wp2_with fail
    refine (hpk _).mono ?_
    rintro e w' ⟨rfl, rfl⟩
    go_wp2_with fail
    refine (mk_local _ p row c n q1 kd (d + 1) h1 hn6 hnl (by omega) (by omega) (by omega) 2).mono ?_
    rintro e w2 ⟨k2, ok2, q2, rfl, hk2, h2, L2⟩
    have a2 := L2.q; have b2 := L2.l
    cases ok2
    · go_wp2_with fail
      refine (mk_putTo _ p row c n q2 kd (d + 1) h2 1 5 0 (ok_push _ (by omega)) (by omega)).mono ?_
      rintro e w3 ⟨rfl, c3, q3, r3, h3, L3⟩
      have a3 := L3.q; have b3 := L3.l
      have c4z := h3.c4
      have f4z := h3.f4
      clear cc4
      have hdd : d + 1 - 1 = d := by omega
      have HDD := Lib.hid hdd; clear hdd
      obtain ⟨hE, LE⟩ := h3.deep d
      go_wp2_with fail
      go_end0
      exact ⟨rfl, c3, q3, r3, by first | exact hE | simpa using hE, by first | exact (((((L0.trans L1).trans L2).trans L3).trans LE)).mono (by omega) | simpa using (((((L0.trans L1).trans L2).trans L3).trans LE)).mono (by omega)⟩
    · have hk2 := hk2.2 rfl
      go_wp2_with fail
      refine (mk_putTo _ p row c n q2 kd (d + 1) h2 2 k2 0 (ok_load _ (by omega)) (by omega)).mono ?_
      rintro e w3 ⟨rfl, c3, q3, r3, h3, L3⟩
      have a3 := L3.q; have b3 := L3.l
      have c4z := h3.c4
      have f4z := h3.f4
      clear cc4
      have hdd : d + 1 - 1 = d := by omega
      have HDD := Lib.hid hdd; clear hdd
      obtain ⟨hE, LE⟩ := h3.deep d
      go_wp2_with fail
      go_end0
      exact ⟨rfl, c3, q3, r3, by first | exact hE | simpa using hE, by first | exact (((((L0.trans L1).trans L2).trans L3).trans LE)).mono (by omega) | simpa using (((((L0.trans L1).trans L2).trans L3).trans LE)).mono (by omega)⟩
  · rw [e1] at hpk
    clear e1
    go_wp2_with fail
    refine (hpk _).mono ?_
    rintro e w' ⟨rfl, rfl⟩
    go_wp2_with fail
    refine (mk_next _ p row c n q1 kd (d + 1) h1 hn6 hnl (by omega)).mono ?_
    rintro e w2 ⟨v2, q2, rfl, hv2, h2, L2⟩
    have a2 := L2.q; have b2 := L2.l
    have t2 := rem1000 v2
    go_wp2_with fail
    refine (mk_putTo _ p row c n q2 kd (d + 1) h2 1 (v2.tmod 1000) 0 (ok_push _ (by omega)) (by omega)).mono ?_
    rintro e w3 ⟨rfl, c3, q3, r3, h3, L3⟩
    have a3 := L3.q; have b3 := L3.l
    have c4z := h3.c4
    have f4z := h3.f4
    clear cc4
    have hdd : d + 1 - 1 = d := by omega
    have HDD := Lib.hid hdd; clear hdd
    obtain ⟨hE, LE⟩ := h3.deep d
    go_wp2_with fail
    go_end0
    exact ⟨rfl, c3, q3, r3, by first | exact hE | simpa using hE, by first | exact (((((L0.trans L1).trans L2).trans L3).trans LE)).mono (by omega) | simpa using (((((L0.trans L1).trans L2).trans L3).trans LE)).mono (by omega)⟩
  · rw [e1] at hpk
    clear e1
    go_wp2_with fail
    refine (hpk _).mono ?_
    rintro e w' ⟨rfl, rfl⟩
    go_wp2_with fail
    refine (mk_local _ p row c n q1 kd (d + 1) h1 hn6 hnl (by omega) (by omega) (by omega) 2).mono ?_
    rintro e w2 ⟨k2, ok2, q2, rfl, hk2, h2, L2⟩
    have a2 := L2.q; have b2 := L2.l
    cases ok2
    · go_wp2_with fail
      refine (mk_putTo _ p row c n q2 kd (d + 1) h2 1 5 0 (ok_push _ (by omega)) (by omega)).mono ?_
      rintro e w3 ⟨rfl, c3, q3, r3, h3, L3⟩
      have a3 := L3.q; have b3 := L3.l
      have c4z := h3.c4
      have f4z := h3.f4
      clear cc4
      have hdd : d + 1 - 1 = d := by omega
      have HDD := Lib.hid hdd; clear hdd
      obtain ⟨hE, LE⟩ := h3.deep d
      go_wp2_with fail
      go_end0
      exact ⟨rfl, c3, q3, r3, by first | exact hE | simpa using hE, by first | exact (((((L0.trans L1).trans L2).trans L3).trans LE)).mono (by omega) | simpa using (((((L0.trans L1).trans L2).trans L3).trans LE)).mono (by omega)⟩
    · have hk2 := hk2.2 rfl
      go_wp2_with fail
      refine (mk_putTo _ p row c n q2 kd (d + 1) h2 2 k2 0 (ok_load _ (by omega)) (by omega)).mono ?_
      rintro e w3 ⟨rfl, c3, q3, r3, h3, L3⟩
      have a3 := L3.q; have b3 := L3.l
      have c4z := h3.c4
      have f4z := h3.f4
      clear cc4
      have hdd : d + 1 - 1 = d := by omega
      have HDD := Lib.hid hdd; clear hdd
      obtain ⟨hE, LE⟩ := h3.deep d
      go_wp2_with fail
      go_end0
      exact ⟨rfl, c3, q3, r3, by first | exact hE | simpa using hE, by first | exact (((((L0.trans L1).trans L2).trans L3).trans LE)).mono (by omega) | simpa using (((((L0.trans L1).trans L2).trans L3).trans LE)).mono (by omega)⟩
  · rw [e1] at hpk
    clear e1
    go_wp2_with fail
    refine (hpk _).mono ?_
    rintro e w' ⟨rfl, rfl⟩
    go_wp2_with fail
    refine (mk_next _ p row c n q1 kd (d + 1) h1 hn6 hnl (by omega)).mono ?_
    rintro e w2 ⟨v2, q2, rfl, hv2, h2, L2⟩
    have a2 := L2.q; have b2 := L2.l
    have t2 := rem1000 v2
    go_wp2_with fail
    refine (mk_putTo _ p row c n q2 kd (d + 1) h2 1 (v2.tmod 1000) 0 (ok_push _ (by omega)) (by omega)).mono ?_
    rintro e w3 ⟨rfl, c3, q3, r3, h3, L3⟩
    have a3 := L3.q; have b3 := L3.l
    have c4z := h3.c4
    have f4z := h3.f4
    clear cc4
    have hdd : d + 1 - 1 = d := by omega
    have HDD := Lib.hid hdd; clear hdd
    obtain ⟨hE, LE⟩ := h3.deep d
    go_wp2_with fail
    go_end0
    exact ⟨rfl, c3, q3, r3, by first | exact hE | simpa using hE, by first | exact (((((L0.trans L1).trans L2).trans L3).trans LE)).mono (by omega) | simpa using (((((L0.trans L1).trans L2).trans L3).trans LE)).mono (by omega)⟩
  · rw [e1] at hpk
    clear e1
    go_wp2_with fail
    refine (hpk _).mono ?_
    rintro e w' ⟨rfl, rfl⟩
    go_wp2_with fail
    refine (mk_local _ p row c n q1 kd (d + 1) h1 hn6 hnl (by omega) (by omega) (by omega) 2).mono ?_
    rintro e w2 ⟨k2, ok2, q2, rfl, hk2, h2, L2⟩
    have a2 := L2.q; have b2 := L2.l
    cases ok2
    · go_wp2_with fail
      refine (mk_putTo _ p row c n q2 kd (d + 1) h2 1 5 0 (ok_push _ (by omega)) (by omega)).mono ?_
      rintro e w3 ⟨rfl, c3, q3, r3, h3, L3⟩
      have a3 := L3.q; have b3 := L3.l
      have c4z := h3.c4
      have f4z := h3.f4
      clear cc4
      have hdd : d + 1 - 1 = d := by omega
      have HDD := Lib.hid hdd; clear hdd
      obtain ⟨hE, LE⟩ := h3.deep d
      go_wp2_with fail
      go_end0
      exact ⟨rfl, c3, q3, r3, by first | exact hE | simpa using hE, by first | exact (((((L0.trans L1).trans L2).trans L3).trans LE)).mono (by omega) | simpa using (((((L0.trans L1).trans L2).trans L3).trans LE)).mono (by omega)⟩
    · have hk2 := hk2.2 rfl
      go_wp2_with fail
      refine (mk_putTo _ p row c n q2 kd (d + 1) h2 2 k2 0 (ok_load _ (by omega)) (by omega)).mono ?_
      rintro e w3 ⟨rfl, c3, q3, r3, h3, L3⟩
      have a3 := L3.q; have b3 := L3.l
      have c4z := h3.c4
      have f4z := h3.f4
      clear cc4
      have hdd : d + 1 - 1 = d := by omega
      have HDD := Lib.hid hdd; clear hdd
      obtain ⟨hE, LE⟩ := h3.deep d
      go_wp2_with fail
      go_end0
      exact ⟨rfl, c3, q3, r3, by first | exact hE | simpa using hE, by first | exact (((((L0.trans L1).trans L2).trans L3).trans LE)).mono (by omega) | simpa using (((((L0.trans L1).trans L2).trans L3).trans LE)).mono (by omega)⟩
  · rw [e1] at hpk
    clear e1
    go_wp2_with fail
    refine (hpk _).mono ?_
    rintro e w' ⟨rfl, rfl⟩
    go_wp2_with fail
    refine (mk_next _ p row c n q1 kd (d + 1) h1 hn6 hnl (by omega)).mono ?_
    rintro e w2 ⟨v2, q2, rfl, hv2, h2, L2⟩
    have a2 := L2.q; have b2 := L2.l
    have t2 := rem1000 v2
    go_wp2_with fail
    refine (mk_putTo _ p row c n q2 kd (d + 1) h2 1 (v2.tmod 1000) 0 (ok_push _ (by omega)) (by omega)).mono ?_
    rintro e w3 ⟨rfl, c3, q3, r3, h3, L3⟩
    have a3 := L3.q; have b3 := L3.l
    have c4z := h3.c4
    have f4z := h3.f4
    clear cc4
    have hdd : d + 1 - 1 = d := by omega
    have HDD := Lib.hid hdd; clear hdd
    obtain ⟨hE, LE⟩ := h3.deep d
    go_wp2_with fail
    go_end0
    exact ⟨rfl, c3, q3, r3, by first | exact hE | simpa using hE, by first | exact (((((L0.trans L1).trans L2).trans L3).trans LE)).mono (by omega) | simpa using (((((L0.trans L1).trans L2).trans L3).trans LE)).mono (by omega)⟩
  · rw [e1] at hpk
    clear e1
    go_wp2_with fail
    refine (hpk _).mono ?_
    rintro e w' ⟨rfl, rfl⟩
    go_wp2_with fail
    refine (mk_local _ p row c n q1 kd (d + 1) h1 hn6 hnl (by omega) (by omega) (by omega) 2).mono ?_
    rintro e w2 ⟨k2, ok2, q2, rfl, hk2, h2, L2⟩
    have a2 := L2.q; have b2 := L2.l
    cases ok2
    · go_wp2_with fail
      refine (mk_putTo _ p row c n q2 kd (d + 1) h2 1 5 0 (ok_push _ (by omega)) (by omega)).mono ?_
      rintro e w3 ⟨rfl, c3, q3, r3, h3, L3⟩
      have a3 := L3.q; have b3 := L3.l
      have c4z := h3.c4
      have f4z := h3.f4
      clear cc4
      have hdd : d + 1 - 1 = d := by omega
      have HDD := Lib.hid hdd; clear hdd
      obtain ⟨hE, LE⟩ := h3.deep d
      go_wp2_with fail
      go_end0
      exact ⟨rfl, c3, q3, r3, by first | exact hE | simpa using hE, by first | exact (((((L0.trans L1).trans L2).trans L3).trans LE)).mono (by omega) | simpa using (((((L0.trans L1).trans L2).trans L3).trans LE)).mono (by omega)⟩
    · have hk2 := hk2.2 rfl
      go_wp2_with fail
      refine (mk_putTo _ p row c n q2 kd (d + 1) h2 2 k2 0 (ok_load _ (by omega)) (by omega)).mono ?_
      rintro e w3 ⟨rfl, c3, q3, r3, h3, L3⟩
      have a3 := L3.q; have b3 := L3.l
      have c4z := h3.c4
      have f4z := h3.f4
      clear cc4
      have hdd : d + 1 - 1 = d := by omega
      have HDD := Lib.hid hdd; clear hdd
      obtain ⟨hE, LE⟩ := h3.deep d
      go_wp2_with fail
      go_end0
      exact ⟨rfl, c3, q3, r3, by first | exact hE | simpa using hE, by first | exact (((((L0.trans L1).trans L2).trans L3).trans LE)).mono (by omega) | simpa using (((((L0.trans L1).trans L2).trans L3).trans LE)).mono (by omega)⟩
end Go.Proofs.YtkakoefdfjooeaaDoor
