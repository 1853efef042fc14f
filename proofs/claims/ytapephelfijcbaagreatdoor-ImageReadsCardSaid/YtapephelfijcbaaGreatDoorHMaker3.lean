/-
  CONTRACTS: the maker of applets' code: put, arr, as steps. Conditions: its memory is its own, its counts are small.
-/
import Derived.Test.YtapephelfijcbaaGreatDoorHMaker2
namespace Go.Tcn
set_option linter.unusedVariables false
set_option linter.unusedSimpArgs false
set_option linter.unusedSectionVars false
variable [OkP]
theorem ok_push (a : Int) (h : -2147483648 ≤ a ∧ a ≤ 2147483647) : okI ⟨1, a, 0⟩ := .inl (by unfold rightI limLo limHi; simp; omega)
theorem ok_load (a : Int) (h : 0 ≤ a ∧ a ≤ 9) : okI ⟨2, a, 0⟩ := .inl (by unfold rightI limLo limHi; simp; omega)
theorem ok_store (a : Int) (h : 0 ≤ a ∧ a ≤ 9) : okI ⟨3, a, 0⟩ := .inl (by unfold rightI limLo limHi; simp; omega)
theorem ok_null (a : Int) (h : 3 ≤ a ∧ a ≤ 4) : okI ⟨25, a, 0⟩ := .inl (by unfold rightI limLo limHi; simp; omega)
theorem ok_new (a b : Int) (h : 3 ≤ a ∧ a ≤ 4) (hb : 0 ≤ b ∧ b ≤ 2 ∨ 4 ≤ b ∧ b ≤ 6) : okI ⟨27, a, b⟩ := .inl (by unfold rightI limLo limHi; simp; omega)
theorem ok_getf (a : Int) (h : 0 ≤ a ∧ a ≤ 7) : okI ⟨33, a, 0⟩ := .inl (by unfold rightI limLo limHi; simp; omega)
theorem ok_putf (a : Int) (h : 0 ≤ a ∧ a ≤ 7) : okI ⟨34, a, 0⟩ := .inl (by unfold rightI limLo limHi; simp; omega)
theorem ok_buf (a : Int) (h : 1 ≤ a ∧ a ≤ 2) : okI ⟨35, a, 0⟩ := .inl (by unfold rightI limLo limHi; simp; omega)
theorem ok_send (a : Int) (h : 1 ≤ a ∧ a ≤ 2) : okI ⟨36, a, 0⟩ := .inl (by unfold rightI limLo limHi; simp; omega)
theorem ok_call (a : Int) (h : 0 ≤ a ∧ a ≤ 7) : okI ⟨37, a, 0⟩ := .inl (by unfold rightI limLo limHi; simp; omega)
theorem ok_callx (a : Int) (h : 0 ≤ a ∧ a ≤ 3) : okI ⟨38, a, 0⟩ := .inl (by unfold rightI limLo limHi; simp; omega)
theorem ok_open (h : OkP.opn = true) : okI ⟨24, -1, 0⟩ := .inr ⟨h, rfl, rfl, rfl⟩
theorem ok_zero (op : Int) (h : 4 ≤ op ∧ op ≤ 22 ∨ op = 26 ∨ 28 ≤ op ∧ op ≤ 32 ∨ op = 39) : okI ⟨op, 0, 0⟩ := by
  refine .inl ?_
  have l1 : limLo op = 0 := by unfold limLo; (repeat rw [if_neg (by omega)])
  have l2 : limHi op = 0 := by unfold limHi; (repeat rw [if_neg (by omega)])
  have h27 : ¬ op = 27 := by omega
  show rightI op 0 0 = true
  unfold rightI
  rw [l1, l2]
  simp [h27]
  omega
theorem Mk.c4 {T E : TypeId} {G : Nat} {w : World} {p row : Nat} {c : List Ins} {n : List Int} {q : Nat} {kd : List Int} {d : Int} (h : Mk T E G w p row c n q kd d) : w.cell? ⟨p, 4, none⟩ = some (.int .i64 d) := by
  obtain ⟨vc, vn, vk, hv, _⟩ := h.ex
  simp [World.cell?, hv]
theorem Mk.f4 {T E : TypeId} {G : Nat} {w : World} {p row : Nat} {c : List Ins} {n : List Int} {q : Nat} {kd : List Int} {d : Int} (h : Mk T E G w p row c n q kd d) : w.frozen? ⟨p, 4, none⟩ = false := by
  obtain ⟨vc, vn, vk, hv, _⟩ := h.ex
  simp [World.frozen?, hv]
theorem Mk.deep {T E : TypeId} {G : Nat} {w : World} {p row : Nat} {c : List Ins} {n : List Int} {q : Nat} {kd : List Int} {d : Int} (h : Mk T E G w p row c n q kd d) (d' : Int) : Mk T E G (w.setCell ⟨p, 4, none⟩ (.int .i64 d')) p row c n q kd d' ∧ Lk p row c.length q 0 w row c.length q (w.setCell ⟨p, 4, none⟩ (.int .i64 d')) := by
  obtain ⟨vc, vn, vk, hv, ho, hrow, hne, hn, hk⟩ := h.ex
  have T1 : Tch [p, row] w (w.setCell ⟨p, 4, none⟩ (.int .i64 d')) := (Tch.refl _ w).setCell (by simp) _
  refine ⟨⟨⟨vc, vn, vk, ?_, ownsRow_setCell_other (a := ⟨p, 4, none⟩) ho hne _, hrow, hne, hn.tch T1 (fun i hi _ => List.mem_append_left OkP.far hi), hk.tch T1 (fun i hi _ => List.mem_append_left OkP.far hi)⟩, h.ok, h.gp, fun j hj => ?_⟩, ⟨by omega, by omega, .inl rfl, T1⟩⟩
  · simp [World.setCell, Array.getElem?_modify, hv]
  · obtain ⟨op, h1, h2⟩ := h.bins j hj
    have hg := h.gp
    exact ⟨op, h1, by rw [T1.cell (cell_lt h2) (by simp; omega)]; exact h2⟩
end Go.Tcn
namespace Go.Proofs.YtapephelfijcbaaGreatDoor
open Go.RowKit Go.Tcn
set_option linter.unusedVariables false
set_option linter.unusedSimpArgs false
set_option linter.unusedSectionVars false
variable [OkP]
theorem mk_putTo (w : World) (p row : Nat) (c : List Ins) (n : List Int) (q : Nat) (kd : List Int) (d : Int) (h : Mk 110 47 2 w p row c n q kd d) (op a b : Int) (hok : okI ⟨op, a, b⟩) (hl : c.length ≤ 1000000) :
    Calls Tryz.prog 93 #[.pointer (some ⟨p, 0, none⟩), .int .i64 op, .int .i64 a, .int .i64 b] w fun e w' => e = .returned (.tuple #[]) ∧ MkTo 110 47 2 p row c n q kd d 1 w w' :=
  (mk_put w p row c n q kd d h op a b hok hl).mono fun e w' ⟨he, row', hM, hL⟩ => ⟨he, _, q, row', hM, by simpa using hL⟩
theorem arr6_at (b : Int) : ∃ v, (0 ≤ v ∧ v ≤ 2 ∨ 4 ≤ v ∧ v ≤ 6) ∧ ∀ w, (Instr.index 137 (.agg #[.int .i64 0, .int .i64 1, .int .i64 2, .int .i64 4, .int .i64 5, .int .i64 6]) (.int .i64 (b % 6))).run Tryz.prog w = .ok (.int .i64 v) w := by
  have h : b % 6 = 0 ∨ b % 6 = 1 ∨ b % 6 = 2 ∨ b % 6 = 3 ∨ b % 6 = 4 ∨ b % 6 = 5 := by omega
  rcases h with h | h | h | h | h | h
  all_goals rw [h]
  · exact ⟨0, by omega, fun _ => by kernel_rfl⟩
  · exact ⟨1, by omega, fun _ => by kernel_rfl⟩
  · exact ⟨2, by omega, fun _ => by kernel_rfl⟩
  · exact ⟨4, by omega, fun _ => by kernel_rfl⟩
  · exact ⟨5, by omega, fun _ => by kernel_rfl⟩
  · exact ⟨6, by omega, fun _ => by kernel_rfl⟩
set_option maxRecDepth 100000 in
set_option maxHeartbeats 4000000 in
theorem mk_arr (w : World) (p row : Nat) (c : List Ins) (n : List Int) (q : Nat) (kd : List Int) (d : Int) (h : Mk 110 47 2 w p row c n q kd d) (hn6 : I64s n) (hnl : n.length ≤ 9223372036854775807) (hq : q ≤ 900000) (hl : c.length ≤ 900000) (hkl : kd.length ≤ 10) (kind : Int) (hkind : 3 ≤ kind ∧ kind ≤ 4) :
    Calls Tryz.prog 110 #[.pointer (some ⟨p, 0, none⟩), .int .i64 kind] w fun e w' => e = .returned (.tuple #[]) ∧ MkTo 110 47 2 p row c n q kd d 8 w w' := by
  go_enter Tryz.func110, Tryz.ntmps110
  go_wp2_with fail
  refine (mk_next _ p row c n q kd d h hn6 hnl (by omega)).mono ?_
  rintro e w1 ⟨v1, q1, rfl, hv1, h1, L1⟩
  have a1 := L1.q; have b1 := L1.l
  have hpk := fun w => hand_Pick v1 6 hv1 (by omega) (by omega) w
  have hcs : v1 % 6 = 0 ∨ v1 % 6 = 1 ∨ v1 % 6 = 2 ∨ v1 % 6 = 3 ∨ v1 % 6 = 4 ∨ v1 % 6 = 5 := by omega
  rcases hcs with e1 | e1 | e1 | e1 | e1 | e1
  · rw [e1] at hpk
    clear e1
    go_wp2_with fail
    refine (hpk _).mono ?_
    rintro e w' ⟨rfl, rfl⟩
    go_wp2_with fail
    refine (mk_local _ p row c n q1 kd d h1 hn6 hnl (by omega) (by omega) (by omega) kind).mono ?_
    rintro e w2 ⟨k2, ok2, q2, rfl, hk2, h2, L2⟩
    have a2 := L2.q; have b2 := L2.l
    cases ok2
    · go_wp2_with fail
      refine (mk_putTo _ p row c n q2 kd d h2 25 kind 0 (ok_null _ hkind) (by omega)).mono ?_
      rintro e w3 ⟨rfl, c3, q3, r3, h3, L3⟩
      have a3 := L3.q; have b3 := L3.l
      go_wp2_with fail
      go_end0
      exact ⟨rfl, c3, q3, r3, h3, ((L1.trans L2).trans L3).mono (by omega)⟩
    · have hk2 := hk2.2 rfl
      go_wp2_with fail
      refine (mk_putTo _ p row c n q2 kd d h2 2 k2 0 (ok_load _ (by omega)) (by omega)).mono ?_
      rintro e w3 ⟨rfl, c3, q3, r3, h3, L3⟩
      have a3 := L3.q; have b3 := L3.l
      go_wp2_with fail
      refine bodyPost_ret (v := .tuple #[]) (results_none rfl _ _ _) rfl ?_
      exact ⟨rfl, c3, q3, r3, h3, ((L1.trans L2).trans L3).mono (by omega)⟩
  · rw [e1] at hpk
    clear e1
    go_wp2_with fail
    refine (hpk _).mono ?_
    rintro e w' ⟨rfl, rfl⟩
    go_wp2_with fail
    refine (mk_local _ p row c n q1 kd d h1 hn6 hnl (by omega) (by omega) (by omega) kind).mono ?_
    rintro e w2 ⟨k2, ok2, q2, rfl, hk2, h2, L2⟩
    have a2 := L2.q; have b2 := L2.l
    cases ok2
    · go_wp2_with fail
      refine (mk_putTo _ p row c n q2 kd d h2 25 kind 0 (ok_null _ hkind) (by omega)).mono ?_
      rintro e w3 ⟨rfl, c3, q3, r3, h3, L3⟩
      have a3 := L3.q; have b3 := L3.l
      go_wp2_with fail
      go_end0
      exact ⟨rfl, c3, q3, r3, h3, ((L1.trans L2).trans L3).mono (by omega)⟩
    · have hk2 := hk2.2 rfl
      go_wp2_with fail
      refine (mk_putTo _ p row c n q2 kd d h2 2 k2 0 (ok_load _ (by omega)) (by omega)).mono ?_
      rintro e w3 ⟨rfl, c3, q3, r3, h3, L3⟩
      have a3 := L3.q; have b3 := L3.l
      go_wp2_with fail
      refine bodyPost_ret (v := .tuple #[]) (results_none rfl _ _ _) rfl ?_
      exact ⟨rfl, c3, q3, r3, h3, ((L1.trans L2).trans L3).mono (by omega)⟩
  · rw [e1] at hpk
    clear e1
    go_wp2_with fail
    refine (hpk _).mono ?_
    rintro e w' ⟨rfl, rfl⟩
    have ek : kind - 3 + 1 = kind - 2 := by omega
    have EK := Lib.hid ek; clear ek
    go_wp2_with fail
    refine (mk_putTo _ p row c n q1 kd d h1 35 (kind - 3 + 1) 0 (ok_buf _ (by omega)) (by omega)).mono ?_
    rintro e w2 ⟨rfl, c2, q2, r2, h2, L2⟩
    have a2 := L2.q; have b2 := L2.l
    go_wp2_with fail
    go_end0
    exact ⟨rfl, c2, q2, r2, h2, (L1.trans L2).mono (by omega)⟩
  · rw [e1] at hpk
    clear e1
    go_wp2_with fail
    refine (hpk _).mono ?_
    rintro e w' ⟨rfl, rfl⟩
    have ek : kind - 3 + 1 = kind - 2 := by omega
    have EK := Lib.hid ek; clear ek
    go_wp2_with fail
    refine (mk_putTo _ p row c n q1 kd d h1 35 (kind - 3 + 1) 0 (ok_buf _ (by omega)) (by omega)).mono ?_
    rintro e w2 ⟨rfl, c2, q2, r2, h2, L2⟩
    have a2 := L2.q; have b2 := L2.l
    go_wp2_with fail
    go_end0
    exact ⟨rfl, c2, q2, r2, h2, (L1.trans L2).mono (by omega)⟩
  · rw [e1] at hpk
    clear e1
    go_wp2_with fail
    refine (hpk _).mono ?_
    rintro e w' ⟨rfl, rfl⟩
    go_wp2_with fail
    refine (mk_putTo _ p row c n q1 kd d h1 33 (kind - 1) 0 (ok_getf _ (by omega)) (by omega)).mono ?_
    rintro e w2 ⟨rfl, c2, q2, r2, h2, L2⟩
    have a2 := L2.q; have b2 := L2.l
    go_wp2_with fail
    go_end0
    exact ⟨rfl, c2, q2, r2, h2, (L1.trans L2).mono (by omega)⟩
  · rw [e1] at hpk
    clear e1
    go_wp2_with fail
    refine (hpk _).mono ?_
    rintro e w' ⟨rfl, rfl⟩
    go_wp2_with fail
    refine (mk_next _ p row c n q1 kd d h1 hn6 hnl (by omega)).mono ?_
    rintro e w2 ⟨v2, q2, rfl, hv2, h2, L2⟩
    have a2 := L2.q; have b2 := L2.l
    go_wp2_with fail
    refine (hand_Pick v2 9 hv2 (by omega) (by omega) _).mono ?_
    rintro e w' ⟨rfl, rfl⟩
    have m2 : 0 ≤ v2 % 9 ∧ v2 % 9 < 9 := by omega
    go_wp2_with fail
    refine (mk_putTo _ p row c n q2 kd d h2 1 (v2 % 9) 0 (ok_push _ (by omega)) (by omega)).mono ?_
    rintro e w3 ⟨rfl, c3, q3, r3, h3, L3⟩
    have a3 := L3.q; have b3 := L3.l
    go_wp2_with fail
    refine (mk_next _ p r3 c3 n q3 kd d h3 hn6 hnl (by omega)).mono ?_
    rintro e w4 ⟨v4, q4, rfl, hv4, h4, L4⟩
    have a4 := L4.q; have b4 := L4.l
    obtain ⟨b0, hb0, hix⟩ := arr6_at v4
    go_wp2_with fail
    refine (hand_Pick v4 6 hv4 (by omega) (by omega) _).mono ?_
    rintro e w' ⟨rfl, rfl⟩
    go_wp2_with fail
    refine (mk_putTo _ p r3 c3 n q4 kd d h4 27 kind b0 (ok_new _ _ hkind hb0) (by omega)).mono ?_
    rintro e w5 ⟨rfl, c5, q5, r5, h5, L5⟩
    have a5 := L5.q; have b5 := L5.l
    go_wp2_with fail
    go_end0
    exact ⟨rfl, c5, q5, r5, h5, ((((L1.trans L2).trans L3).trans L4).trans L5).mono (by omega)⟩
end Go.Proofs.YtapephelfijcbaaGreatDoor
