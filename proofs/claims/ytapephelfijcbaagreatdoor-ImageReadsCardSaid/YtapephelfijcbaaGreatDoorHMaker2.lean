/-
  CONTRACTS: the maker of applets' code: local, arr. Conditions: its memory is its own, its counts are small.
-/
import Derived.Test.YtapephelfijcbaaGreatDoorHMaker
namespace Go.Proofs.YtapephelfijcbaaGreatDoor
open Go.RowKit Go.Tcn
set_option linter.unusedVariables false
set_option linter.unusedSimpArgs false
set_option linter.unusedSectionVars false
variable [OkP]
theorem info_int : (Tryz.prog.info? 3).map (fun i => (i.zero, i.size, i.bytes)) = some (some (.int .i64 0), 1, 8) := by kernel_rfl
set_option maxRecDepth 100000 in
set_option maxHeartbeats 4000000 in
theorem mk_local (w : World) (p row : Nat) (c : List Ins) (n : List Int) (q : Nat) (kd : List Int) (d : Int) (h : Mk 110 47 2 w p row c n q kd d) (hn6 : I64s n) (hnl : n.length ≤ 9223372036854775807) (hq : q ≤ 950000) (hl : c.length ≤ 950000) (hkl : kd.length ≤ 100) (kind : Int) :
    Calls Tryz.prog 120 #[.pointer (some ⟨p, 0, none⟩), .int .i64 kind] w fun e w' => ∃ (k : Int) (ok : Bool) (q' : Nat), e = .returned (.tuple #[.int .i64 k, .bool ok]) ∧ (0 ≤ k ∧ (ok = true → k < kd.length)) ∧ Mk 110 47 2 w' p row c n q' kd d ∧ Lk p row c.length q 1 w row c.length q' w' := by
  obtain ⟨i0, hi, hz0, hz1, hz2⟩ := info_parts info_int
  have hp := h.lt
  obtain ⟨vc, vn, vk, hv, ho, hrow, hne, hn, hk⟩ := h.ex
  clear ho hrow hne hn
  obtain ⟨ak, capk, rfl⟩ := hk.form
  have c3 : w.cell? ⟨p, 3, none⟩ = some (.slice ak kd.length capk) := by simp [World.cell?, hv]
  go_enter Tryz.func120, Tryz.ntmps120
  go_wp2_with fail
  go_loopw [6, 7] (fun o i wr => ∃ (k : Nat) (m : List Int), k ≤ kd.length ∧ i = .int .i64 k ∧ m.length ≤ k ∧ wr.ownsRow 0 3 1 o m.length (ints m) ∧ (∀ g, o.ownBlock = some g → w.heap.size ≤ g) ∧ (∀ x ∈ m, 0 ≤ x ∧ x < kd.length) ∧ Tch [] w wr) (fun _ i _ => kd.length - (intOf i).toNat)
  case atStart => exact ⟨0, [], by omega, rfl, by simp, World.ownsRow_nil _ _ _ _, by simp [Value.ownBlock], by simp, Tch.refl _ _⟩
  case round =>
    obtain ⟨k, m, hk1, rfl, hml, ho, hg, hmr, ht⟩ := hrel
    obtain ⟨oo, oc, rfl⟩ := ownsRow_form ho
    have c3r := tch_cell' ht c3
    by_cases hlt : k < kd.length
    · obtain ⟨ad, rfl, had1, had2, hcj⟩ := (hk.tch ht (by simp)).at (j := k) (by simpa using hlt)
      have hcj2 : wr.cell? (ad.add k) = some (.int .i64 kd[k]) := by simpa [ints] using hcj
      clear c3 hcj
      generalize kd[k] = x at *
      cases hx : (x == kind)
      · go_wp2_with fail
        go_roundw
        case rel => exact ⟨k + 1, m, by omega, by go_num, by omega, ho, hg, hmr, ht⟩
        case measure => simp [intOf]; omega
      · have hbnd : m.length + 1 ≤ 9223372036854775807 ∧ (m.length + 1) * 8 ≤ 140737488355328 := by omega
        have hown0 : (wr.alloc (Obj.cells #[Value.int IntKind.i64 (k : Int)] 3)).ownsRow 0 3 1 (.slice oo m.length oc) m.length (ints m) := ho.alloc _
        have hsrc : Src (wr.alloc (Obj.cells #[Value.int IntKind.i64 (k : Int)] 3)) [] (.slice (some ⟨wr.heap.size, 0, none⟩) 1 1) 1 [Value.int IntKind.i64 (k : Int)] := src_new wr _ [] #[Value.int IntKind.i64 (k : Int)] 3 1 1 (Tch.refl [] _) (by simp)
        have h1c : ∀ u ∈ [Value.int IntKind.i64 (k : Int)], u.oneCell' = true := by intro u hu; simp at hu; subst hu; rfl
        go_wp2_with (at_builtin; refine wpList_append_any _ rfl _ _ 23 rfl 3 i0 (.int .i64 0) 1 8 Tryz.underlying23 hi hz0 hz1 hz2 rfl (by decide) (.slice oo m.length oc) m.length (ints m) rfl hown0 [] _ 1 [Value.int IntKind.i64 (k : Int)] rfl hsrc rfl h1c hbnd ?_; intro ao1 cap1 w1 hown hgrow hat)
        go_roundw
        case rel =>
          refine ⟨k + 1, m ++ [(k : Int)], by omega, by go_num, by simp; omega, by simpa [ints] using hown, ?_, ?_, (ht.alloc _).grown hgrow (fun g h => .inr (hg g h))⟩
          · intro g h
            rcases hat with e | e
            · exact hg g (e ▸ h)
            · rw [e] at h
              have := ht.size
              simp at h
              omega
          · intro y hy
            rcases List.mem_append.1 hy with h' | h'
            · exact hmr y h'
            · simp at h'; omega
        case measure => simp [intOf]; omega
    · have hM := h.tch ht (by simp)
      cases hm0 : (((m.length : Nat) : Int) == 0)
      · have hm1 : 0 < m.length := by have := beq_eq_false_iff_ne.1 hm0; omega
        go_wp2_with fail
        refine (mk_next _ p row c n q kd d hM hn6 hnl (by omega)).mono ?_
        rintro e w2 ⟨v, q', rfl, hv6, hM2, L2⟩
        obtain ⟨j, hj⟩ : ∃ j : Nat, v % (m.length : Int) = (j : Int) := ⟨(v % (m.length : Int)).toNat, by have := Int.emod_nonneg v (show (m.length : Int) ≠ 0 by omega); omega⟩
        have hjl : j < m.length := by have := Int.emod_lt_of_pos v (show (0 : Int) < (m.length : Int) by omega); omega
        have hpk := fun w => hand_Pick v m.length hv6 (by omega) (by omega) w
        rw [hj] at hpk
        have hs := src_of_owns ho [p, row] (fun g hx hx2 => by have := hg g hx; have := h.lt; have := h.row_lt; simp at hx2; omega)
        obtain ⟨ad, rfl, had1, had2, hcj⟩ := (hs.tch L2.t (fun i hi _ => hi)).at (j := j) (by simpa using hjl)
        have hcj2 : w2.cell? (ad.add j) = some (.int .i64 m[j]) := by simpa [ints] using hcj
        have hr2 := hmr m[j] (List.getElem_mem hjl)
        clear hj c3 c3r hcj ho
        generalize m[j] = x at *
        go_wp2_with fail
        refine (hpk _).mono ?_
        rintro e w' ⟨rfl, rfl⟩
        go_wp2_with fail
        go_ret2
        have L1 : Lk p row c.length q 0 w row c.length q wr := ⟨by omega, by omega, .inl rfl, ht.nil⟩
        exact ⟨x, true, q', rfl, ⟨hr2.1, fun _ => hr2.2⟩, hM2, by simpa using L1.trans L2⟩
      · go_wp2_with fail
        go_ret2
        exact ⟨0, false, q, rfl, ⟨by omega, fun e => by cases e⟩, hM, ⟨by omega, by omega, .inl rfl, ht.nil⟩⟩
end Go.Proofs.YtapephelfijcbaaGreatDoor
