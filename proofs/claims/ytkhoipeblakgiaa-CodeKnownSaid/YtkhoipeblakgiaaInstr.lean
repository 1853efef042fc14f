/-
  CONTRACTS: Read of code and taciturnref1, all of it; an instruction of raw numbers. Conditions: the reader's bytes lie in blocks that nobody turns.
-/
import Derived.Test.YtkhoipeblakgiaaRead
import Derived.Test.YtkhoipeblakgiaaHand
import Derived.StillTailTactics
namespace Go.Tcn
set_option linter.unusedVariables false
set_option linter.unusedSimpArgs false
/-- A number of 64 bits. -/
def I6 (n : Int) : Prop := -9223372036854775808 ≤ n ∧ n ≤ 9223372036854775807
/-- Four cells of a block. -/
structure Bq (w : World) (g : Nat) (x y z u : Value) : Prop where
  c0 : w.cell? ⟨g, 0, none⟩ = some x
  c1 : w.cell? ⟨g, 1, none⟩ = some y
  c2 : w.cell? ⟨g, 2, none⟩ = some z
  c3 : w.cell? ⟨g, 3, none⟩ = some u
theorem Bq.tch {w w' : World} {L : List Nat} {g : Nat} {x y z u : Value} (h : Bq w g x y z u) (t : Tch L w w') (hg : g ∉ L) : Bq w' g x y z u :=
  ⟨by rw [t.cell (cell_lt h.c0) hg]; exact h.c0, by rw [t.cell (cell_lt h.c1) hg]; exact h.c1, by rw [t.cell (cell_lt h.c2) hg]; exact h.c2, by rw [t.cell (cell_lt h.c3) hg]; exact h.c3⟩
theorem Bq.new (w : World) (x y z u : Value) (T : TypeId) : Bq (w.alloc (.cells #[x, y, z, u] T)) w.heap.size x y z u := ⟨by simp [go_sem], by simp [go_sem], by simp [go_sem], by simp [go_sem]⟩
end Go.Tcn
namespace Go.Proofs.Ytkhoipeblakgiaa
open Go.RowKit Go.Tcn
set_option linter.unusedVariables false
set_option linter.unusedSimpArgs false

theorem code_Read (w : World) (p : Nat) (L : List Nat) (l : List Int) (lack : Bool) (h : Rd w 69 p L l lack) (hb : l.length ≤ 140737488355328) (x : (Int × Int × Int) × Int × List Int × Bool) (hx : readI l lack = x) :
    Calls Try.prog 19 #[.pointer (some ⟨p, 0, none⟩)] w fun e w' => e = .returned (.tuple #[.agg #[.int .i64 x.1.1, .int .i64 x.1.2.1, .int .i64 x.1.2.2], .int .i64 x.2.1]) ∧ Rd w' 69 p L x.2.2.1 x.2.2.2 ∧ Tch [p] w w' := by
  cases hs : rdOk l lack 1
  · rw [readI_short l lack hs] at hx
    subst hx
    exact code_Read_short w p L l lack h hb hs
  · by_cases hok : 1 ≤ beN (rdOut l lack 1) ∧ beN (rdOut l lack 1) ≤ 39
    · exact code_Read_ok w p L l lack h hb hs hok x hx
    · rw [readI_op l lack hs hok] at hx
      subst hx
      exact code_Read_op w p L l lack h hb hs hok

theorem ref_Read (w : World) (p : Nat) (L : List Nat) (l : List Int) (lack : Bool) (h : Rd w 46 p L l lack) (hb : l.length ≤ 140737488355328) (x : (Int × Int × Int) × Int × List Int × Bool) (hx : readI l lack = x) :
    Calls Try.prog 20 #[.pointer (some ⟨p, 0, none⟩)] w fun e w' => e = .returned (.tuple #[.agg #[.int .i64 x.1.1, .int .i64 x.1.2.1, .int .i64 x.1.2.2], .int .i64 x.2.1]) ∧ Rd w' 46 p L x.2.2.1 x.2.2.2 ∧ Tch [p] w w' := by
  cases hs : rdOk l lack 1
  · rw [readI_short l lack hs] at hx
    subst hx
    exact ref_Read_short w p L l lack h hb hs
  · by_cases hok : 1 ≤ beN (rdOut l lack 1) ∧ beN (rdOut l lack 1) ≤ 39
    · exact ref_Read_ok w p L l lack h hb hs hok x hx
    · rw [readI_op l lack hs hok] at hx
      subst hx
      exact ref_Read_op w p L l lack h hb hs hok

theorem arr_at (a b : Int) (ha : I6 a) : ∃ v, I6 v ∧ ∀ w, (Instr.index 61 (.agg #[.int .i64 a, .int .i64 0, .int .i64 119, .int .i64 120, .int .i64 (-1), .int .i64 2147483647, .int .i64 (-2147483648), .int .i64 2147483648]) (.int .i64 (b % 8))).run Try.prog w = .ok (.int .i64 v) w := by
  have h : b % 8 = 0 ∨ b % 8 = 1 ∨ b % 8 = 2 ∨ b % 8 = 3 ∨ b % 8 = 4 ∨ b % 8 = 5 ∨ b % 8 = 6 ∨ b % 8 = 7 := by omega
  unfold I6 at *
  rcases h with h | h | h | h | h | h | h | h
  all_goals rw [h]
  · exact ⟨a, ha, fun _ => by kernel_rfl⟩
  · exact ⟨0, by omega, fun _ => by kernel_rfl⟩
  · exact ⟨119, by omega, fun _ => by kernel_rfl⟩
  · exact ⟨120, by omega, fun _ => by kernel_rfl⟩
  · exact ⟨-1, by omega, fun _ => by kernel_rfl⟩
  · exact ⟨2147483647, by omega, fun _ => by kernel_rfl⟩
  · exact ⟨-2147483648, by omega, fun _ => by kernel_rfl⟩
  · exact ⟨2147483648, by omega, fun _ => by kernel_rfl⟩
/-- What holds of instr's variables: gq: the raw ones; g3: the instruction. -/
def InR (w : World) (gq g2 g3 : Nat) (o a b c op : Int) (wz : World) : Prop := ∃ x y, I6 x ∧ I6 y ∧ By wz g3 (.int .i64 op) (.int .i64 x) (.int .i64 y) ∧ By wz g2 (.int .i64 0) (.int .i64 0) (.int .i64 0) ∧ Bq wz gq (.int .i64 o) (.int .i64 a) (.int .i64 b) (.int .i64 c) ∧ Tch [] w wz
theorem InR.set1 {w wz : World} {gq g2 g3 : Nat} {o a b c op : Int} (h : InR w gq g2 g3 o a b c op wz) (h2 : gq ≠ g3) (h3 : g2 ≠ g3) (h4 : w.heap.size ≤ g3) (x : Int) (hx : I6 x) : InR w gq g2 g3 o a b c op (wz.setCell ⟨g3, 1, none⟩ (.int .i64 x)) := by
  obtain ⟨x', y, hx', hy, k1, k2, k3, t⟩ := h
  have tt := (Tch.refl [g3] wz).setCell (p := ⟨g3, 1, none⟩) (by simp) (.int .i64 x)
  exact ⟨x, y, hx, hy, k1.set1 _, k2.tch tt (by simpa using h3), k3.tch tt (by simpa using h2), t.setCell (.inr h4) _⟩
theorem InR.set2 {w wz : World} {gq g2 g3 : Nat} {o a b c op : Int} (h : InR w gq g2 g3 o a b c op wz) (h2 : gq ≠ g3) (h3 : g2 ≠ g3) (h4 : w.heap.size ≤ g3) (y : Int) (hy : I6 y) : InR w gq g2 g3 o a b c op (wz.setCell ⟨g3, 2, none⟩ (.int .i64 y)) := by
  obtain ⟨x, y', hx, hy', k1, k2, k3, t⟩ := h
  have tt := (Tch.refl [g3] wz).setCell (p := ⟨g3, 2, none⟩) (by simp) (.int .i64 y)
  exact ⟨x, y, hx, hy, k1.set2 _, k2.tch tt (by simpa using h3), k3.tch tt (by simpa using h2), t.setCell (.inr h4) _⟩
theorem InR.drew {w wz : World} {gq g2 g3 : Nat} {o a b c op : Int} (h : InR w gq g2 g3 o a b c op wz) : InR w gq g2 g3 o a b c op wz.drew := by
  obtain ⟨x, y, hx, hy, k1, k2, k3, t⟩ := h
  have tt := (Tch.refl [] wz).drew
  exact ⟨x, y, hx, hy, k1.tch tt (by simp), k2.tch tt (by simp), k3.tch tt (by simp), t.drew⟩
theorem rem23 (c : Int) : -23 < c.tmod 23 ∧ c.tmod 23 < 23 := ⟨Int.lt_tmod_of_pos c (by omega), Int.tmod_lt_of_pos c (by omega)⟩
theorem rem29 (c : Int) : -29 < c.tmod 29 ∧ c.tmod 29 < 29 := ⟨Int.lt_tmod_of_pos c (by omega), Int.tmod_lt_of_pos c (by omega)⟩
set_option maxRecDepth 100000 in
set_option maxHeartbeats 4000000 in
theorem law3_instr (w : World) (o a b c : Int) (ho : I6 o) (ha : I6 a) (hb : I6 b) (hc : I6 c) :
    Calls Try.prog 9 #[.agg #[.int .i64 o, .int .i64 a, .int .i64 b, .int .i64 c]] w fun e w' => ∃ op x y, e = .returned (.agg #[.int .i64 op, .int .i64 x, .int .i64 y]) ∧ I6 op ∧ I6 x ∧ I6 y ∧ Tch [] w w' := by
  have po := fun w => hand_Pick o 41 ho (by omega) (by omega) w
  have pa := fun w => hand_Pick a 14 ha (by omega) (by omega) w
  have pb8 := fun w => hand_Pick b 8 hb (by omega) (by omega) w
  have pb9 := fun w => hand_Pick b 9 hb (by omega) (by omega) w
  have r41 : 0 ≤ o % 41 ∧ o % 41 < 41 := by omega
  have r14 : 0 ≤ a % 14 ∧ a % 14 < 14 := by omega
  have r9 : 0 ≤ b % 9 ∧ b % 9 < 9 := by omega
  obtain ⟨v, hv, hidx⟩ := arr_at a b ha
  have hop := fun w => ref_Operands (o % 41) w
  have c23 := rem23 c
  have c29 := rem29 c
  go_enter Try.func9, Try.ntmps9
  go_wp2_with fail
  refine (po _).mono ?_
  rintro e w' ⟨rfl, rfl⟩
  have I0 : InR w w.heap.size (w.heap.size + 1) (w.heap.size + 2) o a b c (o % 41) (((w.alloc (.cells #[.int .i64 o, .int .i64 a, .int .i64 b, .int .i64 c] 23)).alloc (.cells #[.int .i64 0, .int .i64 0, .int .i64 0] 25)).alloc (.cells #[.int .i64 (o % 41), .int .i64 0, .int .i64 0] 25)) := by
    refine ⟨0, 0, by unfold I6; omega, by unfold I6; omega, ?_, ?_, ?_, (((Tch.refl [] w).alloc _).alloc _).alloc _⟩
    · have := By.new ((w.alloc (.cells #[.int .i64 o, .int .i64 a, .int .i64 b, .int .i64 c] 23)).alloc (.cells #[.int .i64 0, .int .i64 0, .int .i64 0] 25)) (.int .i64 (o % 41)) (.int .i64 0) (.int .i64 0) 25
      simpa using this
    · have := By.new (w.alloc (.cells #[.int .i64 o, .int .i64 a, .int .i64 b, .int .i64 c] 23)) (.int .i64 0) (.int .i64 0) (.int .i64 0) 25
      simpa using this.tch ((Tch.refl [] _).alloc (.cells #[.int .i64 (o % 41), .int .i64 0, .int .i64 0] 25)) (by simp)
    · have := Bq.new w (.int .i64 o) (.int .i64 a) (.int .i64 b) (.int .i64 c) 23
      exact (this.tch ((Tch.refl [] _).alloc (.cells #[.int .i64 0, .int .i64 0, .int .i64 0] 25)) (by simp)).tch ((Tch.refl [] _).alloc (.cells #[.int .i64 (o % 41), .int .i64 0, .int .i64 0] 25)) (by simp)
  go_upto_region 2 with fail
  generalize (((w.alloc (.cells #[.int .i64 o, .int .i64 a, .int .i64 b, .int .i64 c] 23)).alloc (.cells #[.int .i64 0, .int .i64 0, .int .i64 0] 25)).alloc (.cells #[.int .i64 (o % 41), .int .i64 0, .int .i64 0] 25)) = W at I0 ⊢
  generalize o % 41 = op at *
  have n1 : w.heap.size ≠ w.heap.size + 2 := by omega
  have n2 : w.heap.size + 1 ≠ w.heap.size + 2 := by omega
  have n3 : w.heap.size ≤ w.heap.size + 2 := by omega
  have hn : 0 ≤ opndN op ∧ opndN op ≤ 2 := by unfold opndN; split <;> (try split) <;> omega
  have iv : ∀ x : Int, -100 ≤ x → x ≤ 100 → I6 x := fun x h1 h2 => by unfold I6; omega
  generalize opndN op = n at *
  obtain ⟨_, _, _, _, ⟨d0, d1, d2, g0, g1, g2⟩, _, ⟨q0, q1, q2, q3⟩, _⟩ := id I0
  go_upto_if 13 with (go_at_call 26; refine (hop _).mono ?_; rintro e w' ⟨rfl, rfl⟩)
  clear d0 d1 d2 g0 g1 g2 q0 q1 q2 q3
  go_cut [] (fun wz => InR w w.heap.size (w.heap.size + 1) (w.heap.size + 2) o a b c op wz)
  case first =>
    by_cases h0 : 0 < n
    · have I1 := I0.set1 n1 n2 n3 (a % 14 - 1) (iv _ (by omega) (by omega))
      have hcs : op = 1 ∨ op = 23 ∨ op = 24 ∨ (op ≠ 1 ∧ op ≠ 23 ∧ op ≠ 24) := by omega
      obtain ⟨_, _, _, _, ⟨d0, d1, d2, g0, g1, g2⟩, _, ⟨q0, q1, q2, q3⟩, _⟩ := id I0
      rcases hcs with rfl | rfl | rfl | ⟨k1, k2, k3⟩
      · go_wp2_with fail
        refine (pa _).mono ?_
        rintro e w' ⟨rfl, rfl⟩
        go_upto_region 5 with fail
        clear d0 d1 d2 g0 g1 g2 q0 q1 q2 q3
        generalize W.setCell ⟨w.heap.size + 2, 1, none⟩ (.int .i64 (a % 14 - 1)) = W1 at *
        obtain ⟨_, _, _, _, ⟨d0, d1, d2, g0, g1, g2⟩, _, ⟨q0, q1, q2, q3⟩, _⟩ := id I1
        go_upto_region 6 with fail
        go_still_tail 8, (by kernel_rfl)
        still_call ((pb8 _).mono fun _ _ h => ⟨h.1, h.2.symm⟩)
        repeat still_step
        refine wpStill_nil ?_
        go_wp2_with fail
        go_meet
        case rel => exact I1.drew.set1 n1 n2 n3 _ hv
      · go_wp2_with fail
        refine (pa _).mono ?_
        rintro e w' ⟨rfl, rfl⟩
        go_upto_region 5 with fail
        clear d0 d1 d2 g0 g1 g2 q0 q1 q2 q3
        generalize W.setCell ⟨w.heap.size + 2, 1, none⟩ (.int .i64 (a % 14 - 1)) = W1 at *
        obtain ⟨_, _, _, _, ⟨d0, d1, d2, g0, g1, g2⟩, _, ⟨q0, q1, q2, q3⟩, _⟩ := id I1
        go_upto_region 6 with fail
        go_still_tail 8, (by kernel_rfl)
        still_call ((pb8 _).mono fun _ _ h => ⟨h.1, h.2.symm⟩)
        repeat still_step
        refine wpStill_nil ?_
        go_wp2_with fail
        go_meet
        case rel => exact I1.drew.set1 n1 n2 n3 _ hv
      · go_wp2_with fail
        refine (pa _).mono ?_
        rintro e w' ⟨rfl, rfl⟩
        go_upto_region 5 with fail
        clear d0 d1 d2 g0 g1 g2 q0 q1 q2 q3
        generalize W.setCell ⟨w.heap.size + 2, 1, none⟩ (.int .i64 (a % 14 - 1)) = W1 at *
        obtain ⟨_, _, _, _, ⟨d0, d1, d2, g0, g1, g2⟩, _, ⟨q0, q1, q2, q3⟩, _⟩ := id I1
        go_upto_region 6 with fail
        go_still_tail 8, (by kernel_rfl)
        still_call ((pb8 _).mono fun _ _ h => ⟨h.1, h.2.symm⟩)
        repeat still_step
        refine wpStill_nil ?_
        go_wp2_with fail
        go_meet
        case rel => exact I1.drew.set1 n1 n2 n3 _ hv
      · have m1 : (op == 1) = false := beq_eq_false_iff_ne.2 k1
        have m2 : (op == 23) = false := beq_eq_false_iff_ne.2 k2
        have m3 : (op == 24) = false := beq_eq_false_iff_ne.2 k3
        go_wp2_with fail
        refine (pa _).mono ?_
        rintro e w' ⟨rfl, rfl⟩
        go_wp2_with fail
        go_meet
        case rel => exact I1
    · go_wp2_with fail
      go_meet
      case rel => exact I0
  case rest =>
    go_upto_if 41 with fail
    go_cut [] (fun wz => InR w w.heap.size (w.heap.size + 1) (w.heap.size + 2) o a b c op wz)
    case first =>
      by_cases h1 : 1 < n
      · obtain ⟨_, _, _, _, ⟨d0, d1, d2, g0, g1, g2⟩, _, ⟨q0, q1, q2, q3⟩, _⟩ := id hcut
        go_wp2_with fail
        refine (pb9 _).mono ?_
        rintro e w' ⟨rfl, rfl⟩
        go_wp2_with fail
        go_meet
        case rel => exact hcut.set2 n1 n2 n3 _ (iv _ (by omega) (by omega))
      · go_wp2_with fail
        go_meet
        case rel => exact hcut
    case rest =>
      obtain ⟨_, _, _, _, ⟨d0, d1, d2, g0, g1, g2⟩, _, ⟨q0, q1, q2, q3⟩, _⟩ := id hcut
      go_upto_if 50 with fail
      clear d0 d1 d2 g0 g1 g2 q0 q1 q2 q3
      go_cut [] (fun wz => InR w w.heap.size (w.heap.size + 1) (w.heap.size + 2) o a b c op wz)
      case first =>
        obtain ⟨_, _, _, _, ⟨d0, d1, d2, g0, g1, g2⟩, _, ⟨q0, q1, q2, q3⟩, _⟩ := id hcut
        cases hz : (c.tmod 23 == 22)
        · go_wp2_with fail
          go_meet
          case rel => exact hcut
        · go_wp2_with fail
          go_meet
          case rel => exact hcut.set2 n1 n2 n3 _ hb
      case rest =>
        obtain ⟨_, _, _, _, ⟨d0, d1, d2, g0, g1, g2⟩, _, ⟨q0, q1, q2, q3⟩, _⟩ := id hcut
        go_upto_if 57 with fail
        clear d0 d1 d2 g0 g1 g2 q0 q1 q2 q3
        go_cut [] (fun wz => InR w w.heap.size (w.heap.size + 1) (w.heap.size + 2) o a b c op wz)
        case first =>
          obtain ⟨_, _, _, _, ⟨d0, d1, d2, g0, g1, g2⟩, _, ⟨q0, q1, q2, q3⟩, _⟩ := id hcut
          cases hz : (c.tmod 29 == 28)
          · go_wp2_with fail
            go_meet
            case rel => exact hcut
          · go_wp2_with fail
            go_meet
            case rel => exact hcut.set1 n1 n2 n3 _ ha
        case rest =>
          obtain ⟨x, y, hx, hy, ⟨d0, d1, d2, g0, g1, g2⟩, ⟨c0, c1, c2, f0, f1, f2⟩, _, tz⟩ := hcut
          go_wp2_with fail
          refine bodyPost_ret (v := .agg #[.int .i64 op, .int .i64 x, .int .i64 y]) (by simp [results, Try.results9, go_sem, c0, c1, c2, f0, f1, f2]) rfl ?_
          exact ⟨op, x, y, rfl, by unfold I6; omega, hx, hy, ((tz.setCell (.inr (by simp)) _).setCell (.inr (by simp)) _).setCell (.inr (by simp)) _⟩
end Go.Proofs.Ytkhoipeblakgiaa
