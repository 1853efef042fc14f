/-
  CONTRACTS: Read of code and taciturnref1, all of it; an instruction of raw numbers. Conditions: the reader's bytes lie in blocks that nobody turns.
-/
import Derived.Test.YtapephelfijcbaaDoorRead
import Derived.Test.YtapephelfijcbaaDoorHand
import Derived.StillTailTactics
namespace Go.Proofs.YtapephelfijcbaaDoor
open Go.RowKit Go.Tcn
set_option linter.unusedVariables false
set_option linter.unusedSimpArgs false

theorem code_Read (w : World) (p : Nat) (L : List Nat) (l : List Int) (lack : Bool) (h : Rd w 92 p L l lack) (hb : l.length ≤ 140737488355328) (x : (Int × Int × Int) × Int × List Int × Bool) (hx : readI l lack = x) :
    Calls Tryd.prog 61 #[.pointer (some ⟨p, 0, none⟩)] w fun e w' => e = .returned (.tuple #[.agg #[.int .i64 x.1.1, .int .i64 x.1.2.1, .int .i64 x.1.2.2], .int .i64 x.2.1]) ∧ Rd w' 92 p L x.2.2.1 x.2.2.2 ∧ Tch [p] w w' := by
  cases hs : rdOk l lack 1
  · rw [readI_short l lack hs] at hx
    subst hx
    exact code_Read_short w p L l lack h hb hs
  · by_cases hok : 1 ≤ beN (rdOut l lack 1) ∧ beN (rdOut l lack 1) ≤ 39
    · exact code_Read_ok w p L l lack h hb hs hok x hx
    · rw [readI_op l lack hs hok] at hx
      subst hx
      exact code_Read_op w p L l lack h hb hs hok

theorem arr_at (a b : Int) (ha : I6 a) : ∃ v, I6 v ∧ ∀ w, (Instr.index 130 (.agg #[.int .i64 a, .int .i64 0, .int .i64 119, .int .i64 120, .int .i64 (-1), .int .i64 2147483647, .int .i64 (-2147483648), .int .i64 2147483648]) (.int .i64 (b % 8))).run Tryd.prog w = .ok (.int .i64 v) w := by
  have h : b % 8 = 0 ∨ b % 8 = 1 ∨ b % 8 = 2 ∨ b % 8 = 3 ∨ b % 8 = 4 ∨ b % 8 = 5 ∨ b % 8 = 6 ∨ b % 8 = 7 := by omega
  unfold I6 at *
  rcases h with h | h | h | h | h | h | h | h
  all_goals rw [h]
  · exact ⟨a, ha, fun _ => by kernel_rfl⟩
  · exact ⟨0, by omega, fun _ => by kernel_rfl⟩
  · exact ⟨119, by omega, fun _ => by kernel_rfl⟩
  · exact ⟨120, by omega, fun _ => by kernel_rfl⟩
  · exact ⟨-1, by omega, fun _ => by kernel_rfl⟩
  · exact ⟨2147483647, by omega, fun _ => by kernel_rfl⟩
  · exact ⟨-2147483648, by omega, fun _ => by kernel_rfl⟩
  · exact ⟨2147483648, by omega, fun _ => by kernel_rfl⟩
/-- What holds of instr's variables: gq: the raw ones; g3: the instruction. -/
def InR (w : World) (gq g2 g3 : Nat) (o a b c op : Int) (wz : World) : Prop := ∃ x y, I6 x ∧ I6 y ∧ By wz g3 (.int .i64 op) (.int .i64 x) (.int .i64 y) ∧ By wz g2 (.int .i64 0) (.int .i64 0) (.int .i64 0) ∧ Bq wz gq (.int .i64 o) (.int .i64 a) (.int .i64 b) (.int .i64 c) ∧ Tch [] w wz
theorem InR.set1 {w wz : World} {gq g2 g3 : Nat} {o a b c op : Int} (h : InR w gq g2 g3 o a b c op wz) (h2 : gq ≠ g3) (h3 : g2 ≠ g3) (h4 : w.heap.size ≤ g3) (x : Int) (hx : I6 x) : InR w gq g2 g3 o a b c op (wz.setCell ⟨g3, 1, none⟩ (.int .i64 x)) := by
  obtain ⟨x', y, hx', hy, k1, k2, k3, t⟩ := h
  have tt := (Tch.refl [g3] wz).setCell (p := ⟨g3, 1, none⟩) (by simp) (.int .i64 x)
  exact ⟨x, y, hx, hy, k1.set1 _, k2.tch tt (by simpa using h3), k3.tch tt (by simpa using h2), t.setCell (.inr h4) _⟩
theorem InR.set2 {w wz : World} {gq g2 g3 : Nat} {o a b c op : Int} (h : InR w gq g2 g3 o a b c op wz) (h2 : gq ≠ g3) (h3 : g2 ≠ g3) (h4 : w.heap.size ≤ g3) (y : Int) (hy : I6 y) : InR w gq g2 g3 o a b c op (wz.setCell ⟨g3, 2, none⟩ (.int .i64 y)) := by
  obtain ⟨x, y', hx, hy', k1, k2, k3, t⟩ := h
  have tt := (Tch.refl [g3] wz).setCell (p := ⟨g3, 2, none⟩) (by simp) (.int .i64 y)
  exact ⟨x, y, hx, hy, k1.set2 _, k2.tch tt (by simpa using h3), k3.tch tt (by simpa using h2), t.setCell (.inr h4) _⟩
theorem InR.drew {w wz : World} {gq g2 g3 : Nat} {o a b c op : Int} (h : InR w gq g2 g3 o a b c op wz) : InR w gq g2 g3 o a b c op wz.drew := by
  obtain ⟨x, y, hx, hy, k1, k2, k3, t⟩ := h
  have tt := (Tch.refl [] wz).drew
  exact ⟨x, y, hx, hy, k1.tch tt (by simp), k2.tch tt (by simp), k3.tch tt (by simp), t.drew⟩
theorem rem23 (c : Int) : -23 < c.tmod 23 ∧ c.tmod 23 < 23 := ⟨Int.lt_tmod_of_pos c (by omega), Int.tmod_lt_of_pos c (by omega)⟩
theorem rem29 (c : Int) : -29 < c.tmod 29 ∧ c.tmod 29 < 29 := ⟨Int.lt_tmod_of_pos c (by omega), Int.tmod_lt_of_pos c (by omega)⟩
end Go.Proofs.YtapephelfijcbaaDoor
