/-
  HELPERS over any program: blocks of three and four cells; readers kept. Conditions: none.
-/
import Derived.Test.YtapephelfijcbaaDoorLib
namespace Go.Tcn
open Go.RowKit
set_option linter.unusedVariables false
set_option linter.unusedSimpArgs false
/-- A number of 64 bits. -/
def I6 (n : Int) : Prop := -9223372036854775808 ≤ n ∧ n ≤ 9223372036854775807
/-- Four cells of a block. -/
structure Bq (w : World) (g : Nat) (x y z u : Value) : Prop where
  c0 : w.cell? ⟨g, 0, none⟩ = some x
  c1 : w.cell? ⟨g, 1, none⟩ = some y
  c2 : w.cell? ⟨g, 2, none⟩ = some z
  c3 : w.cell? ⟨g, 3, none⟩ = some u
theorem Bq.tch {w w' : World} {L : List Nat} {g : Nat} {x y z u : Value} (h : Bq w g x y z u) (t : Tch L w w') (hg : g ∉ L) : Bq w' g x y z u :=
  ⟨by rw [t.cell (cell_lt h.c0) hg]; exact h.c0, by rw [t.cell (cell_lt h.c1) hg]; exact h.c1, by rw [t.cell (cell_lt h.c2) hg]; exact h.c2, by rw [t.cell (cell_lt h.c3) hg]; exact h.c3⟩
theorem Bq.new (w : World) (x y z u : Value) (T : TypeId) : Bq (w.alloc (.cells #[x, y, z, u] T)) w.heap.size x y z u := ⟨by simp [go_sem], by simp [go_sem], by simp [go_sem], by simp [go_sem]⟩
/-- Three cells of a block, not frozen. -/
structure By (w : World) (g : Nat) (x y z : Value) : Prop where
  c0 : w.cell? ⟨g, 0, none⟩ = some x
  c1 : w.cell? ⟨g, 1, none⟩ = some y
  c2 : w.cell? ⟨g, 2, none⟩ = some z
  f0 : w.frozen? ⟨g, 0, none⟩ = false
  f1 : w.frozen? ⟨g, 1, none⟩ = false
  f2 : w.frozen? ⟨g, 2, none⟩ = false
theorem By.tch {w w' : World} {L : List Nat} {g : Nat} {x y z : Value} (h : By w g x y z) (t : Tch L w w') (hg : g ∉ L) : By w' g x y z :=
  ⟨by rw [t.cell (cell_lt h.c0) hg]; exact h.c0, by rw [t.cell (cell_lt h.c1) hg]; exact h.c1, by rw [t.cell (cell_lt h.c2) hg]; exact h.c2,
   by rw [t.frozen (cell_lt h.c0) hg]; exact h.f0, by rw [t.frozen (cell_lt h.c1) hg]; exact h.f1, by rw [t.frozen (cell_lt h.c2) hg]; exact h.f2⟩
theorem By.lt {w : World} {g : Nat} {x y z : Value} (h : By w g x y z) : g < w.heap.size := cell_lt h.c0
theorem By.new (w : World) (x y z : Value) (T : TypeId) : By (w.alloc (.cells #[x, y, z] T)) w.heap.size x y z := ⟨by simp [go_sem], by simp [go_sem], by simp [go_sem], by simp [go_sem], by simp [go_sem], by simp [go_sem]⟩
theorem By.set1 {w : World} {g : Nat} {x y z : Value} (h : By w g x y z) (u : Value) : By (w.setCell ⟨g, 1, none⟩ u) g x u z := by
  obtain ⟨c0, c1, c2, f0, f1, f2⟩ := h
  exact ⟨by simp [go_sem, c0], by simp [go_sem, c1], by simp [go_sem, c2], by simp [go_sem, f0], by simp [go_sem, f1], by simp [go_sem, f2]⟩
theorem By.set2 {w : World} {g : Nat} {x y z : Value} (h : By w g x y z) (u : Value) : By (w.setCell ⟨g, 2, none⟩ u) g x y u := by
  obtain ⟨c0, c1, c2, f0, f1, f2⟩ := h
  exact ⟨by simp [go_sem, c0], by simp [go_sem, c1], by simp [go_sem, c2], by simp [go_sem, f0], by simp [go_sem, f1], by simp [go_sem, f2]⟩
theorem By.set0 {w : World} {g : Nat} {x y z : Value} (h : By w g x y z) (u : Value) : By (w.setCell ⟨g, 0, none⟩ u) g u y z := by
  obtain ⟨c0, c1, c2, f0, f1, f2⟩ := h
  exact ⟨by simp [go_sem, c0], by simp [go_sem, c1], by simp [go_sem, c2], by simp [go_sem, f0], by simp [go_sem, f1], by simp [go_sem, f2]⟩
theorem rdRest_le (l : List Int) (k : Bool) (n : Int) : (rdRest l k n).length ≤ l.length := by unfold rdRest; split <;> simp
theorem Rd.wide {w : World} {T : TypeId} {p : Nat} {L : List Nat} {l : List Int} {lack : Bool} (h : Rd w T p L l lack) {g : Nat} (hg : w.heap.size ≤ g) : Rd w T p (g :: L) l lack := h.mono (fun i hi hlt => by
  rcases List.mem_cons.1 hi with h | h
  · omega
  · exact h)
theorem Rd.thin {w : World} {T : TypeId} {p : Nat} {L : List Nat} {l : List Int} {lack : Bool} {g : Nat} (h : Rd w T p (g :: L) l lack) : Rd w T p L l lack := h.mono (fun i hi hlt => List.mem_cons_of_mem _ hi)
theorem Rd.lackCell {w : World} {T : TypeId} {p : Nat} {L : List Nat} {l : List Int} {lack : Bool} (h : Rd w T p L l lack) : w.cell? ⟨p, 1, none⟩ = some (.bool lack) := by
  obtain ⟨ao, cap, hv, _⟩ := h.ex
  exact (cells_two hv).2.1
theorem Rd.set {w : World} {T : TypeId} {p : Nat} {L : List Nat} {l : List Int} {lack : Bool} (h : Rd w T p L l lack) {q : Addr} (hq : q.block ∈ L) (hp : p ≠ q.block) (u : Value) : Rd (w.setCell q u) T p L l lack :=
  h.tch (L' := [q.block]) ((Tch.refl _ w).setCell (by simp) u) (by simpa using hp) (by simp; intro _; exact hq)
end Go.Tcn
