/-
  CHAPTER 1's STATEMENTS: words in common: raw steps as they lie in memory; two writers that hold the same. Conditions: none.
-/
import Derived.Test.YtkakoefdfjooeaaOctKnown
import Derived.Test.YtkakoefdfjooeaaHand
namespace Go.Proofs.Ytkakoefdfjooeaa
open Go.RowKit Go.Tcn
set_option linter.unusedVariables false
set_option linter.unusedSimpArgs false

/-- A step as it came: what, n, the bytes. -/
abbrev St := Int × Int × List Int
/-- A slice of steps, as it lies in memory. -/
structure Steps (w : World) (v : Value) (ls : List St) : Prop where
  ex : ∃ ao c, v = .slice ao ls.length c ∧ ls.length ≤ 9223372036854775807 ∧ ∀ k x, ls[k]? = some x → ∃ ad vb, ao = some ad ∧ ad.block < w.heap.size ∧
    (∀ j u, (#[Value.int .i64 x.1, .int .i64 x.2.1, vb] : Array Value).toList[j]? = some u → w.cell? ((ad.add (k * 3)).add j) = some u) ∧ Src w [] vb x.2.2.length (bys x.2.2)
  rng : ∀ x ∈ ls, (-9223372036854775808 ≤ x.1 ∧ x.1 ≤ 9223372036854775807) ∧ (-9223372036854775808 ≤ x.2.1 ∧ x.2.1 ≤ 9223372036854775807) ∧ Byt x.2.2 ∧ x.2.2.length ≤ 9223372036854775807
theorem Steps.tch {w w' : World} {v : Value} {ls : List St} (h : Steps w v ls) (ht : Tch [] w w') : Steps w' v ls := by
  obtain ⟨ao, c, hv, hl, hx⟩ := h.ex
  refine ⟨⟨ao, c, hv, hl, fun k x hk => ?_⟩, h.rng⟩
  obtain ⟨ad, vb, h1, h2, h3, h4⟩ := hx k x hk
  refine ⟨ad, vb, h1, Nat.lt_of_lt_of_le h2 ht.size, fun j u hj => ?_, h4.tch ht (by simp)⟩
  rw [ht.cell (by rw [Addr_add_block, Addr_add_block]; exact h2) (by simp)]
  exact h3 j u hj

/-- Two writers that hold the same bytes, apart from one another, in blocks from those of w on. -/
structure Two (w wr : World) (T1 T2 E p1 r1 p2 r2 : Nat) (m : List Int) : Prop where
  a : Wr wr T1 E p1 r1 m
  b : Wr wr T2 E p2 r2 m
  ne : p1 ≠ p2 ∧ p1 ≠ r2 ∧ r1 ≠ p2 ∧ r1 ≠ r2
  ge : w.heap.size ≤ p1 ∧ w.heap.size ≤ r1 ∧ w.heap.size ≤ p2 ∧ w.heap.size ≤ r2
  tch : Tch [] w wr
theorem Two.alloc {w wr wx : World} {T1 T2 E p1 r1 p2 r2 : Nat} {m : List Int} (h : Two w wr T1 T2 E p1 r1 p2 r2 m) (ht : Tch [] wr wx) : Two w wx T1 T2 E p1 r1 p2 r2 m :=
  ⟨h.a.tch ht (by simp) (by simp), h.b.tch ht (by simp) (by simp), h.ne, h.ge, h.tch.then ht⟩
/-- Behind a step of the first writer the second one still holds what it held. -/
theorem Two.mid {w wr wa : World} {T1 T2 E p1 r1 p2 r2 : Nat} {m : List Int} (h : Two w wr T1 T2 E p1 r1 p2 r2 m) (ht : Tch [p1, r1] wr wa) : Wr wa T2 E p2 r2 m := by
  obtain ⟨h1, h2, h3, h4⟩ := h.ne
  exact h.b.tch ht (by simp; omega) (by simp; omega)
theorem Two.step {w wr wa wb : World} {T1 T2 E p1 r1 p2 r2 ra rb : Nat} {m n : List Int} (h : Two w wr T1 T2 E p1 r1 p2 r2 m) (ha : Wr wa T1 E p1 ra n) (hra : ra = r1 ∨ wr.heap.size ≤ ra) (ta : Tch [p1, r1] wr wa)
    (hb : Wr wb T2 E p2 rb n) (hrb : rb = r2 ∨ wa.heap.size ≤ rb) (tb : Tch [p2, r2] wa wb) : Two w wb T1 T2 E p1 ra p2 rb n := by
  obtain ⟨h1, h2, h3, h4⟩ := h.ne
  obtain ⟨g1, g2, g3, g4⟩ := h.ge
  have l1 := h.a.lt
  have l2 := h.b.lt
  have l3 := h.b.row_lt
  have l4 := ha.row_lt
  have s1 := h.tch.size
  have s2 := ta.size
  refine ⟨ha.tch tb (by simp; omega) (by simp; omega), hb, by omega, by omega, ?_⟩
  refine (h.tch.trans (M := []) ta (by simp) ?_).trans (M := []) tb (by simp) ?_ <;> (intro i hi hx; simp at hx; omega)
end Go.Proofs.Ytkakoefdfjooeaa
