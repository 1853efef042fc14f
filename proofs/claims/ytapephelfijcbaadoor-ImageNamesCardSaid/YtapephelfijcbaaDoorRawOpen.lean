/-
  RAW INSTRUCTIONS THAT CAME IN, opened. Conditions: none.
-/
import Derived.Test.YtapephelfijcbaaDoorRaw
import Derived.Test.YtapephelfijcbaaDoorClose
import Derived.Lib.SmallJoins
namespace Go.Proofs.YtapephelfijcbaaDoor
open Go.Tcn Go.RowKit Go.ChangeShapes Go.WideShapes Go.Deep
set_option linter.unusedVariables false
set_option linter.unusedSimpArgs false
set_option maxRecDepth 100000
theorem cells_raw : Tryd.prog.cellsOf 114 = 4 := by kernel_rfl
theorem cells_int1 : Tryd.prog.cellsOf 3 = 1 := by kernel_rfl
theorem i6_of_wf {n : Int} (h : (Lit.int .i64 n).wf = true) : I6 n := by
  simp [Lit.wf, IntKind.min, IntKind.max, IntKind.signed, IntKind.bits] at h
  exact h
section
variable {H : Type} {enc : TypeId × Value → H}
theorem open_raw_cells {W : World} {fuel : Nat} {cs : List Value} {x : DataW H × List MemPlace} (h : DataW.trod enc Tryd.prog W 0 (fun _ => true) true fuel 114 cs = some x) :
    ∃ r : Rw, cs = (rawCells r).toList ∧ x = (.agg [.lit (.int .i64 r.1), .lit (.int .i64 r.2.1), .lit (.int .i64 r.2.2.1), .lit (.int .i64 r.2.2.2)], []) ∧ I6 r.1 ∧ I6 r.2.1 ∧ I6 r.2.2.1 ∧ I6 r.2.2.2 := by
  obtain ⟨y0, y1, y2, y3, n, rfl, hl, h0, h1, h2, h3⟩ := Joins.trod_struct4 Tryd.underlying114 h
  rw [cells_raw] at hl
  match cs, hl with
  | [c0, c1, c2, c3], _ =>
    simp only [cells_int1] at h0 h1 h2 h3
    obtain ⟨a0, e0, rfl, w0⟩ := DataW.trod_int Tryd.underlying3 h0
    obtain ⟨a1, e1, rfl, w1⟩ := DataW.trod_int Tryd.underlying3 h1
    obtain ⟨a2, e2, rfl, w2⟩ := DataW.trod_int Tryd.underlying3 h2
    obtain ⟨a3, e3, rfl, w3⟩ := DataW.trod_int Tryd.underlying3 h3
    simp at e0 e1 e2 e3
    subst e0 e1 e2 e3
    exact ⟨(a0, a1, a2, a3), rfl, rfl, i6_of_wf w0, i6_of_wf w1, i6_of_wf w2, i6_of_wf w3⟩
theorem open_raw {W : World} {b0 : Nat} {v : Value} {d : DataW H} {p : List MemPlace} (hv : Value.okWide Tryd.prog W .any b0 114 v) (h : DataW.Trod enc Tryd.prog W 0 (fun _ => true) true 114 v d p) :
    ∃ o a b c, v = .agg #[.int .i64 o, .int .i64 a, .int .i64 b, .int .i64 c] ∧ d = .agg [.lit (.int .i64 o), .lit (.int .i64 a), .lit (.int .i64 b), .lit (.int .i64 c)] ∧ p = [] ∧ I6 o ∧ I6 a ∧ I6 b ∧ I6 c := by
  obtain ⟨v0, v1, v2, v3, y0, y1, y2, y3, n, rfl, rfl, rfl, h0, h1, h2, h3⟩ := Joins.open_agg4 Tryd.underlying114 (by kernel_rfl) cells_raw hv h
  obtain ⟨a0, e0, rfl, w0⟩ := DataW.trod_int Tryd.underlying3 h0
  obtain ⟨a1, e1, rfl, w1⟩ := DataW.trod_int Tryd.underlying3 h1
  obtain ⟨a2, e2, rfl, w2⟩ := DataW.trod_int Tryd.underlying3 h2
  obtain ⟨a3, e3, rfl, w3⟩ := DataW.trod_int Tryd.underlying3 h3
  simp at e0 e1 e2 e3
  subst e0 e1 e2 e3
  exact ⟨a0, a1, a2, a3, rfl, rfl, rfl, i6_of_wf w0, i6_of_wf w1, i6_of_wf w2, i6_of_wf w3⟩
theorem open_raws {W : World} {fuel : Nat} {v : Value} {d : DataW H} {ps : List MemPlace} (h : DataW.trod enc Tryd.prog W 0 (fun _ => true) true fuel 37 [v] = some (d, ps)) : ∃ l, Raws W v l := by
  rcases open_slice Tryd.underlying37 h with ⟨h1, h2⟩ | ⟨ad, len, cap, m, n, D, Pl, h1, _, hl, hm, hmm, hx, hel⟩
  · simp only [List.cons.injEq, and_true] at h1
    subst h1
    exact ⟨[], ⟨⟨none, 0, rfl, by simp, fun k x hk => by simp at hk⟩, fun x hx => by cases hx⟩⟩
  · simp only [List.cons.injEq, and_true] at h1
    subst h1
    simp only [Prod.mk.injEq] at hx
    obtain ⟨rfl, rfl⟩ := hx
    simp only [if_true] at hmm
    subst hmm
    have hmx : m ≤ 9223372036854775807 := by simpa [maxLen] using hm
    have hall : ∀ i, i < len → ∃ x : Rw, (∀ (j : Nat) u, (rawCells x).toList[j]? = some u → W.cell? ((ad.add (i * 4)).add j) = some u) ∧ I6 x.1 ∧ I6 x.2.1 ∧ I6 x.2.2.1 ∧ I6 x.2.2.2 := by
      intro i hi
      obtain ⟨cs', hc1, hc2⟩ := hel i (by omega)
      obtain ⟨r, rfl, _, hr⟩ := open_raw_cells hc2
      obtain ⟨_, _, hc3⟩ := World.cells?_some hc1
      rw [cells_raw] at hc3
      refine ⟨r, fun j u hj => ?_, hr⟩
      have hj4 : j < 4 := by have := (List.getElem?_eq_some_iff.1 hj).1; simpa [rawCells] using this
      rw [hc3 j hj4]; exact hj
    obtain ⟨f, hf⟩ := choose_lt4 hall
    refine ⟨(List.range len).map f, ⟨⟨some ad, m, by simp, by simp; omega, fun k x hk => ?_⟩, fun x hx => ?_⟩⟩
    · have hk' := hk
      rw [List.getElem?_map] at hk'
      obtain ⟨k', hk1, rfl⟩ := Option.map_eq_some_iff.1 hk'
      have hlt : k < len := by have := (List.getElem?_eq_some_iff.1 hk1).1; simpa using this
      have : k' = k := by rw [List.getElem?_range hlt] at hk1; simpa using hk1.symm
      subst this
      obtain ⟨h1, _⟩ := hf k' hlt
      refine ⟨ad, rfl, ?_, h1⟩
      have := cell_lt (h1 0 _ rfl)
      rwa [Addr_add_block, Addr_add_block] at this
    · simp at hx
      obtain ⟨i, hi, rfl⟩ := hx
      exact (hf i hi).2
/-- A slice that came in is no longer than its capacity. -/
theorem open_raws_cap {W : World} {fuel : Nat} {v : Value} {d : DataW H} {ps : List MemPlace} (h : DataW.trod enc Tryd.prog W 0 (fun _ => true) true fuel 37 [v] = some (d, ps)) : ∀ ao n c, v = .slice ao n c → n ≤ c := by
  rcases open_slice Tryd.underlying37 h with ⟨h1, h2⟩ | ⟨ad, len, cap, m, n, D, Pl, h1, _, hl, hm, hmm, hx, hel⟩
  · simp only [List.cons.injEq, and_true] at h1
    subst h1
    intro ao n c e
    simp only [Value.slice.injEq] at e
    omega
  · simp only [List.cons.injEq, and_true] at h1
    subst h1
    intro ao n c e
    simp only [Value.slice.injEq] at e
    omega
end
end Go.Proofs.YtapephelfijcbaaDoor
