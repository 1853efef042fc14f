/-
  RAW STEPS THAT CAME IN, opened. Conditions: none.
-/
import Derived.Test.YtkakoefdfjooeaaLaw1
import Derived.Test.YtkakoefdfjooeaaBulk
namespace Go.Proofs.Ytkakoefdfjooeaa
open Go.Tcn Go.RowKit Go.ChangeShapes Go.WideShapes Go.Deep
set_option linter.unusedVariables false
set_option linter.unusedSimpArgs false
theorem cells_step : Try.prog.cellsOf 31 = 3 := by kernel_rfl
theorem cells_int : Try.prog.cellsOf 3 = 1 := by kernel_rfl
theorem cells_bytes : Try.prog.cellsOf 27 = 1 := by kernel_rfl
theorem wf_i64 {n : Int} (h : (Lit.int .i64 n).wf = true) : -9223372036854775808 ≤ n ∧ n ≤ 9223372036854775807 := by
  simp [Lit.wf, IntKind.min, IntKind.max, IntKind.signed, IntKind.bits] at h
  exact h
section
variable {H : Type} {enc : TypeId × Value → H}
theorem open_one {W : World} {fuel : Nat} {cs : List Value} {x : DataW H × List MemPlace} (h : DataW.trod enc Try.prog W 0 (fun _ => true) true fuel 31 cs = some x) :
    ∃ a n vb dB b, cs = [.int .i64 a, .int .i64 n, vb] ∧ x.1 = .agg [.lit (.int .i64 a), .lit (.int .i64 n), dB] ∧ (-9223372036854775808 ≤ a ∧ a ≤ 9223372036854775807) ∧ (-9223372036854775808 ≤ n ∧ n ≤ 9223372036854775807) ∧
      Src W [] vb b.length (bys b) ∧ Byt b ∧ b.length = dlen dB ∧ b.length ≤ 9223372036854775807 := by
  obtain ⟨y0, y1, y2, n, rfl, hl, h0, h1, h2⟩ := trod_struct3 Try.underlying31 h
  rw [cells_step] at hl
  match cs, hl with
  | [c0, c1, c2], _ =>
    simp only [cells_int, cells_bytes] at h0 h1 h2
    obtain ⟨a, e0, rfl, w0⟩ := DataW.trod_int Try.underlying3 h0
    obtain ⟨m, e1, rfl, w1⟩ := DataW.trod_int Try.underlying3 h1
    obtain ⟨dB, pB⟩ := y2
    simp at e0 e1 h2
    subst e0 e1
    obtain ⟨b, hb, hb2, hb3, hb4⟩ := open_src_bytes Try.underlying27 Try.underlying5 cells_u8 h2
    exact ⟨a, m, c2, dB, b, rfl, rfl, wf_i64 w0, wf_i64 w1, hb, hb2, hb3, hb4⟩
/-- Raw steps that came in: as they lie; each one's bytes are part of the datum. -/
theorem open_steps {W : World} {fuel : Nat} {v : Value} {d : DataW H} {ps : List MemPlace} (h : DataW.trod enc Try.prog W 0 (fun _ => true) true fuel 22 [v] = some (d, ps)) :
    ∃ ls, Steps W v ls ∧ ∀ x ∈ ls, x.2.2.length ≤ Rows.uptoBulk d := by
  rcases open_slice Try.underlying22 h with ⟨h1, h2⟩ | ⟨ad, len, cap, m, n, D, Pl, h1, _, hl, hm, hmm, hx, hel⟩
  · simp only [List.cons.injEq, and_true] at h1
    subst h1
    exact ⟨[], ⟨⟨none, 0, rfl, by simp, fun k x hk => by simp at hk⟩, fun x hx => by cases hx⟩, fun x hx => by cases hx⟩
  · simp only [List.cons.injEq, and_true] at h1
    subst h1
    simp only [Prod.mk.injEq] at hx
    obtain ⟨rfl, rfl⟩ := hx
    simp only [if_true] at hmm
    subst hmm
    have hmx : m ≤ 9223372036854775807 := by simpa [maxLen] using hm
    have hall : ∀ i, i < len → ∃ (x : St), ∃ vb, (∀ j u, (#[Value.int .i64 x.1, .int .i64 x.2.1, vb] : Array Value).toList[j]? = some u → W.cell? ((ad.add (i * 3)).add j) = some u) ∧ Src W [] vb x.2.2.length (bys x.2.2) ∧
        ((-9223372036854775808 ≤ x.1 ∧ x.1 ≤ 9223372036854775807) ∧ (-9223372036854775808 ≤ x.2.1 ∧ x.2.1 ≤ 9223372036854775807) ∧ Byt x.2.2 ∧ x.2.2.length ≤ 9223372036854775807) ∧ x.2.2.length ≤ Rows.uptoBulk (D i) := by
      intro i hi
      obtain ⟨cs', hc1, hc2⟩ := hel i (by omega)
      obtain ⟨a, n', vb, dB, b, rfl, hD, wa, wn, hs, hb, hb2, hb3⟩ := open_one hc2
      obtain ⟨_, _, hc3⟩ := World.cells?_some hc1
      rw [cells_step] at hc3
      refine ⟨(a, n', b), vb, fun j u hj => ?_, hs, ⟨wa, wn, hb, hb3⟩, ?_⟩
      · have hj3 : j < 3 := by have := (List.getElem?_eq_some_iff.1 hj).1; simpa using this
        rw [hc3 j hj3]; exact hj
      · have e : D i = .agg [.lit (.int .i64 a), .lit (.int .i64 n'), dB] := hD
        rw [e]
        have := bulk_dlen dB
        simp only [Rows.uptoBulk, Rows.uptoBulkAll]
        omega
    obtain ⟨f, hf⟩ := choose_lt hall
    refine ⟨(List.range len).map f, ⟨⟨some ad, m, by simp, by simp; omega, fun k x hk => ?_⟩, fun x hx => ?_⟩, fun x hx => ?_⟩
    · have hk' := hk
      rw [List.getElem?_map] at hk'
      obtain ⟨k', hk1, rfl⟩ := Option.map_eq_some_iff.1 hk'
      have hlt : k < len := by have := (List.getElem?_eq_some_iff.1 hk1).1; simpa using this
      have : k' = k := by rw [List.getElem?_range hlt] at hk1; simpa using hk1.symm
      subst this
      obtain ⟨vb, h1, h2, _⟩ := hf k' hlt
      refine ⟨ad, vb, rfl, ?_, h1, h2⟩
      have := cell_lt (h1 0 _ rfl)
      rwa [Addr_add_block, Addr_add_block] at this
    · simp at hx
      obtain ⟨i, hi, rfl⟩ := hx
      obtain ⟨vb, _, _, h3, _⟩ := hf i hi
      exact h3
    · simp at hx
      obtain ⟨i, hi, rfl⟩ := hx
      obtain ⟨vb, _, _, _, h4⟩ := hf i hi
      refine Nat.le_trans h4 ?_
      have : D i ∈ (List.range len).map D := List.mem_map.2 ⟨i, by simpa using hi, rfl⟩
      have := bulk_part this
      simp only [Rows.uptoBulk]
      omega
end
end Go.Proofs.Ytkakoefdfjooeaa
