/-
  AN APPLET THAT CAME IN, opened. Conditions: none.
-/
import Derived.Test.YtapephelfijcbaaGreatDoorHVal
import Derived.Test.YtapephelfijcbaaGreatDoorHIma
namespace Go.Tcn
open Go.RowKit
set_option linter.unusedVariables false
set_option linter.unusedSimpArgs false
theorem choose_list {β : Type} (P : Nat → β → Prop) (n : Nat) (h : ∀ i, i < n → ∃ b, P i b) : ∃ l : List β, l.length = n ∧ ∀ i b, l[i]? = some b → P i b := by
  induction n with
  | zero => exact ⟨[], rfl, by simp⟩
  | succ n ih =>
    obtain ⟨l, hl, hp⟩ := ih (fun i hi => h i (by omega))
    obtain ⟨b, hb⟩ := h n (by omega)
    refine ⟨l ++ [b], by simp [hl], fun i x hx => ?_⟩
    by_cases hi : i < l.length
    · rw [List.getElem?_append_left hi] at hx
      exact hp i x hx
    · rw [List.getElem?_append_right (by omega)] at hx
      have h0 : i - l.length = 0 := by
        have := (List.getElem?_eq_some_iff.1 hx).1
        simpa using this
      rw [h0] at hx
      simp at hx
      subst hx
      obtain rfl : i = n := by omega
      exact hb
/-- What lies thing by thing reads as a list. -/
theorem RL.of_cells {α : Type} {W : World} {sz : Nat} {R : List Value → α → Prop} {ad : Addr} {len cap : Nat} (hlc : len ≤ cap) (hall : ∀ i, i < len → ∃ q : List Value × α, R q.1 q.2 ∧ q.1.length = sz ∧ ∀ (j : Nat) u, q.1[j]? = some u → W.cell? ((ad.add (i * sz)).add j) = some u) :
    ∃ xs : List α, xs.length = len ∧ RL W [] sz R (.slice (some ad) len cap) xs := by
  obtain ⟨l, hl, hp⟩ := choose_list _ len hall
  have hlen : ∀ cs ∈ l.map (·.1), cs.length = sz := fun cs hc => by
    simp only [List.mem_map] at hc
    obtain ⟨q, hq, rfl⟩ := hc
    obtain ⟨i, hi, rfl⟩ := List.getElem_of_mem hq
    exact (hp i l[i] (by simp [hi])).2.1
  refine ⟨l.map (·.2), by simp [hl], ⟨l.map (·.1), by simp, hlen, ⟨.inr ⟨ad, cap, by simp [hl], by simp [hl, hlc], fun j u hj => ⟨by simp, ?_⟩⟩⟩, fun k cs x h1 h2 => ?_⟩⟩
  · have hfl := flatten_length hlen
    have hj1 := (List.getElem?_eq_some_iff.1 hj).1
    rw [hfl, List.length_map] at hj1
    rcases Nat.eq_zero_or_pos sz with h0 | hpos
    · subst h0; simp at hj1
    have hk : j / sz < l.length := by rw [Nat.div_lt_iff_lt_mul hpos]; exact hj1
    have hm := Nat.mod_lt j hpos
    have e : j / sz * sz + j % sz = j := by rw [Nat.mul_comm]; exact Nat.div_add_mod j sz
    have hf := flatten_at hlen (k := j / sz) (by simpa using hk) hm
    rw [e, hj] at hf
    simp only [List.getElem_map] at hf
    have hc := (hp (j / sz) l[j / sz] (by simp [hk])).2.2 (j % sz) u hf.symm
    rw [Addr_add_add, e] at hc
    exact hc
  · rw [List.getElem?_map] at h1 h2
    obtain ⟨q, hq, rfl⟩ := Option.map_eq_some_iff.1 h1
    obtain ⟨q2, hq2, rfl⟩ := Option.map_eq_some_iff.1 h2
    rw [hq] at hq2
    simp only [Option.some.injEq] at hq2
    subst hq2
    exact (hp k q hq).1
theorem RL.split {α : Type} {W : World} {L : List Nat} {sz : Nat} {R : List Value → α → Prop} {B : α → Prop} {v : Value} {xs : List α} (h : RL W L sz (fun c x => R c x ∧ B x) v xs) : RL W L sz R v xs ∧ ∀ x ∈ xs, B x := by
  obtain ⟨css, h1, h2, h3, h4⟩ := h.ex
  refine ⟨⟨css, h1, h2, h3, fun k c x a b => (h4 k c x a b).1⟩, fun x hx => ?_⟩
  obtain ⟨i, hi, rfl⟩ := List.getElem_of_mem hx
  exact (h4 i (css[i]'(by omega)) xs[i] (by simp) (by simp)).2
theorem RL.code {W : World} {v : Value} {xs : List Ins} (h : RL W [] 3 (fun c x => c = x.cells) v xs) : RCode W [] v xs := by
  obtain ⟨css, h1, h2, h3, h4⟩ := h.ex
  obtain rfl : css = xs.map Ins.cells := by
    apply List.ext_getElem (by simp [h1])
    intro i a b
    simp only [List.getElem_map]
    exact h4 i css[i] (xs[i]'(by simpa using b)) (by simp [a]) (by simp)
  exact h3
theorem array5 {α : Type} {cs : Array α} (h : cs.size = 5) : ∃ c0 c1 c2 c3 c4, cs = #[c0, c1, c2, c3, c4] := by
  obtain ⟨l⟩ := cs
  match l, h with
  | [c0, c1, c2, c3, c4], _ => exact ⟨c0, c1, c2, c3, c4, rfl⟩
section
open Go.ChangeShapes Go.WideShapes Go.Deep Go.WideElems
variable {H : Type} {enc : TypeId × Value → H} {P : Program} {w : World} {base : Nat} {spare : Nat → Bool} {held : Bool}
theorem trod_struct5 {t : TypeId} {f0 f1 f2 f3 f4 : Field} {fuel : Nat} {cs : List Value} {x : DataW H × List MemPlace} (ht : P.underlying t = some (.struct #[f0, f1, f2, f3, f4])) (h : DataW.trod enc P w base spare held fuel t cs = some x) :
    ∃ y0 y1 y2 y3 y4 n, cs.length = P.cellsOf t ∧ DataW.trod enc P w base spare held n f0.type ((cs.drop f0.offset).take (P.cellsOf f0.type)) = some y0 ∧
      DataW.trod enc P w base spare held n f1.type ((cs.drop f1.offset).take (P.cellsOf f1.type)) = some y1 ∧ DataW.trod enc P w base spare held n f2.type ((cs.drop f2.offset).take (P.cellsOf f2.type)) = some y2 ∧
      DataW.trod enc P w base spare held n f3.type ((cs.drop f3.offset).take (P.cellsOf f3.type)) = some y3 ∧ DataW.trod enc P w base spare held n f4.type ((cs.drop f4.offset).take (P.cellsOf f4.type)) = some y4 := by
  obtain ⟨xs, n, _, rfl, hl, hlen, hf⟩ := DataW.trod_struct ht h
  match xs, hlen with
  | [y0, y1, y2, y3, y4], _ => exact ⟨y0, y1, y2, y3, y4, n, hl, by simpa using hf 0 f0 rfl, by simpa using hf 1 f1 rfl, by simpa using hf 2 f2 rfl, by simpa using hf 3 f3 rfl, by simpa using hf 4 f4 rfl⟩
theorem open_agg5 {r : Reach} {b0 : Nat} {t : TypeId} {f0 f1 f2 f3 f4 : Field} {v : Value} {d : DataW H} {p : List MemPlace} (hs : P.underlying t = some (.struct #[f0, f1, f2, f3, f4])) (hone : oneCellFields P #[f0, f1, f2, f3, f4] = true) (hC : P.cellsOf t = 5)
    (hv : Value.okWide P w r b0 t v) (h : DataW.Trod enc P w base spare held t v d p) :
    ∃ (v0 v1 v2 v3 v4 : Value) (y0 y1 y2 y3 y4 : DataW H × List MemPlace) (n : Nat), v = .agg #[v0, v1, v2, v3, v4] ∧
      DataW.trod enc P w base spare held n f0.type [v0] = some y0 ∧ DataW.trod enc P w base spare held n f1.type [v1] = some y1 ∧ DataW.trod enc P w base spare held n f2.type [v2] = some y2 ∧ DataW.trod enc P w base spare held n f3.type [v3] = some y3 ∧ DataW.trod enc P w base spare held n f4.type [v4] = some y4 := by
  obtain ⟨cs, rfl, hsz⟩ := okWide_struct hs hv
  obtain ⟨c0, c1, c2, c3, c4, rfl⟩ := array5 (hsz.trans hC)
  obtain ⟨fuel, hf⟩ := h
  obtain ⟨y0, y1, y2, y3, y4, n, _, h0, h1, h2, h3, h4⟩ := trod_struct5 hs hf
  obtain ⟨o0, k0⟩ := hone_of hone 0 f0 rfl
  obtain ⟨o1, k1⟩ := hone_of hone 1 f1 rfl
  obtain ⟨o2, k2⟩ := hone_of hone 2 f2 rfl
  obtain ⟨o3, k3⟩ := hone_of hone 3 f3 rfl
  obtain ⟨o4, k4⟩ := hone_of hone 4 f4 rfl
  exact ⟨c0, c1, c2, c3, c4, y0, y1, y2, y3, y4, n, rfl, by simpa [Value.cells, o0, k0] using h0, by simpa [Value.cells, o1, k1] using h1, by simpa [Value.cells, o2, k2] using h2, by simpa [Value.cells, o3, k3] using h3, by simpa [Value.cells, o4, k4] using h4⟩
/-- A slice that came in, opened thing by thing. -/
theorem open_list {W : World} {α : Type} {t e : TypeId} {sz fuel : Nat} {v : Value} {x : DataW H × List MemPlace} (ht : P.underlying t = some (.slice e)) (hc : P.cellsOf e = sz) (R : List Value → α → Prop)
    (hR : ∀ n cs y, DataW.trod enc P W 0 (fun _ => true) true n e cs = some y → ∃ a, R cs a) (h : DataW.trod enc P W 0 (fun _ => true) true fuel t [v] = some x) : ∃ xs : List α, RL W [] sz R v xs ∧ xs.length ≤ 9223372036854775807 := by
  rcases open_slice ht h with ⟨h1, h2⟩ | ⟨ad, len, cap, m, n, D, Pl, h1, _, hl, hm, hmm, hx, hel⟩
  · simp only [List.cons.injEq, and_true] at h1
    subst h1
    exact ⟨[], ⟨[], rfl, by simp, ⟨.inl ⟨rfl, rfl, rfl⟩⟩, by simp⟩, by simp⟩
  · simp only [List.cons.injEq, and_true] at h1
    subst h1
    simp only [if_true] at hmm
    subst hmm
    have hmx : m ≤ 9223372036854775807 := by simpa [maxLen] using hm
    have hall : ∀ i, i < len → ∃ q : List Value × α, R q.1 q.2 ∧ q.1.length = sz ∧ ∀ (j : Nat) u, q.1[j]? = some u → W.cell? ((ad.add (i * sz)).add j) = some u := by
      intro i hi
      obtain ⟨cs', hc1, hc2⟩ := hel i (by omega)
      obtain ⟨a, ha⟩ := hR _ _ _ hc2
      obtain ⟨_, hc4, hc3⟩ := World.cells?_some hc1
      rw [hc] at hc3 hc4
      refine ⟨(cs', a), ha, hc4, fun j u hj => ?_⟩
      have hjs : j < sz := by have := (List.getElem?_eq_some_iff.1 hj).1; simp only at this; omega
      rw [hc3 j hjs]; exact hj
    obtain ⟨xs, h1, h2⟩ := RL.of_cells hl hall
    exact ⟨xs, h2, by omega⟩
end
end Go.Tcn
namespace Go.Proofs.YtapephelfijcbaaGreatDoor
open Go.Tcn Go.RowKit Go.ChangeShapes Go.WideShapes Go.Deep
set_option linter.unusedVariables false
set_option linter.unusedSimpArgs false
set_option maxRecDepth 100000
section
variable {H : Type} {enc : TypeId × Value → H}
theorem cells_str1 : Tryz.prog.cellsOf 9 = 1 := by kernel_rfl
theorem cells_sint1 : Tryz.prog.cellsOf 23 = 1 := by kernel_rfl
theorem cells_sins1 : Tryz.prog.cellsOf 48 = 1 := by kernel_rfl
theorem cells_ins3 : Tryz.prog.cellsOf 47 = 3 := by kernel_rfl
theorem cells_imp4 : Tryz.prog.cellsOf 45 = 4 := by kernel_rfl
theorem cells_mth4 : Tryz.prog.cellsOf 50 = 4 := by kernel_rfl
theorem open_ins_cells {W : World} {fuel : Nat} {cs : List Value} {x : DataW H × List MemPlace} (h : DataW.trod enc Tryz.prog W 0 (fun _ => true) true fuel 47 cs = some x) : ∃ y : Ins, cs = y.cells ∧ I6 y.b := by
  obtain ⟨y0, y1, y2, n, _, hl, h0, h1, h2⟩ := trod_struct3 Tryz.underlying47 h
  rw [cells_ins3] at hl
  match cs, hl with
  | [c0, c1, c2], _ =>
    simp only [cells_int1] at h0 h1 h2
    obtain ⟨a0, e0, rfl, w0⟩ := DataW.trod_int Tryz.underlying3 h0
    obtain ⟨a1, e1, rfl, w1⟩ := DataW.trod_int Tryz.underlying3 h1
    obtain ⟨a2, e2, rfl, w2⟩ := DataW.trod_int Tryz.underlying3 h2
    simp at e0 e1 e2
    subst e0 e1 e2
    exact ⟨⟨a0, a1, a2⟩, rfl, i6_of_wf w2⟩
theorem open_codez {W : World} {fuel : Nat} {v : Value} {x : DataW H × List MemPlace} (h : DataW.trod enc Tryz.prog W 0 (fun _ => true) true fuel 48 [v] = some x) : ∃ l, RCode W [] v l ∧ l.length ≤ 9223372036854775807 ∧ ∀ y ∈ l, I6 y.b := by
  obtain ⟨xs, h1, h2⟩ := open_list (α := Ins) Tryz.underlying48 cells_ins3 (fun c y => c = y.cells ∧ I6 y.b) (fun n cs y hy => open_ins_cells hy) h
  obtain ⟨h3, h4⟩ := RL.split (R := fun c (y : Ins) => c = y.cells) (B := fun y => I6 y.b) h1
  exact ⟨xs, h3.code, h2, h4⟩
theorem open_imp_cells {W : World} {fuel : Nat} {cs : List Value} {x : DataW H × List MemPlace} (h : DataW.trod enc Tryz.prog W 0 (fun _ => true) true fuel 45 cs = some x) : ∃ y : Imp, RImp W [] cs y ∧ y.params.length ≤ 9223372036854775807 := by
  obtain ⟨y0, y1, y2, y3, n, _, hl, h0, h1, h2, h3⟩ := Joins.trod_struct4 Tryz.underlying45 h
  rw [cells_imp4] at hl
  match cs, hl with
  | [c0, c1, c2, c3], _ =>
    simp only [cells_int1, cells_str1, cells_sint1] at h0 h1 h2 h3
    obtain ⟨s, e0, _, _⟩ := DataW.trod_string Tryz.underlying9 h0
    obtain ⟨a1, e1, _, w1⟩ := DataW.trod_int Tryz.underlying3 h1
    obtain ⟨a3, e3, _, w3⟩ := DataW.trod_int Tryz.underlying3 h3
    simp at e0 e1 h2 e3
    obtain ⟨l, hl1, _, hl2⟩ := open_intz (d := y2.1) (ps := y2.2) h2
    subst e0 e1 e3
    exact ⟨⟨s.data.toList, a1, l, a3⟩, ⟨c2, rfl, hl1⟩, hl2⟩
theorem open_mth_cells {W : World} {fuel : Nat} {cs : List Value} {x : DataW H × List MemPlace} (h : DataW.trod enc Tryz.prog W 0 (fun _ => true) true fuel 50 cs = some x) : ∃ y : Mth, RMth W [] cs y ∧ MthZ y := by
  obtain ⟨y0, y1, y2, y3, n, _, hl, h0, h1, h2, h3⟩ := Joins.trod_struct4 Tryz.underlying50 h
  rw [cells_mth4] at hl
  match cs, hl with
  | [c0, c1, c2, c3], _ =>
    simp only [cells_int1, cells_sins1, cells_sint1] at h0 h1 h2 h3
    obtain ⟨a1, e1, _, w1⟩ := DataW.trod_int Tryz.underlying3 h1
    simp at h0 e1 h2 h3
    obtain ⟨l0, hl0, _, hz0⟩ := open_intz (d := y0.1) (ps := y0.2) h0
    obtain ⟨l2, hl2, _, hz2⟩ := open_intz (d := y2.1) (ps := y2.2) h2
    obtain ⟨l3, hl3, hz3, hb3⟩ := open_codez h3
    subst e1
    exact ⟨⟨l0, a1, l2, l3⟩, ⟨c0, c2, c3, rfl, hl0, hl2, hl3⟩, hz0, hz2, hz3, hb3⟩
theorem open_impz {W : World} {fuel : Nat} {v : Value} {x : DataW H × List MemPlace} (h : DataW.trod enc Tryz.prog W 0 (fun _ => true) true fuel 24 [v] = some x) : ∃ l, RImps W [] v l ∧ l.length ≤ 9223372036854775807 ∧ ∀ y ∈ l, y.params.length ≤ 9223372036854775807 := by
  obtain ⟨xs, h1, h2⟩ := open_list (α := Imp) Tryz.underlying24 cells_imp4 (fun c y => RImp W [] c y ∧ y.params.length ≤ 9223372036854775807) (fun n cs y hy => open_imp_cells hy) h
  obtain ⟨h3, h4⟩ := RL.split (R := RImp W []) (B := fun y => y.params.length ≤ 9223372036854775807) h1
  exact ⟨xs, h3, h2, h4⟩
theorem open_mthz {W : World} {fuel : Nat} {v : Value} {x : DataW H × List MemPlace} (h : DataW.trod enc Tryz.prog W 0 (fun _ => true) true fuel 25 [v] = some x) : ∃ l, RMths W [] v l ∧ l.length ≤ 9223372036854775807 ∧ ∀ y ∈ l, MthZ y := by
  obtain ⟨xs, h1, h2⟩ := open_list (α := Mth) Tryz.underlying25 cells_mth4 (fun c y => RMth W [] c y ∧ MthZ y) (fun n cs y hy => open_mth_cells hy) h
  obtain ⟨h3, h4⟩ := RL.split (R := RMth W []) (B := MthZ) h1
  exact ⟨xs, h3, h2, h4⟩
theorem open_image {W : World} {r : Reach} {b0 : Nat} {v : Value} {d : DataW H} {p : List MemPlace} (hv : Value.okWide Tryz.prog W r b0 27 v) (h : DataW.Trod enc Tryz.prog W 0 (fun _ => true) true 27 v d p) :
    ∃ (a : Img) (vf vi vm ve : Value), v = .agg #[.string ⟨a.name.toArray⟩, vf, vi, vm, ve] ∧ RInts W [] vf a.fields ∧ RImps W [] vi a.imports ∧ RMths W [] vm a.methods ∧ RInts W [] ve a.exports ∧ ImgZ a := by
  obtain ⟨v0, v1, v2, v3, v4, y0, y1, y2, y3, y4, n, rfl, h0, h1, h2, h3, h4⟩ := open_agg5 Tryz.underlying27 (by kernel_rfl) (by kernel_rfl) hv h
  obtain ⟨s, e0, _, _⟩ := DataW.trod_string Tryz.underlying9 h0
  simp at e0
  subst e0
  obtain ⟨l1, hl1, _, hz1⟩ := open_intz (d := y1.1) (ps := y1.2) h1
  obtain ⟨l2, hl2, hz2, hb2⟩ := open_impz h2
  obtain ⟨l3, hl3, hz3, hb3⟩ := open_mthz h3
  obtain ⟨l4, hl4, _, hz4⟩ := open_intz (d := y4.1) (ps := y4.2) h4
  exact ⟨⟨s.data.toList, l1, l2, l3, l4⟩, v1, v2, v3, v4, rfl, hl1, hl2, hl3, hl4, hz1, hz2, hb2, hz3, hb3, hz4⟩
end
end Go.Proofs.YtapephelfijcbaaGreatDoor
