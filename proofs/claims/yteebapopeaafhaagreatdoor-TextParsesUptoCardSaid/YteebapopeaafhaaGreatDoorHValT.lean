/-
  HELPERS over any program: how arguments that came in are opened, and how a law's row is shut. Conditions: none.
  RAW INSTRUCTIONS THAT CAME IN, opened. Conditions: none.
  OPENED: how many raw statements came in. Conditions: none.
  CONTRACTS: utf8.ValidString at short names. Conditions: utf8's tables as they are laid.
  NUMBERS THAT CAME IN, opened. Conditions: none.
-/
import Derived.Test.YteebapopeaafhaaGreatDoorHCodeP
import Derived.Test.YteebapopeaafhaaGreatDoorRows
import Derived.ProofKit
import Derived.OpenShut
import Derived.JoinedCond
import Derived.SizedLaws
import Derived.Deep.Slices
import Derived.Deep.Strs
import Derived.ChangeMaps5
import Derived.Test.YteebapopeaafhaaGreatDoorHHCode0
import Derived.Lib.SmallJoins
import Derived.Test.YteebapopeaafhaaGreatDoorHShelfT
import Derived.Shelf.Unicode.ValidAny
import Derived.Lib.LaidU8T
namespace Go.Tcn
open Go.RowKit Go.ChangeShapes Go.WideShapes Go.Deep
set_option linter.unusedVariables false
set_option linter.unusedSimpArgs false

section
variable {H : Type} {enc : TypeId × Value → H} {P : Program}

theorem trodAll_tch (hl : laidOutB P = true) {W W' : World} (hb : Tch [] W W') : ∀ (ts : List TypeId) (vs : List Value) (ds : List (DataW H)) (ps : List MemPlace),
    (∀ t ∈ ts, P.readableRec t = true ∧ t < P.types.size) → (∀ x ∈ ps, x.block < W.heap.size) → DataW.TrodAll enc P W 0 (fun _ => true) true ts vs ds ps →
    DataW.TrodAll enc P W' 0 (fun b => decide (b < W.heap.size)) true ts vs ds ps
  | [], [], [], ps, _, _, h => h
  | t :: ts, v :: vs, d :: ds, ps, hr, hlt, h => by
    obtain ⟨p, q, h1, h2, rfl⟩ := h
    refine ⟨p, q, Below.trod hl (hr t (by simp)).1 (hr t (by simp)).2 h1 hb.below (fun x hx => hlt x (by simp [hx])), ?_, rfl⟩
    exact trodAll_tch hl hb ts vs ds q (fun t ht => hr t (by simp [ht])) (fun x hx => hlt x (by simp [hx])) h2
  | [], [], _ :: _, _, _, _, h => by simp [DataW.TrodAll] at h
  | [], _ :: _, _, _, _, _, h => by simp [DataW.TrodAll] at h
  | _ :: _, [], _, _, _, _, h => by simp [DataW.TrodAll] at h
  | _ :: _, _ :: _, [], _, _, _, h => by simp [DataW.TrodAll] at h

/-- A LAW's ROW: it returned true, and nothing that was there has turned. -/
theorem law_post {f : Func} {s : ChangeSpec} {W W' : World} {args : Array Value} {ds gs : List (DataW H)} {ps : List MemPlace} {tb : TypeId} (hl : laidOutB P = true) (hr : ∀ t ∈ f.params.toList, P.readableRec t = true ∧ t < P.types.size)
    (hres : f.resultTypes = #[tb]) (htb : P.underlying tb = some .bool) (hvars : s.vars = []) (hW : DataW.Whole enc P f.params.toList s.vars false W args.toList ds gs ps)
    (hs1 : (s.fn H (ds ++ gs)).results = [.lit (.bool true)]) (hs2 : (s.fn H (ds ++ gs)).args = ds) (hs3 : (s.fn H (ds ++ gs)).vars = []) (hb : Tch [] W W') :
    s.post enc P f false true false false W args (.bool true) W' := by
  have hlt := DataW.Whole.lt hW
  have hW0 := hW
  obtain ⟨p, q, hA, hV, rfl, hfz, hnd⟩ := hW
  rw [hvars] at hV
  obtain ⟨rfl, rfl⟩ := trodVars_none hV
  refine ⟨ds, [], p ++ [], [], p, [], hW0, ?_, ?_, ?_, hb.below.frame _, fun h => by cases h⟩
  · rw [hs1, hres]; exact trodAll_mk1 (shut_bool htb true)
  · rw [hs2]; exact trodAll_tch hl hb _ _ _ _ hr (fun x hx => hlt x (by simpa using hx)) hA
  · rw [hs3, hvars]; rfl

/-- How many elements a datum has at its top. -/
def dlen : DataW H → Nat
  | .slice elems _ => elems.length
  | _ => 0

end
end Go.Tcn
namespace Go.Proofs.YteebapopeaafhaaGreatDoor
open Go.Tcn Go.RowKit Go.ChangeShapes Go.WideShapes Go.Deep
set_option linter.unusedVariables false
set_option linter.unusedSimpArgs false
set_option maxRecDepth 100000
theorem cells_raw : Tryz.prog.cellsOf 101 = 4 := by kernel_rfl
theorem cells_int1 : Tryz.prog.cellsOf 3 = 1 := by kernel_rfl
theorem i6_of_wf {n : Int} (h : (Lit.int .i64 n).wf = true) : I6 n := by
  simp [Lit.wf, IntKind.min, IntKind.max, IntKind.signed, IntKind.bits] at h
  exact h
section
variable {H : Type} {enc : TypeId × Value → H}
theorem open_raw_cells {W : World} {fuel : Nat} {cs : List Value} {x : DataW H × List MemPlace} (h : DataW.trod enc Tryz.prog W 0 (fun _ => true) true fuel 101 cs = some x) :
    ∃ r : Rw, cs = (rawCells r).toList ∧ x = (.agg [.lit (.int .i64 r.1), .lit (.int .i64 r.2.1), .lit (.int .i64 r.2.2.1), .lit (.int .i64 r.2.2.2)], []) ∧ I6 r.1 ∧ I6 r.2.1 ∧ I6 r.2.2.1 ∧ I6 r.2.2.2 := by
  obtain ⟨y0, y1, y2, y3, n, rfl, hl, h0, h1, h2, h3⟩ := Joins.trod_struct4 Tryz.underlying101 h
  rw [cells_raw] at hl
  match cs, hl with
  | [c0, c1, c2, c3], _ =>
    simp only [cells_int1] at h0 h1 h2 h3
    obtain ⟨a0, e0, rfl, w0⟩ := DataW.trod_int Tryz.underlying3 h0
    obtain ⟨a1, e1, rfl, w1⟩ := DataW.trod_int Tryz.underlying3 h1
    obtain ⟨a2, e2, rfl, w2⟩ := DataW.trod_int Tryz.underlying3 h2
    obtain ⟨a3, e3, rfl, w3⟩ := DataW.trod_int Tryz.underlying3 h3
    simp at e0 e1 e2 e3
    subst e0 e1 e2 e3
    exact ⟨(a0, a1, a2, a3), rfl, rfl, i6_of_wf w0, i6_of_wf w1, i6_of_wf w2, i6_of_wf w3⟩
theorem open_raws {W : World} {fuel : Nat} {v : Value} {d : DataW H} {ps : List MemPlace} (h : DataW.trod enc Tryz.prog W 0 (fun _ => true) true fuel 22 [v] = some (d, ps)) : ∃ l, Raws W v l := by
  rcases open_slice Tryz.underlying22 h with ⟨h1, h2⟩ | ⟨ad, len, cap, m, n, D, Pl, h1, _, hl, hm, hmm, hx, hel⟩
  · simp only [List.cons.injEq, and_true] at h1
    subst h1
    exact ⟨[], ⟨⟨none, 0, rfl, by simp, fun k x hk => by simp at hk⟩, fun x hx => by cases hx⟩⟩
  · simp only [List.cons.injEq, and_true] at h1
    subst h1
    simp only [Prod.mk.injEq] at hx
    obtain ⟨rfl, rfl⟩ := hx
    simp only [if_true] at hmm
    subst hmm
    have hmx : m ≤ 9223372036854775807 := by simpa [maxLen] using hm
    have hall : ∀ i, i < len → ∃ x : Rw, (∀ (j : Nat) u, (rawCells x).toList[j]? = some u → W.cell? ((ad.add (i * 4)).add j) = some u) ∧ I6 x.1 ∧ I6 x.2.1 ∧ I6 x.2.2.1 ∧ I6 x.2.2.2 := by
      intro i hi
      obtain ⟨cs', hc1, hc2⟩ := hel i (by omega)
      obtain ⟨r, rfl, _, hr⟩ := open_raw_cells hc2
      obtain ⟨_, _, hc3⟩ := World.cells?_some hc1
      rw [cells_raw] at hc3
      refine ⟨r, fun j u hj => ?_, hr⟩
      have hj4 : j < 4 := by have := (List.getElem?_eq_some_iff.1 hj).1; simpa [rawCells] using this
      rw [hc3 j hj4]; exact hj
    obtain ⟨f, hf⟩ := choose_lt4 hall
    refine ⟨(List.range len).map f, ⟨⟨some ad, m, by simp, by simp; omega, fun k x hk => ?_⟩, fun x hx => ?_⟩⟩
    · have hk' := hk
      rw [List.getElem?_map] at hk'
      obtain ⟨k', hk1, rfl⟩ := Option.map_eq_some_iff.1 hk'
      have hlt : k < len := by have := (List.getElem?_eq_some_iff.1 hk1).1; simpa using this
      have : k' = k := by rw [List.getElem?_range hlt] at hk1; simpa using hk1.symm
      subst this
      obtain ⟨h1, _⟩ := hf k' hlt
      refine ⟨ad, rfl, ?_, h1⟩
      have := cell_lt (h1 0 _ rfl)
      rwa [Addr_add_block, Addr_add_block] at this
    · simp at hx
      obtain ⟨i, hi, rfl⟩ := hx
      exact (hf i hi).2
/-- A slice that came in is no longer than its capacity. -/
theorem open_raws_cap {W : World} {fuel : Nat} {v : Value} {d : DataW H} {ps : List MemPlace} (h : DataW.trod enc Tryz.prog W 0 (fun _ => true) true fuel 22 [v] = some (d, ps)) : ∀ ao n c, v = .slice ao n c → n ≤ c := by
  rcases open_slice Tryz.underlying22 h with ⟨h1, h2⟩ | ⟨ad, len, cap, m, n, D, Pl, h1, _, hl, hm, hmm, hx, hel⟩
  · simp only [List.cons.injEq, and_true] at h1
    subst h1
    intro ao n c e
    simp only [Value.slice.injEq] at e
    omega
  · simp only [List.cons.injEq, and_true] at h1
    subst h1
    intro ao n c e
    simp only [Value.slice.injEq] at e
    omega
end
end Go.Proofs.YteebapopeaafhaaGreatDoor
namespace Go.Proofs.YteebapopeaafhaaGreatDoor
open Go.Tcn Go.RowKit Go.ChangeShapes Go.WideShapes Go.Deep
set_option linter.unusedVariables false
set_option linter.unusedSimpArgs false
section
variable {H : Type} {enc : TypeId × Value → H}
set_option maxRecDepth 100000 in
theorem open_raws_len {W : World} {fuel : Nat} {v : Value} {d : DataW H} {ps : List MemPlace} (h : DataW.trod enc Tryz.prog W 0 (fun _ => true) true fuel 22 [v] = some (d, ps)) : ∀ l, Raws W v l → l.length ≤ dlen d := by
  intro l hl
  obtain ⟨ao, c, hv, _⟩ := hl.ex
  rcases open_slice Tryz.underlying22 h with ⟨h1, h2⟩ | ⟨ad, len, cap, m, n, D, Pl, h1, _, hlc, hm, hmm, hx, hel⟩
  · simp only [List.cons.injEq, and_true] at h1
    rw [h1] at hv
    simp only [Value.slice.injEq] at hv
    omega
  · simp only [List.cons.injEq, and_true] at h1
    rw [h1] at hv
    simp only [Value.slice.injEq] at hv
    simp only [Prod.mk.injEq] at hx
    obtain ⟨rfl, rfl⟩ := hx
    simp only [dlen, List.length_map, List.length_range]
    have := hv.2.1
    clear hm hmm hel hlc hl h1 h
    omega
end
end Go.Proofs.YteebapopeaafhaaGreatDoor
namespace Go.Proofs.YteebapopeaafhaaGreatDoor
open Go.RowKit Go.Tcn Go.Shelf
set_option linter.unusedVariables false
set_option linter.unusedSimpArgs false
theorem tabs_tch {g h : Nat} {w w' : World} (hT : Lib.Utf8Tabs g h w) (t : Tch [] w w') : Lib.Utf8Tabs g h w' :=
  ⟨fun c hc => by rw [t.cell (cell_lt (hT.1 c hc)) (by simp)]; exact hT.1 c hc, fun i hi => ⟨by rw [t.cell (cell_lt (hT.2 i hi).1) (by simp)]; exact (hT.2 i hi).1, by rw [t.cell (cell_lt (hT.2 i hi).2) (by simp)]; exact (hT.2 i hi).2⟩⟩
theorem valid_of (W : World) (hT : Lib.Utf8Tabs 0 1 W) : ∀ nm w', nm.length ≤ 16 → Tch [] W w' → Calls Tryz.prog 78 #[.string ⟨nm.toArray⟩] w' fun e w'' => e = .returned (.bool (Lib.validD nm)) ∧ Tch [] w' w'' :=
  fun nm w' hl t => (Any.utf8_ValidString Tryz.laysValid ⟨nm.toArray⟩ w' (by simp [ByteArray.size]; omega) (tabs_tch hT t)).mono fun e w'' ⟨h, b⟩ => ⟨by simpa using h, Tch.of_below b []⟩
theorem first_eq : Rows.laid_unicode_utf8_first = Lib.firstData := by kernel_rfl
theorem accept_eq : (Rows.laid_unicode_utf8_acceptRanges : DataW Unit) = Lib.acceptData := by kernel_rfl
theorem tabs_of (W : World) (h1 : Lib.VarReads Tryz.prog W "unicode/utf8.first" Rows.laid_unicode_utf8_first) (h2 : Lib.VarReads Tryz.prog W "unicode/utf8.acceptRanges" Rows.laid_unicode_utf8_acceptRanges) : Lib.Utf8Tabs 0 1 W :=
  utf8Tabs_of_readsT (U8Types.of196 Tryz.laysValid) ⟨by kernel_rfl, by kernel_rfl, by kernel_rfl, by kernel_rfl, by kernel_rfl, by kernel_rfl, by kernel_rfl⟩ (first_eq ▸ h1) (accept_eq ▸ h2)
end Go.Proofs.YteebapopeaafhaaGreatDoor
namespace Go.Proofs.YteebapopeaafhaaGreatDoor
open Go.Tcn Go.RowKit Go.ChangeShapes Go.WideShapes Go.Deep
set_option linter.unusedVariables false
set_option linter.unusedSimpArgs false
set_option maxRecDepth 100000
section
variable {H : Type} {enc : TypeId × Value → H}
theorem open_intz {W : World} {fuel : Nat} {v : Value} {d : DataW H} {ps : List MemPlace} (h : DataW.trod enc Tryz.prog W 0 (fun _ => true) true fuel 23 [v] = some (d, ps)) : ∃ l, RInts W [] v l ∧ (∀ x ∈ l, I6 x) ∧ l.length ≤ 9223372036854775807 := by
  rcases open_ints Tryz.underlying23 Tryz.underlying3 cells_int1 h with ⟨h1, h2⟩ | ⟨a, len, cap, zs, h1, _, hl, hm, hz, hx, hcell, hwf⟩
  · simp only [List.cons.injEq, and_true] at h1
    subst h1
    exact ⟨[], ⟨.inl ⟨rfl, rfl, rfl⟩⟩, by simp, by simp⟩
  · simp only [List.cons.injEq, and_true] at h1
    subst h1
    simp only [if_true] at hz
    have hlen : (zs.take len).length = len := by simp; omega
    have hmx : cap ≤ 9223372036854775807 := by simpa [maxLen] using hm
    refine ⟨zs.take len, ?_, fun x hx => i6_of_wf (hwf x (List.mem_of_mem_take hx)), by omega⟩
    unfold RInts
    rw [hlen]
    refine ⟨.inr ⟨a, cap, rfl, hl, fun j u hj => ?_⟩⟩
    have hj2 : j < len := by
      have := (List.getElem?_eq_some_iff.1 hj).1
      simp [ints] at this; omega
    refine ⟨by simp, ?_⟩
    rw [hcell j (by omega)]
    simp [ints, List.getElem?_take, hj2] at hj
    obtain ⟨y, hy, rfl⟩ := hj
    simp [List.getD, hy]
end
end Go.Proofs.YteebapopeaafhaaGreatDoor
