/-
  STATEMENTS of chapter 5: known: its walk. Conditions: utf8's tables as they are laid; the variable MaxLen holds a number.
-/
import Derived.Test.YteebapopeaafhaaDoorHTx8
import Derived.Test.YteebapopeaafhaaDoorHLnk2
namespace Go.Tcn
open Go.RowKit
set_option linter.unusedVariables false
set_option linter.unusedSimpArgs false
def exA : Img := ⟨[97], [], [], [⟨[], 0, [], [⟨1, -5, 0⟩, ⟨4, 0, 0⟩, ⟨39, 0, 0⟩]⟩], []⟩
theorem ex_parseA : parseX [97, 112, 112, 108, 101, 116, 32, 97, 10, 109, 101, 116, 104, 111, 100, 32, 110, 111, 110, 101, 10, 32, 112, 117, 115, 104, 32, 45, 53, 32, 35, 32, 102, 105, 118, 101, 10, 32, 112, 111, 112, 10, 114, 101, 116, 10] = (exA, 0, 0) := by kernel_rfl
/-- The variable MaxLen holds a number. -/
def MaxC (g : Nat) (w : World) : Prop := ∃ m : Int, w.cell? ⟨g, 0, none⟩ = some (.int .i64 m)
theorem MaxC.tch {g : Nat} {w w' : World} (h : MaxC g w) (t : Tch [] w w') : MaxC g w' := by
  obtain ⟨m, h⟩ := h
  exact ⟨m, by rw [t.cell (cell_lt h) (by simp)]; exact h⟩
/-- One method of three instructions, in memory. -/
theorem mths_open {w : World} {v : Value} {m : Mth} (h : RMths w [] v [m]) (x : Ins) (r : List Ins) (hm : m.code = x :: r) :
    ∃ ad cap ac cc vp vl, v = .slice (some ad) 1 cap ∧ (∀ (j : Nat) u, #[vp, .int .i64 m.result, vl, .slice (some ac) m.code.length cc].toList[j]? = some u → w.cell? (ad.add j) = some u) ∧
      ∀ (j : Nat) u, #[.int .i64 x.op, .int .i64 x.a, .int .i64 x.b].toList[j]? = some u → w.cell? (ac.add j) = some u := by
  obtain ⟨ao, cap, rfl⟩ := RMths.form h
  obtain ⟨ad, cs, rfl, a1, a2, a3, ⟨vp, vl, vc, rfl, _, _, h3⟩, a5⟩ := RL.at h (k := 0) (by simp) (by omega)
  obtain ⟨ac, cc, rfl⟩ := RCode.form h3
  have h4 : RCode w [] (.slice ac m.code.length cc) (x :: r) := hm ▸ h3
  obtain ⟨bd, rfl, b1, b2⟩ := RCode.at h4 (k := 0) (by simp)
  refine ⟨ad, cap, bd, cc, vp, vl, rfl, fun j u hj => ?_, fun j u hj => ?_⟩
  · have := a5 j u hj
    simpa using this
  · have := b2 j u hj
    rw [Addr_add_add] at this
    simpa using this
end Go.Tcn
namespace Go.Proofs.YteebapopeaafhaaDoor
open Go.RowKit Go.Tcn
set_option linter.unusedVariables false
set_option linter.unusedSimpArgs false
set_option maxRecDepth 100000 in
set_option maxHeartbeats 8000000 in
theorem t5_known (w : World) (hm : MaxC 2 w) (hV : ValC w) :
    Calls Tryd.prog 9 #[] w fun e w' => e = .returned (.bool true) ∧ Tch [] w w' := by
  obtain ⟨m, hm⟩ := hm
  have hp := tx_Parse w [97, 112, 112, 108, 101, 116, 32, 97, 10, 109, 101, 116, 104, 111, 100, 32, 110, 111, 110, 101, 10, 32, 112, 117, 115, 104, 32, 45, 53, 32, 35, 32, 102, 105, 118, 101, 10, 32, 112, 111, 112, 10, 114, 101, 116, 10] (by simp) m hm hV
  rw [ex_parseA] at hp
  go_enter Tryd.func9, Tryd.ntmps9
  go_wp2_with fail
  refine hp.mono ?_
  rintro e w1 ⟨vf, vi, vm, ve, rfl, i1, i2, i3, i4, _, t1⟩
  clear hp hm
  obtain ⟨ad, cap, ac, cc, vp, vl, rfl, c1, c2⟩ := mths_open i3 ⟨1, -5, 0⟩ [⟨4, 0, 0⟩, ⟨39, 0, 0⟩] rfl
  obtain ⟨af, cf, rfl⟩ := Src.form i1
  obtain ⟨ai, ci, rfl⟩ := RImps.form i2
  obtain ⟨ae, ce, rfl⟩ := Src.form i4
  have e1 : exA.fields.length = 0 := rfl
  have e2 : exA.imports.length = 0 := rfl
  have e4 : exA.exports.length = 0 := rfl
  have e0 : exA.name = [97] := rfl
  rw [e0, e1, e2, e4]
  obtain ⟨W, hW⟩ : ∃ W, W = w1.alloc (.cells #[.string ⟨#[97]⟩, (.slice af 0 cf), (.slice ai 0 ci), .slice (some ad) 1 cap, (.slice ae 0 ce)] 29) := ⟨_, rfl⟩
  have t2 : Tch [] w1 W := by rw [hW]; exact (Tch.refl [] w1).alloc _
  have hb : W.heap[w1.heap.size]? = some (.cells #[.string ⟨#[97]⟩, (.slice af 0 cf), (.slice ai 0 ci), .slice (some ad) 1 cap, (.slice ae 0 ce)] 29 (0, 0)) := by rw [hW]; exact heap_alloc_new _ _
  obtain ⟨x0, x1, x2, x3, x4, _⟩ := cells5 hb
  have d1 : ∀ (j : Nat) u, #[vp, .int .i64 0, vl, .slice (some ac) 3 cc].toList[j]? = some u → W.cell? (ad.add j) = some u := fun j u hj => by
    have h := c1 j u hj
    rw [t2.cell (cell_lt h) (by simp)]; exact h
  have d2 : ∀ (j : Nat) u, #[.int .i64 1, .int .i64 (-5), .int .i64 0].toList[j]? = some u → W.cell? (ac.add j) = some u := fun j u hj => by
    have h := c2 j u hj
    rw [t2.cell (cell_lt h) (by simp)]; exact h
  clear c1 c2
  have d3 : W.cell? ⟨ad.block, ad.off + 3, none⟩ = some (.slice (some ac) 3 cc) := d1 3 _ rfl
  have c0 : W.cell? ac = some (.int .i64 1) := d2 0 _ rfl
  have c1 : W.cell? ⟨ac.block, ac.off + 1, none⟩ = some (.int .i64 (-5)) := d2 1 _ rfl
  have c2 : W.cell? ⟨ac.block, ac.off + 2, none⟩ = some (.int .i64 0) := d2 2 _ rfl
  have hT := t1.then t2
  clear i1 i2 i3 i4 d1
  go_upto_region 2 with fail
  rw [← hW]
  clear hW hb t1 t2 hV
  go_wp2_with (first | (refine wpList_load_agg rfl 54 (.tmp 36) rfl ac rfl #[.int .i64 1, .int .i64 (-5), .int .i64 0] _ d2 Tryd.underlying54 rfl (by kernel_rfl) ?_) | fail)
  go_ret
  exact ⟨rfl, hT⟩
end Go.Proofs.YteebapopeaafhaaDoor
