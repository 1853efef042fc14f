/-
  STATEMENT: TextKnown: chapter 5's example, and each refusal: the walk. Conditions: utf8's tables as they are laid; strconv.Itoa's contract; the variable MaxLen holds a number.
-/
import Derived.Test.YteebapopeaafhaaDoorHTnK
import Derived.Test.YteebapopeaafhaaDoorHTpH
import Derived.Test.YteebapopeaafhaaDoorHPr2
namespace Go.Tcn
open Go.RowKit
theorem exB_ok : imgB exB = true := by kernel_rfl
theorem exB_print : printW exB = [97, 112, 112, 108, 101, 116, 32, 98, 195, 169, 116, 97, 10, 102, 105, 101, 108, 100, 32, 115, 101, 99, 10, 105, 109, 112, 111, 114, 116, 32, 97, 32, 49, 32, 110, 111, 110, 101, 32, 112, 117, 98, 32, 115, 101, 99, 97, 10, 109, 101, 116, 104, 111, 100, 32, 110, 111, 110, 101, 10, 108, 111, 99, 97, 108, 115, 32, 112, 117, 98, 97, 10, 32, 32, 114, 101, 116, 10, 101, 120, 112, 111, 114, 116, 32, 48, 10] := by kernel_rfl
theorem no_ok : imgB ⟨[], [], [], [], []⟩ = false := by kernel_rfl
end Go.Tcn
namespace Go.Proofs.YteebapopeaafhaaDoor
open Go.RowKit Go.Tcn
set_option linter.unusedVariables false
set_option linter.unusedSimpArgs false
theorem px_none (w : World) (s : Wd) (n : Nat) (hs : s.length < 4294967281) (hx : parseX s = (⟨[], [], [], [], []⟩, n, 5)) (hM : MaxC 2 w) (hV : ValC w) :
    Calls Tryd.prog 7 #[.string ⟨s.toArray⟩] w fun e w' => ∃ af cf ai ci am cm ae ce, e = .returned (.tuple #[.agg #[.string ⟨#[]⟩, .slice af 0 cf, .slice ai 0 ci, .slice am 0 cm, .slice ae 0 ce], .int .i64 n, .int .i64 5]) ∧ Tch [] w w' := by
  obtain ⟨m, hm⟩ := hM
  refine (tx_Parse w s hs m hm hV).mono ?_
  rw [hx]
  rintro e w' ⟨vf, vi, vm, ve, rfl, i1, i2, i3, i4, _, t⟩
  obtain ⟨af, cf, rfl⟩ := Src.form i1
  obtain ⟨ai, ci, rfl⟩ := RImps.form i2
  obtain ⟨am, cm, rfl⟩ := RMths.form i3
  obtain ⟨ae, ce, rfl⟩ := Src.form i4
  exact ⟨af, cf, ai, ci, am, cm, ae, ce, rfl, t⟩
set_option maxRecDepth 100000 in
set_option maxHeartbeats 8000000 in
theorem law5_TextKnown (w : World) (hM : MaxC 2 w) (hV : ValC w) (hI : ItoC Tryd.prog 27 w) :
    Calls Tryd.prog 4 #[] w fun e w' => e = .returned (.bool true) ∧ Tch [] w w' := by
  obtain ⟨m, hm⟩ := id hM
  have hp := tx_Parse w [97, 112, 112, 108, 101, 116, 32, 98, 195, 169, 116, 97, 10, 102, 105, 101, 108, 100, 32, 115, 101, 99, 10, 105, 109, 112, 111, 114, 116, 32, 97, 32, 49, 32, 110, 111, 110, 101, 32, 112, 117, 98, 32, 115, 101, 99, 97, 10, 109, 101, 116, 104, 111, 100, 32, 110, 111, 110, 101, 10, 108, 111, 99, 97, 108, 115, 32, 112, 117, 98, 97, 10, 114, 101, 116, 10, 101, 120, 112, 111, 114, 116, 32, 48] (by simp) m hm hV
  rw [ex_parseB] at hp
  clear hm
  go_enter Tryd.func4, Tryd.ntmps4
  go_wp2_with fail
  refine hp.mono ?_
  rintro e w1 ⟨vf, vi, vm, ve, rfl, i1, i2, i3, i4, hz, t1⟩
  clear hp
  replace i1 : RInts w1 [] vf exB.fields := i1
  replace i2 : RImps w1 [] vi exB.imports := i2
  replace i3 : RMths w1 [] vm exB.methods := i3
  replace i4 : RInts w1 [] ve exB.exports := i4
  replace hz : ImgZ exB := hz
  obtain ⟨af, cf, rfl⟩ := Src.form i1
  obtain ⟨ai, ci, rfl⟩ := RImps.form i2
  obtain ⟨am, cm, rfl⟩ := RMths.form i3
  obtain ⟨ae, ce, rfl⟩ := Src.form i4
  have hok := exB_ok
  have hpr := exB_print
  generalize exB = J at *
  obtain ⟨W, hW⟩ : ∃ W, W = w1.alloc (.cells #[.string ⟨J.name.toArray⟩, .slice af J.fields.length cf, .slice ai J.imports.length ci, .slice am J.methods.length cm, .slice ae J.exports.length ce] 29) := ⟨_, rfl⟩
  have tW : Tch [] w1 W := by rw [hW]; exact (Tch.refl [] w1).alloc _
  have hX : W.heap[w1.heap.size]? = some (.cells #[.string ⟨J.name.toArray⟩, .slice af J.fields.length cf, .slice ai J.imports.length ci, .slice am J.methods.length cm, .slice ae J.exports.length ce] 29 (0, 0)) := by rw [hW]; exact heap_alloc_new _ _
  have T1 := t1.then tW
  replace i1 := i1.tch tW (by simp)
  replace i2 := i2.tch tW (by simp)
  replace i3 := i3.tch tW (by simp)
  replace i4 := i4.tch tW (by simp)
  go_upto_region 2 with fail
  rw [← hW]
  clear hW
  generalize w1.heap.size = g at *
  have hA := tx_Print W J _ _ _ _ i1 i2 i3 i4 hz (hV.tch' T1) (hI.tch T1)
  rw [prRes_yes hok, hpr] at hA
  have hX0 := cellsI hX (Tch.refl [] W)
  clear t1 tW hX i1 i2 i3 i4 hz hok hpr
  go_wp2_with (first | (refine wpList_load_agg rfl 29 (.tmp 1) rfl ⟨g, 0, none⟩ rfl #[.string ⟨J.name.toArray⟩, .slice af J.fields.length cf, .slice ai J.imports.length ci, .slice am J.methods.length cm, .slice ae J.exports.length ce] _ hX0 Tryd.underlying29 rfl (by kernel_rfl) ?_) | fail)
  refine hA.mono ?_
  rintro e w2 ⟨rfl, _, t2⟩
  have T2 := T1.then t2
  clear hA hX0 T1 t2
  have hC := px_none w2 [97, 112, 112, 108, 101, 116, 32, 97, 10, 102, 105, 101, 108, 100, 32, 110, 111, 110, 101, 10] 2 (by simp) ex_parseC (hM.tch T2) (hV.tch' T2)
  go_wp2_with fail
  refine hC.mono ?_
  rintro e w3 ⟨a1, a2, a3, a4, a5, a6, a7, a8, rfl, t3⟩
  have T3 := T2.then (t3.alloc (.cells #[.string ⟨#[]⟩, .slice a1 0 a2, .slice a3 0 a4, .slice a5 0 a6, .slice a7 0 a8] 29))
  clear hC t3 T2
  go_upto_region 4 with fail
  generalize w3.alloc (.cells #[.string ⟨#[]⟩, .slice a1 0 a2, .slice a3 0 a4, .slice a5 0 a6, .slice a7 0 a8] 29) = W3 at *
  have hC := px_none W3 [97, 112, 112, 108, 101, 116, 32, 97, 10, 109, 101, 116, 104, 111, 100, 32, 110, 111, 110, 101, 10, 114, 101, 116, 32, 49, 10] 3 (by simp) ex_parseD (hM.tch T3) (hV.tch' T3)
  go_wp2_with fail
  refine hC.mono ?_
  rintro e w4 ⟨b1, b2, b3, b4, b5, b6, b7, b8, rfl, t4⟩
  have T4 := T3.then (t4.alloc (.cells #[.string ⟨#[]⟩, .slice b1 0 b2, .slice b3 0 b4, .slice b5 0 b6, .slice b7 0 b8] 29))
  clear hC t4 T3
  go_upto_region 5 with fail
  generalize w4.alloc (.cells #[.string ⟨#[]⟩, .slice b1 0 b2, .slice b3 0 b4, .slice b5 0 b6, .slice b7 0 b8] 29) = W4 at *
  have hC := px_none W4 [97, 112, 112, 108, 101, 116, 32, 97, 10] 2 (by simp) ex_parseE (hM.tch T4) (hV.tch' T4)
  go_wp2_with fail
  refine hC.mono ?_
  rintro e w5 ⟨c1, c2, c3, c4, c5, c6, c7, c8, rfl, t5⟩
  have T5 := T4.then (t5.alloc (.cells #[.string ⟨#[]⟩, .slice c1 0 c2, .slice c3 0 c4, .slice c5 0 c6, .slice c7 0 c8] 29))
  clear hC t5 T4
  go_upto_region 6 with fail
  generalize w5.alloc (.cells #[.string ⟨#[]⟩, .slice c1 0 c2, .slice c3 0 c4, .slice c5 0 c6, .slice c7 0 c8] 29) = W5 at *
  have hC := px_none W5 [] 1 (by simp) ex_parseF (hM.tch T5) (hV.tch' T5)
  go_wp2_with fail
  refine hC.mono ?_
  rintro e w6 ⟨d1, d2, d3, d4, d5, d6, d7, d8, rfl, t6⟩
  have T6 := T5.then (t6.alloc (.cells #[.string ⟨#[]⟩, .slice d1 0 d2, .slice d3 0 d4, .slice d5 0 d6, .slice d7 0 d8] 29))
  clear hC t6 T5
  go_upto_region 7 with fail
  generalize w6.alloc (.cells #[.string ⟨#[]⟩, .slice d1 0 d2, .slice d3 0 d4, .slice d5 0 d6, .slice d7 0 d8] 29) = W6 at *
  obtain ⟨n1, n2, n3, n4, nz⟩ := no_img W6
  have hN := tx_Print W6 ⟨[], [], [], [], []⟩ _ _ _ _ n1 n2 n3 n4 nz (hV.tch' T6) (hI.tch T6)
  rw [prRes_no no_ok] at hN
  clear n1 n2 n3 n4 nz
  go_wp2_with fail
  refine hN.mono ?_
  rintro e w7 ⟨rfl, _, t7⟩
  have T7 := T6.then t7
  clear hN t7 T6
  have hK := t5_known w7 (hM.tch T7) (hV.tch' T7)
  have e4 : kindNm 4 = [115, 101, 99, 97] := by decide
  have e5 : kindNm 5 = [] := by decide
  have p1 : kindW [112, 117, 98] = 1 := by decide
  have p2 : kindW [120] = -1 := by decide
  have k4 := fun w => tx_KindName w 4
  have k5 := fun w => tx_KindName w 5
  have q1 := fun w => tx_Kind w [112, 117, 98]
  have q2 := fun w => tx_Kind w [120]
  rw [e4] at k4
  rw [e5] at k5
  rw [p1] at q1
  rw [p2] at q2
  clear e4 e5 p1 p2 hM hV hI
  go_wp2_with fail
  refine hK.mono ?_
  rintro e w8 ⟨rfl, t8⟩
  have T8 := T7.then t8
  clear hK t8 T7
  go_wp2_with fail
  refine (k4 w8).mono ?_
  rintro e w9 ⟨rfl, rfl⟩
  go_wp2_with fail
  refine (q1 w8).mono ?_
  rintro e w9 ⟨rfl, rfl⟩
  go_wp2_with fail
  refine (q2 w8).mono ?_
  rintro e w9 ⟨rfl, rfl⟩
  go_wp2_with fail
  refine (k5 w8).mono ?_
  rintro e w9 ⟨rfl, rfl⟩
  go_wp2_with fail
  go_ret
  exact ⟨rfl, T8⟩
end Go.Proofs.YteebapopeaafhaaDoor
