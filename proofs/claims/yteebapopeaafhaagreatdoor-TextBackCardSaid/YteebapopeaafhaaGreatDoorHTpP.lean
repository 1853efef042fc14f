/-
  STATEMENT: TextPrints: any applet's lines are as the document says: the walk. Conditions: utf8's tables and the bins as they are laid; strconv.Itoa's contract; the variable MaxLen holds a number; the raw statements fit in memory.
-/
import Derived.Test.YteebapopeaafhaaGreatDoorHTpA
import Derived.Test.YteebapopeaafhaaGreatDoorHTpH
import Derived.Test.YteebapopeaafhaaGreatDoorHPr2
import Derived.Test.YteebapopeaafhaaGreatDoorHDp1
import Derived.Test.YteebapopeaafhaaGreatDoorHTnK
namespace Go.Tcn
open Go.RowKit
theorem prRes_form (i : Img) : ∃ (s : Wd) (n : Int), prRes i = .tuple #[.string ⟨s.toArray⟩, .int .i64 n] := by
  cases h : imgB i
  · exact ⟨[], 1, prRes_no h⟩
  · exact ⟨_, 0, prRes_yes h⟩
end Go.Tcn
namespace Go.Proofs.YteebapopeaafhaaGreatDoor
open Go.RowKit Go.Tcn
set_option linter.unusedVariables false
set_option linter.unusedSimpArgs false
set_option maxRecDepth 100000 in
set_option maxHeartbeats 8000000 in
theorem law5_TextPrints (w : World) (hG : Bins w 2) (k : Int) (hk : I6 k) (xv : Value) (l : List Rw) (hl : Raws w xv l) (hll : l.length ≤ 5000000000000) (hcap : ∀ ao n c, xv = .slice ao n c → n ≤ c) (how at0 by0 : Int) (hhow : I6 how) (hat : I6 at0) (hby : I6 by0) (hM : MaxC 3 w) (hV : ValC w) (hI : ItoC Tryz.prog 37 w) :
    Calls Tryz.prog 4 #[.int .i64 k, xv, .int .i64 how, .int .i64 at0, .int .i64 by0] w fun e w' => e = .returned (.bool true) ∧ Tch [] w w' := by
  have hAp := hand_AppX w hG k hk xv l hl hll hcap [] (by simp)
  obtain ⟨aox, nx, capx, hxv⟩ : ∃ ao n c, xv = .slice ao n c := by
    obtain ⟨ao, c, h, _⟩ := hl.ex
    exact ⟨ao, _, c, h⟩
  subst hxv
  clear hG hl hll hcap
  go_enter Tryz.func4, Tryz.ntmps4
  go_wp2_with fail
  refine hAp.mono ?_
  rintro e w1 ⟨i, vf, vi, vm, ve, rfl, r1, r2, r3, r4, hz, hb, hm3, hcod, t1⟩
  have hP1 := hand_Pick at0 1000 hat (by omega) (by omega) w1
  have hP2 := hand_Pick by0 1000 hby (by omega) (by omega) w1
  obtain ⟨p, hp, hp0⟩ : ∃ p : Int, at0 % 1000 = p ∧ 0 ≤ p ∧ p ≤ 999 := ⟨_, rfl, by omega, by omega⟩
  obtain ⟨q, hq, hq0⟩ : ∃ p : Int, by0 % 1000 = p ∧ 0 ≤ p ∧ p ≤ 999 := ⟨_, rfl, by omega, by omega⟩
  rw [hp] at hP1
  rw [hq] at hP2
  have hBt := hand_Bent w1 i vf vi vm ve r1 r2 [] (by simp) r3 r4 ⟨by omega, by omega⟩ hcod how p q hhow ⟨by omega, by omega⟩ ⟨by omega, by omega⟩
  clear hp hq hAp hm3 hcod hb
  obtain ⟨af, cf, rfl⟩ := Src.form r1
  obtain ⟨ai, ci, rfl⟩ := RImps.form r2
  obtain ⟨am0, cm0, rfl⟩ := RMths.form r3
  obtain ⟨ae, ce, rfl⟩ := Src.form r4
  go_wp2_with fail
  refine hP1.mono ?_
  rintro e w' ⟨rfl, rfl⟩
  go_wp2_with fail
  refine hP2.mono ?_
  rintro e w' ⟨rfl, rfl⟩
  go_wp2_with fail
  refine hBt.mono ?_
  rintro e w2 ⟨vm, ms, rfl, r3', hbm, t2⟩
  obtain ⟨am, cm, rfl⟩ := RMths.form r3'
  have hz' := bentP_z i ms hz hbm
  clear hBt hP1 hP2 hbm r3 hz hp0 hq0
  replace r1 := r1.tch t2 (by simp)
  replace r2 := r2.tch t2 (by simp)
  replace r4 := r4.tch t2 (by simp)
  have T2 := t1.then t2
  obtain ⟨J, hJ⟩ : ∃ J, J = ({ i with methods := ms } : Img) := ⟨_, rfl⟩
  obtain ⟨j1, j2, j3, j4, j5⟩ : J.name = i.name ∧ J.fields = i.fields ∧ J.imports = i.imports ∧ J.methods = ms ∧ J.exports = i.exports := by rw [hJ]; exact ⟨rfl, rfl, rfl, rfl, rfl⟩
  rw [← hJ] at hz'
  rw [← j2] at r1 ⊢
  rw [← j3] at r2 ⊢
  rw [← j4] at r3' ⊢
  rw [← j5] at r4 ⊢
  rw [← j1]
  clear j1 j2 j3 j4 j5 hJ t1 t2
  obtain ⟨W, hW⟩ : ∃ W, W = w2.alloc (.cells #[.string ⟨J.name.toArray⟩, .slice af J.fields.length cf, .slice ai J.imports.length ci, .slice am J.methods.length cm, .slice ae J.exports.length ce] 30) := ⟨_, rfl⟩
  have tW : Tch [] w2 W := by rw [hW]; exact (Tch.refl [] w2).alloc _
  have hX : W.heap[w2.heap.size]? = some (.cells #[.string ⟨J.name.toArray⟩, .slice af J.fields.length cf, .slice ai J.imports.length ci, .slice am J.methods.length cm, .slice ae J.exports.length ce] 30 (0, 0)) := by rw [hW]; exact heap_alloc_new _ _
  have T3 := T2.then tW
  replace r1 := r1.tch tW (by simp)
  replace r2 := r2.tch tW (by simp)
  replace r3' := r3'.tch tW (by simp)
  replace r4 := r4.tch tW (by simp)
  go_upto_region 2 with fail
  rw [← hW]
  clear hW
  generalize w2.heap.size = g at *
  have hA := tx_Print W J _ _ _ _ r1 r2 r3' r4 hz' (hV.tch' T3) (hI.tch T3)
  have hB := fun (W1 : World) (t : Tch [] W W1) => rf_Print W1 J _ _ _ _ (r1.tch t (by simp)) (r2.tch t (by simp)) (r3'.tch t (by simp)) (r4.tch t (by simp)) hz' (hV.tch' (T3.then t))
  have hK := fun (W1 : World) (t : Tch [] W W1) => t5_known W1 (hM.tch (T3.then t)) (hV.tch' (T3.then t))
  obtain ⟨s, n, hs⟩ := prRes_form J
  rw [hs] at hA
  rw [hs] at hB
  clear hs hz' r1 r2 r3' r4 T2 tW
  have hX0 := cellsI hX (Tch.refl [] W)
  go_wp2_with (first | (refine wpList_load_agg rfl 30 (.tmp 11) rfl ⟨g, 0, none⟩ rfl #[.string ⟨J.name.toArray⟩, .slice af J.fields.length cf, .slice ai J.imports.length ci, .slice am J.methods.length cm, .slice ae J.exports.length ce] _ hX0 Tryz.underlying30 rfl (by kernel_rfl) ?_) | fail)
  refine hA.mono ?_
  rintro e w3 ⟨rfl, _, t3⟩
  have hX1 := cellsI hX t3
  clear hX0 hA
  go_wp2_with (first | (refine wpList_load_agg rfl 30 (.tmp 11) rfl ⟨g, 0, none⟩ rfl #[.string ⟨J.name.toArray⟩, .slice af J.fields.length cf, .slice ai J.imports.length ci, .slice am J.methods.length cm, .slice ae J.exports.length ce] _ hX1 Tryz.underlying30 rfl (by kernel_rfl) ?_) | fail)
  refine (hB w3 t3).mono ?_
  rintro e w4 ⟨rfl, _, t4⟩
  have t34 := t3.then t4
  clear hX1 hB
  go_wp2_with fail
  refine (hK w4 t34).mono ?_
  rintro e w5 ⟨rfl, t5⟩
  have T5 := T3.then (t34.then t5)
  clear hK
  go_wp2_with fail
  refine (tx_KindName w5 by0).mono ?_
  rintro e w6 ⟨rfl, rfl⟩
  go_wp2_with fail
  refine (rf_KindName w5 by0).mono ?_
  rintro e w6 ⟨rfl, rfl⟩
  go_wp2_with fail
  go_ret
  exact ⟨rfl, T5⟩
end Go.Proofs.YteebapopeaafhaaGreatDoor
