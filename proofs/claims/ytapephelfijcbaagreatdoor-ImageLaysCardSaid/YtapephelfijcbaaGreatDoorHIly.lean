/-
  STATEMENT: ImageLays: which applets may be, and their bytes, are as the document says: the walk. Conditions: utf8's tables and the bins as they are laid; the raw statements fit in memory; sizes of 64 bits.
-/
import Derived.Test.YtapephelfijcbaaGreatDoorHBnb
import Derived.Test.YtapephelfijcbaaGreatDoorHRfl
import Derived.Test.YtapephelfijcbaaGreatDoorHImx
namespace Go.Tcn
open Go.RowKit
set_option linter.unusedVariables false
set_option linter.unusedSimpArgs false
theorem block_cells {w w' : World} {g : Nat} {cs : Array Value} {T : TypeId} {fr : Nat × Nat} (h : w.heap[g]? = some (.cells cs T fr)) (t : Tch [] w w') : ∀ (a : Nat) u, cs.toList[a]? = some u → w'.cell? ((⟨g, 0, none⟩ : Addr).add a) = some u :=
  fun a u hu => World.news_of_block ((t.block g (heap_lt h) (by simp)).trans h) a u hu
def layB (i : Img) : List Int := if imgB i = true then encImg i else []
def layE (i : Img) : Int := if imgB i = true then 0 else 1
end Go.Tcn
namespace Go.Proofs.YtapephelfijcbaaGreatDoor
open Go.RowKit Go.Tcn
set_option linter.unusedVariables false
set_option linter.unusedSimpArgs false
theorem lays_im (w : World) (i : Img) (vf vi vm ve : Value) (hf : RInts w [] vf i.fields) (hi : RImps w [] vi i.imports) (hm : RMths w [] vm i.methods) (he : RInts w [] ve i.exports) (hz : ImgZ i) (hV : ∀ nm w', nm.length ≤ 16 → Tch [] w w' → Calls Tryz.prog 77 #[.string ⟨nm.toArray⟩] w' fun e w'' => e = .returned (.bool (Lib.validD nm)) ∧ Tch [] w' w'') :
    Calls Tryz.prog 7 #[.agg #[.string ⟨i.name.toArray⟩, vf, vi, vm, ve]] w fun e w' => ∃ ao cap, e = .returned (.tuple #[.slice ao (layB i).length cap, .int .i64 (layE i)]) ∧ Src w' [] (.slice ao (layB i).length cap) (layB i).length (bys (layB i)) ∧ Tch [] w w' := by
  unfold layB layE
  cases hB : imgB i
  · refine (im_Lay_no w i vf vi vm ve hf hi hm he hz hV hB).mono ?_
    rintro e w' ⟨rfl, t⟩
    exact ⟨none, 0, rfl, ⟨.inl ⟨rfl, rfl, rfl⟩⟩, t⟩
  · refine (im_Lay_ok w i vf vi vm ve hf hi hm he hz hV hB).mono ?_
    rintro e w' ⟨ao, cap, rfl, ho, _, t⟩
    exact ⟨ao, cap, rfl, src_of_owns ho [] (by simp), t⟩
theorem lays_rf (w : World) (i : Img) (vf vi vm ve : Value) (hf : RInts w [] vf i.fields) (hi : RImps w [] vi i.imports) (hm : RMths w [] vm i.methods) (he : RInts w [] ve i.exports) (hz : ImgZ i) (hV : ∀ nm w', nm.length ≤ 16 → Tch [] w w' → Calls Tryz.prog 77 #[.string ⟨nm.toArray⟩] w' fun e w'' => e = .returned (.bool (Lib.validD nm)) ∧ Tch [] w' w'') :
    Calls Tryz.prog 8 #[.agg #[.string ⟨i.name.toArray⟩, vf, vi, vm, ve]] w fun e w' => ∃ ao cap, e = .returned (.tuple #[.slice ao (layB i).length cap, .int .i64 (layE i)]) ∧ Src w' [] (.slice ao (layB i).length cap) (layB i).length (bys (layB i)) ∧ Tch [] w w' := by
  unfold layB layE
  cases hB : imgB i
  · refine (rf_Lay_no w i vf vi vm ve hf hi hm he hz hV hB).mono ?_
    rintro e w' ⟨rfl, t⟩
    exact ⟨none, 0, rfl, ⟨.inl ⟨rfl, rfl, rfl⟩⟩, t⟩
  · refine (rf_Lay_ok w i vf vi vm ve hf hi hm he hz hV hB).mono ?_
    rintro e w' ⟨ao, cap, rfl, hs, t⟩
    exact ⟨ao, cap, rfl, hs, t⟩
set_option maxRecDepth 100000 in
set_option maxHeartbeats 16000000 in
theorem law4_ImageLays (w : World) (hG : Bins w 2) (k : Int) (hk : I6 k) (xv : Value) (l : List Rw) (hl : Raws w xv l) (hll : l.length ≤ 5000000000000) (hcap : ∀ ao n c, xv = .slice ao n c → n ≤ c) (how at0 by0 : Int) (hhow : I6 how) (hat : I6 at0) (hby : I6 by0) (j : Img) (wf wi wm we : Value) (q1 : RInts w [] wf j.fields) (q2 : RImps w [] wi j.imports) (q3 : RMths w [] wm j.methods) (q4 : RInts w [] we j.exports) (hzj : ImgZ j) (which : Bool) (hV : ∀ nm w', nm.length ≤ 16 → Tch [] w w' → Calls Tryz.prog 77 #[.string ⟨nm.toArray⟩] w' fun e w'' => e = .returned (.bool (Lib.validD nm)) ∧ Tch [] w' w'') :
    Calls Tryz.prog 3 #[.int .i64 k, xv, .int .i64 how, .int .i64 at0, .int .i64 by0, .agg #[.string ⟨j.name.toArray⟩, wf, wi, wm, we], .bool which] w fun e w' => e = .returned (.bool true) ∧ Tch [] w w' := by
  obtain ⟨bf, df, rfl⟩ := Src.form q1
  obtain ⟨bi, di, rfl⟩ := RImps.form q2
  obtain ⟨bm, dm, rfl⟩ := RMths.form q3
  obtain ⟨be, de, rfl⟩ := Src.form q4
  obtain ⟨g0, hg0⟩ : ∃ g, g = w.heap.size := ⟨_, rfl⟩
  obtain ⟨V, hVd⟩ : ∃ V, V = w.alloc (.cells #[.string ⟨j.name.toArray⟩, .slice bf j.fields.length df, .slice bi j.imports.length di, .slice bm j.methods.length dm, .slice be j.exports.length de] 27) := ⟨_, rfl⟩
  have tV : Tch [] w V := by rw [hVd]; exact (Tch.refl [] w).alloc _
  have hA : V.heap[g0]? = some (.cells #[.string ⟨j.name.toArray⟩, .slice bf j.fields.length df, .slice bi j.imports.length di, .slice bm j.methods.length dm, .slice be j.exports.length de] 27 (0, 0)) := by rw [hVd, hg0]; exact heap_alloc_new w _
  have hP1 := hand_Pick at0 1000 hat (by omega) (by omega) V
  have hP2 := hand_Pick by0 1000 hby (by omega) (by omega) V
  obtain ⟨p, hp, hp0⟩ : ∃ p : Int, at0 % 1000 = p ∧ 0 ≤ p ∧ p ≤ 999 := ⟨_, rfl, by omega, by omega⟩
  obtain ⟨q, hq, hq0⟩ : ∃ p : Int, by0 % 1000 = p ∧ 0 ≤ p ∧ p ≤ 999 := ⟨_, rfl, by omega, by omega⟩
  rw [hp] at hP1
  rw [hq] at hP2
  clear hp hq
  have hBn := law4_bent V (hG.tch tV) k hk xv l (hl.tch tV) hll hcap how p q hhow hp0 hq0
  have hKn : ∀ W, Tch [] w W → Calls Tryz.prog 9 #[] W fun e w' => e = .returned (.bool true) ∧ Tch [] W w' := fun W t => law4_known W (fun nm w' h16 t' => hV nm w' h16 (t.then t'))
  obtain ⟨aox, nx, capx, hxv⟩ : ∃ ao n c, xv = .slice ao n c := by
    obtain ⟨ao, c, h, _⟩ := hl.ex
    exact ⟨ao, _, c, h⟩
  subst hxv
  clear hG hl hll hcap
  go_enter Tryz.func3, Tryz.ntmps3
  go_upto_region 1 with fail
  rw [← hVd]
  clear hVd
  subst hg0
  go_wp2_with fail
  refine hP1.mono ?_
  rintro e w' ⟨rfl, rfl⟩
  go_wp2_with fail
  refine hP2.mono ?_
  rintro e w' ⟨rfl, rfl⟩
  go_wp2_with fail
  refine hBn.mono ?_
  rintro e w1 ⟨i, vf, vi, vm, ve, rfl, r1, r2, r3, r4, hz, t1⟩
  obtain ⟨af, cf, rfl⟩ := Src.form r1
  obtain ⟨ai, ci, rfl⟩ := RImps.form r2
  obtain ⟨am, cm, rfl⟩ := RMths.form r3
  obtain ⟨ae, ce, rfl⟩ := Src.form r4
  clear hP1 hP2 hBn
  obtain ⟨g, hg⟩ : ∃ g, g = w1.heap.size := ⟨_, rfl⟩
  obtain ⟨W, hW⟩ : ∃ W, W = w1.alloc (.cells #[.string ⟨i.name.toArray⟩, .slice af i.fields.length cf, .slice ai i.imports.length ci, .slice am i.methods.length cm, .slice ae i.exports.length ce] 27) := ⟨_, rfl⟩
  have tW : Tch [] w1 W := by rw [hW]; exact (Tch.refl [] w1).alloc _
  have hX : W.heap[g]? = some (.cells #[.string ⟨i.name.toArray⟩, .slice af i.fields.length cf, .slice ai i.imports.length ci, .slice am i.methods.length cm, .slice ae i.exports.length ce] 27 (0, 0)) := by rw [hW, hg]; exact heap_alloc_new w1 _
  have T1 := tV.then (t1.then tW)
  have hA1 : W.heap[w.heap.size]? = some (.cells #[.string ⟨j.name.toArray⟩, .slice bf j.fields.length df, .slice bi j.imports.length di, .slice bm j.methods.length dm, .slice be j.exports.length de] 27 (0, 0)) := ((t1.then tW).block w.heap.size (heap_lt hA) (by simp)).trans hA
  have hgw : w.heap.size ≤ g := by rw [hg]; have := (tV.then t1).size; omega
  have hg01 : w.heap.size < g := by rw [hg]; have := heap_lt hA; have := t1.size; omega
  go_upto_region 2 with fail
  rw [← hW, ← hg]
  cases which
  · have u1 := r1.tch tW (by simp)
    have u2 := r2.tch tW (by simp)
    have u3 := r3.tch tW (by simp)
    have u4 := r4.tch tW (by simp)
    clear r1 r2 r3 r4 q1 q2 q3 q4 hW hg
    go_upto_region 4 with fail
    have hLa := lays_im W i _ _ _ _ u1 u2 u3 u4 hz (fun nm w' h16 t' => hV nm w' h16 (T1.then t'))
    have hLb := fun (W1 : World) (t : Tch [] W W1) => lays_rf W1 i _ _ _ _ (u1.tch t (by simp)) (u2.tch t (by simp)) (u3.tch t (by simp)) (u4.tch t (by simp)) hz (fun nm w' h16 t' => hV nm w' h16 ((T1.then t).then t'))
    have hRa := fun (W1 : World) (t : Tch [] W W1) => im_Right W1 i _ _ _ _ (u1.tch t (by simp)) (u2.tch t (by simp)) (u3.tch t (by simp)) (u4.tch t (by simp)) hz (fun nm w' h16 t' => hV nm w' h16 ((T1.then t).then t'))
    have hRb := fun (W1 : World) (t : Tch [] W W1) => rf_Right W1 i _ _ _ _ (u1.tch t (by simp)) (u2.tch t (by simp)) (u3.tch t (by simp)) (u4.tch t (by simp)) hz (fun nm w' h16 t' => hV nm w' h16 ((T1.then t).then t'))
    generalize imgB i = d at hRa hRb
    generalize layB i = bs at hLa hLb
    generalize layE i = er at hLa hLb
    clear u1 u2 u3 u4
    have hX0 := block_cells hX (Tch.refl [] W)
    go_wp2_with (first | (refine wpList_load_agg rfl 27 (.tmp 15) rfl ⟨g, 0, none⟩ rfl #[.string ⟨i.name.toArray⟩, .slice af i.fields.length cf, .slice ai i.imports.length ci, .slice am i.methods.length cm, .slice ae i.exports.length ce] _ hX0 Tryz.underlying27 rfl (by kernel_rfl) ?_) | fail)
    refine hLa.mono ?_
    rintro e w3 ⟨ao, cap, rfl, s1, t3⟩
    have hX1 := block_cells hX t3
    clear hX0 hLa
    go_wp2_with (first | (refine wpList_load_agg rfl 27 (.tmp 15) rfl ⟨g, 0, none⟩ rfl #[.string ⟨i.name.toArray⟩, .slice af i.fields.length cf, .slice ai i.imports.length ci, .slice am i.methods.length cm, .slice ae i.exports.length ce] _ hX1 Tryz.underlying27 rfl (by kernel_rfl) ?_) | fail)
    refine (hLb w3 t3).mono ?_
    rintro e w4 ⟨ao2, cap2, rfl, s2, t4⟩
    have t34 := t3.then t4
    have hX4 := (t34.block g (heap_lt hX) (by simp)).trans hX
    have hc1 := fun (x : TW [] w4) => run_str (P := Tryz.prog) 30 5 9 Tryz.underlying30 Tryz.underlying5 Tryz.underlying9 ((s1.tch t4 (by simp)).tch x.t (by simp))
    have hc2 := fun (x : TW [] w4) => run_str (P := Tryz.prog) 30 5 9 Tryz.underlying30 Tryz.underlying5 Tryz.underlying9 (s2.tch x.t (by simp))
    have hRa' : ∀ x : TW [] w4, Calls Tryz.prog 10 #[.agg #[.string ⟨i.name.toArray⟩, .slice af i.fields.length cf, .slice ai i.imports.length ci, .slice am i.methods.length cm, .slice ae i.exports.length ce]] x.w fun e w' => e = .returned (.bool d) ∧ Tch [] x.w w' := fun x => hRa x.w (t34.then x.t)
    have hRb' : ∀ x : TW [] w4, Calls Tryz.prog 11 #[.agg #[.string ⟨i.name.toArray⟩, .slice af i.fields.length cf, .slice ai i.imports.length ci, .slice am i.methods.length cm, .slice ae i.exports.length ce]] x.w fun e w' => e = .returned (.bool d) ∧ Tch [] x.w w' := fun x => hRb x.w (t34.then x.t)
    have hKq : ∀ x : TW [] w4, Calls Tryz.prog 9 #[] x.w fun e w' => e = .returned (.bool true) ∧ Tch [] x.w w' := fun x => hKn x.w ((T1.then t34).then x.t)
    have TE := T1.then t34
    clear hRa hRb hLb hKn s1 s2 hX1
    generalize strOfNums bs = sb at hc1 hc2
    generalize bs.length = n at hc1 hc2 ⊢
    go_upto_region 6 with fail
    refine wp_region_tch (L := []) (w0 := w4) (by kernel_rfl) (by kernel_rfl) (Tch.refl [] w4) ?_
    repeat (go_big_quiet_step ((first | rfl | (go_at_call 9; exact tch_of (hKq _)))))
    go_big_quiet_want
    refine quiet_load_agg 27 (.tmp 15) rfl ⟨g, 0, none⟩ rfl #[.string ⟨i.name.toArray⟩, .slice af i.fields.length cf, .slice ai i.imports.length ci, .slice am i.methods.length cm, .slice ae i.exports.length ce] _ (by rintro _ ⟨x, rfl⟩; exact block_cells hX4 x.t) Tryz.underlying27 rfl (by kernel_rfl) ?_
    go_simp
    go_big_quiet_on
    go_big_quiet_step ((go_at_call 10; exact tch_of (hRa' _)))
    go_big_quiet_want
    refine quiet_load_agg 27 (.tmp 15) rfl ⟨g, 0, none⟩ rfl #[.string ⟨i.name.toArray⟩, .slice af i.fields.length cf, .slice ai i.imports.length ci, .slice am i.methods.length cm, .slice ae i.exports.length ce] _ (by rintro _ ⟨x, rfl⟩; exact block_cells hX4 x.t) Tryz.underlying27 rfl (by kernel_rfl) ?_
    go_simp
    go_big_quiet_on
    go_big_quiet_step ((go_at_call 11; exact tch_of (hRb' _)))
    cases d
    all_goals
      repeat (go_big_quiet_step (rfl))
      refine wpQuiet_nil ?_
      intro _ hw'
      obtain ⟨x, rfl⟩ := hw'
      go_wp2_with fail
      go_ret
      exact ⟨by simp, TE.then x.t⟩
  · obtain ⟨V2, hV2⟩ : ∃ V, V = ((((W.setCell ⟨g, 0, none⟩ (.string ⟨j.name.toArray⟩)).setCell ⟨g, 1, none⟩ (.slice bf j.fields.length df)).setCell ⟨g, 2, none⟩ (.slice bi j.imports.length di)).setCell ⟨g, 3, none⟩ (.slice bm j.methods.length dm)).setCell ⟨g, 4, none⟩ (.slice be j.exports.length de) := ⟨_, rfl⟩
    have tV2 : Tch [g] W V2 := by rw [hV2]; exact ((((((Tch.refl [g] W).setCell (.inl (by simp)) _).setCell (.inl (by simp)) _).setCell (.inl (by simp)) _).setCell (.inl (by simp)) _).setCell (.inl (by simp)) _)
    have hX2 : V2.heap[g]? = some (.cells #[.string ⟨j.name.toArray⟩, .slice bf j.fields.length df, .slice bi j.imports.length di, .slice bm j.methods.length dm, .slice be j.exports.length de] 27 (0, 0)) := by rw [hV2]; exact box_setc (box_setc (box_setc (box_setc (box_setc hX 0 _) 1 _) 2 _) 3 _) 4 _
    have sV : ∀ i ∈ [g], i < W.heap.size → i ∈ [g] := fun i hi _ => hi
    have u1 := RInts.thin (RInts.tch (RInts.tch (RInts.mono (L' := [g]) q1 (fun i hi hlt => by simp at hi; omega)) T1 (by simp)) tV2 sV)
    have u2 := RImps.thin (RImps.tch (RImps.tch (RImps.mono (L' := [g]) q2 (fun i hi hlt => by simp at hi; omega)) T1 (by simp)) tV2 sV)
    have u3 := RMths.thin (RMths.tch (RMths.tch (RMths.mono (L' := [g]) q3 (fun i hi hlt => by simp at hi; omega)) T1 (by simp)) tV2 sV)
    have u4 := RInts.thin (RInts.tch (RInts.tch (RInts.mono (L' := [g]) q4 (fun i hi hlt => by simp at hi; omega)) T1 (by simp)) tV2 sV)
    have TV : Tch [] w V2 := T1.trans tV2 (M := []) (by simp) (fun i hi hx => by simp at hx; omega)
    obtain ⟨y0, y1, y2, y3, y4, h0, h1, h2, h3, h4⟩ := F5.of hX
    have hA0 := block_cells hA1 (Tch.refl [] W)
    clear r1 r2 r3 r4 q1 q2 q3 q4 hW hg
    go_upto_region 4 with (first | (refine wpList_load_agg rfl 27 (.tmp 12) rfl ⟨w.heap.size, 0, none⟩ rfl #[.string ⟨j.name.toArray⟩, .slice bf j.fields.length df, .slice bi j.imports.length di, .slice bm j.methods.length dm, .slice be j.exports.length de] _ hA0 Tryz.underlying27 rfl (by kernel_rfl) ?_) | fail)
    rw [← hV2]
    clear hV2 y0 y1 y2 y3 y4 h0 h1 h2 h3 h4 hA0
    have hLa := lays_im V2 j _ _ _ _ u1 u2 u3 u4 hzj (fun nm w' h16 t' => hV nm w' h16 (TV.then t'))
    have hLb := fun (W1 : World) (t : Tch [] V2 W1) => lays_rf W1 j _ _ _ _ (u1.tch t (by simp)) (u2.tch t (by simp)) (u3.tch t (by simp)) (u4.tch t (by simp)) hzj (fun nm w' h16 t' => hV nm w' h16 ((TV.then t).then t'))
    have hRa := fun (W1 : World) (t : Tch [] V2 W1) => im_Right W1 j _ _ _ _ (u1.tch t (by simp)) (u2.tch t (by simp)) (u3.tch t (by simp)) (u4.tch t (by simp)) hzj (fun nm w' h16 t' => hV nm w' h16 ((TV.then t).then t'))
    have hRb := fun (W1 : World) (t : Tch [] V2 W1) => rf_Right W1 j _ _ _ _ (u1.tch t (by simp)) (u2.tch t (by simp)) (u3.tch t (by simp)) (u4.tch t (by simp)) hzj (fun nm w' h16 t' => hV nm w' h16 ((TV.then t).then t'))
    generalize imgB j = d at hRa hRb
    generalize layB j = bs at hLa hLb
    generalize layE j = er at hLa hLb
    clear u1 u2 u3 u4
    have hX0 := block_cells hX2 (Tch.refl [] V2)
    go_wp2_with (first | (refine wpList_load_agg rfl 27 (.tmp 15) rfl ⟨g, 0, none⟩ rfl #[.string ⟨j.name.toArray⟩, .slice bf j.fields.length df, .slice bi j.imports.length di, .slice bm j.methods.length dm, .slice be j.exports.length de] _ hX0 Tryz.underlying27 rfl (by kernel_rfl) ?_) | fail)
    refine hLa.mono ?_
    rintro e w3 ⟨ao, cap, rfl, s1, t3⟩
    have hX1 := block_cells hX2 t3
    clear hX0 hLa
    go_wp2_with (first | (refine wpList_load_agg rfl 27 (.tmp 15) rfl ⟨g, 0, none⟩ rfl #[.string ⟨j.name.toArray⟩, .slice bf j.fields.length df, .slice bi j.imports.length di, .slice bm j.methods.length dm, .slice be j.exports.length de] _ hX1 Tryz.underlying27 rfl (by kernel_rfl) ?_) | fail)
    refine (hLb w3 t3).mono ?_
    rintro e w4 ⟨ao2, cap2, rfl, s2, t4⟩
    have t34 := t3.then t4
    have hX4 := (t34.block g (heap_lt hX2) (by simp)).trans hX2
    have hc1 := fun (x : TW [] w4) => run_str (P := Tryz.prog) 30 5 9 Tryz.underlying30 Tryz.underlying5 Tryz.underlying9 ((s1.tch t4 (by simp)).tch x.t (by simp))
    have hc2 := fun (x : TW [] w4) => run_str (P := Tryz.prog) 30 5 9 Tryz.underlying30 Tryz.underlying5 Tryz.underlying9 (s2.tch x.t (by simp))
    have hRa' : ∀ x : TW [] w4, Calls Tryz.prog 10 #[.agg #[.string ⟨j.name.toArray⟩, .slice bf j.fields.length df, .slice bi j.imports.length di, .slice bm j.methods.length dm, .slice be j.exports.length de]] x.w fun e w' => e = .returned (.bool d) ∧ Tch [] x.w w' := fun x => hRa x.w (t34.then x.t)
    have hRb' : ∀ x : TW [] w4, Calls Tryz.prog 11 #[.agg #[.string ⟨j.name.toArray⟩, .slice bf j.fields.length df, .slice bi j.imports.length di, .slice bm j.methods.length dm, .slice be j.exports.length de]] x.w fun e w' => e = .returned (.bool d) ∧ Tch [] x.w w' := fun x => hRb x.w (t34.then x.t)
    have hKq : ∀ x : TW [] w4, Calls Tryz.prog 9 #[] x.w fun e w' => e = .returned (.bool true) ∧ Tch [] x.w w' := fun x => hKn x.w ((TV.then t34).then x.t)
    have TE := TV.then t34
    clear hRa hRb hLb hKn s1 s2 hX1
    generalize strOfNums bs = sb at hc1 hc2
    generalize bs.length = n at hc1 hc2 ⊢
    go_upto_region 6 with fail
    refine wp_region_tch (L := []) (w0 := w4) (by kernel_rfl) (by kernel_rfl) (Tch.refl [] w4) ?_
    repeat (go_big_quiet_step ((first | rfl | (go_at_call 9; exact tch_of (hKq _)))))
    go_big_quiet_want
    refine quiet_load_agg 27 (.tmp 15) rfl ⟨g, 0, none⟩ rfl #[.string ⟨j.name.toArray⟩, .slice bf j.fields.length df, .slice bi j.imports.length di, .slice bm j.methods.length dm, .slice be j.exports.length de] _ (by rintro _ ⟨x, rfl⟩; exact block_cells hX4 x.t) Tryz.underlying27 rfl (by kernel_rfl) ?_
    go_simp
    go_big_quiet_on
    go_big_quiet_step ((go_at_call 10; exact tch_of (hRa' _)))
    go_big_quiet_want
    refine quiet_load_agg 27 (.tmp 15) rfl ⟨g, 0, none⟩ rfl #[.string ⟨j.name.toArray⟩, .slice bf j.fields.length df, .slice bi j.imports.length di, .slice bm j.methods.length dm, .slice be j.exports.length de] _ (by rintro _ ⟨x, rfl⟩; exact block_cells hX4 x.t) Tryz.underlying27 rfl (by kernel_rfl) ?_
    go_simp
    go_big_quiet_on
    go_big_quiet_step ((go_at_call 11; exact tch_of (hRb' _)))
    cases d
    all_goals
      repeat (go_big_quiet_step (rfl))
      refine wpQuiet_nil ?_
      intro _ hw'
      obtain ⟨x, rfl⟩ := hw'
      go_wp2_with fail
      go_ret
      exact ⟨by simp, TE.then x.t⟩
end Go.Proofs.YtapephelfijcbaaGreatDoor
