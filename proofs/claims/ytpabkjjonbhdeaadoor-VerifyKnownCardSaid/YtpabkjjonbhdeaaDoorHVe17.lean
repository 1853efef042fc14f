/-
  CONTRACTS: verify: walked, States, Height, of an applet that is taken. Conditions: the numbers of instructions are not negative.
-/
import Derived.Test.YtpabkjjonbhdeaaDoorHVe14
namespace Go.Proofs.YtpabkjjonbhdeaaDoor
open Go.RowKit Go.Tcn
set_option linter.unusedVariables false
set_option linter.unusedSimpArgs false
/-- The height at a pc. -/
def heightI (τ : VS) (pc : Nat) : Int := if τ.has.getD pc false then ((τ.sts.getD pc []).length : Int) else -1
set_option maxRecDepth 100000 in
set_option maxHeartbeats 16000000 in
theorem ve_walked (w : World) (i : Img) (vf vi vm ve : Value) (hf : RInts w [] vf i.fields) (hi : RImps w [] vi i.imports) (hm : RMths w [] vm i.methods) (he : RInts w [] ve i.exports) (hz : ImgZ i) (hV : ∀ nm w', nm.length ≤ 16 → Tch [] w w' → Calls Tryd.prog 31 #[.string ⟨nm.toArray⟩] w' fun e w'' => e = .returned (.bool (Lib.validD nm)) ∧ Tch [] w' w'') (hnn : ∀ m ∈ i.methods, ∀ x ∈ m.code, 0 ≤ x.a) (fuel : Nat) (hr : verF i fuel = some ((0, 0), 0)) (hib : imgB i = true) (k : Nat) (hk : k < i.methods.length) (m : Mth) (hmk : i.methods[k] = m) (τ : VS) (hτ : RunsTo i m (0, 0) τ) :
    Calls Tryd.prog 16 #[.agg #[.string ⟨i.name.toArray⟩, vf, vi, vm, ve], .int .i64 (k : Int)] w fun e w' => (∃ p V, e = .returned (.pointer (some ⟨p, 0, none⟩)) ∧ WkR w' 54 p V.ms i m V ∧ p ∉ V.ms ∧ StR w' V m.code.length τ) ∧ Tch [] w w' := by
  obtain ⟨af, cf, rfl⟩ := Src.form hf
  obtain ⟨ai, ci, rfl⟩ := RImps.form hi
  obtain ⟨am, cm, rfl⟩ := RMths.form hm
  obtain ⟨ae, ce, rfl⟩ := Src.form he
  obtain ⟨fm, _, _, f8⟩ := img_facts hib
  obtain ⟨b1, b2, b3, b4, b5⟩ := mth_facts (fm _ (List.getElem_mem hk))
  rw [hmk] at b1 b2 b3 b4 b5
  have hnm : ∀ x ∈ m.code, 0 ≤ x.a := fun x hx => hnn _ (List.getElem_mem hk) x (by rw [hmk]; exact hx)
  have hVf := fun (W : World) (t : Tch [] w W) => ve_Verify W i _ _ _ _ (hf.tch t (by simp)) (hi.tch t (by simp)) (hm.tch t (by simp)) (he.tch t (by simp)) hz (fun nm w' hn t' => hV nm w' hn (t.then t')) hnn fuel 0 0 0 hr
  have hMt := fun (W : World) (t : Tch [] w W) => ve_method W i _ _ _ _ (hf.tch t (by simp)) (hi.tch t (by simp)) (hm.tch t (by simp)) (he.tch t (by simp)) k hk m hmk (by omega) (by omega) (by omega)
  have hRn := fun (W : World) (p : Nat) (V : WV) (h1 : WkR W 54 p V.ms i m V) (h2 : p ∉ V.ms) (h3 : StR W V m.code.length (zeroF m.code.length)) => ve_run W p i m V h1 h2 h3 b3 (by omega) (fun x hx => ⟨(b5 x hx).1, (b5 x hx).2.1, hnm x hx, (b5 x hx).2.2⟩) (fun x _ => takes_le hib x) (0, 0) τ hτ
  obtain ⟨V1, hV1⟩ : ∃ W, W = w.alloc (.cells #[.string ⟨i.name.toArray⟩, .slice af i.fields.length cf, .slice ai i.imports.length ci, .slice am i.methods.length cm, .slice ae i.exports.length ce] 32) := ⟨_, rfl⟩
  have tV : Tch [] w V1 := by rw [hV1]; exact (Tch.refl [] w).alloc _
  have hB : V1.heap[w.heap.size]? = some (.cells #[.string ⟨i.name.toArray⟩, .slice af i.fields.length cf, .slice ai i.imports.length ci, .slice am i.methods.length cm, .slice ae i.exports.length ce] 32 (0, 0)) := by rw [hV1]; exact heap_alloc_new w _
  obtain ⟨g, hg⟩ : ∃ g, g = w.heap.size := ⟨_, rfl⟩
  rw [← hg] at hB
  have hX := cells_of_heapW hB
  have hV2 : Calls Tryd.prog 7 #[.agg #[.string ⟨i.name.toArray⟩, .slice af i.fields.length cf, .slice ai i.imports.length ci, .slice am i.methods.length cm, .slice ae i.exports.length ce]] V1 fun e w' => e = .returned (.tuple #[.agg #[.int .i64 0, .int .i64 0], .int .i64 0]) ∧ Tch [] V1 w' := hVf V1 tV
  have HMT := Lib.hid hMt
  have HRN := Lib.hid hRn
  clear hVf hMt hRn hr hτ hib fm b5 hnm hnn hmk
  go_enter Tryd.func16, Tryd.ntmps16
  go_upto_region 1 with fail
  rw [← hV1, ← hg]
  clear hV1 hg
  go_wp2_with (first | (refine wpList_load_agg rfl 32 (.tmp 2) rfl ⟨g, 0, none⟩ rfl #[.string ⟨i.name.toArray⟩, .slice af i.fields.length cf, .slice ai i.imports.length ci, .slice am i.methods.length cm, .slice ae i.exports.length ce] _ hX Tryd.underlying32 rfl (by kernel_rfl) ?_) | fail)
  refine hV2.mono ?_
  rintro e w2 ⟨rfl, t2⟩
  clear hX hV2
  go_upto_region 2 with fail
  obtain ⟨V3, hV3⟩ : ∃ W, W = w2.alloc (.cells #[.int .i64 0, .int .i64 0] 34) := ⟨_, rfl⟩
  have t3 : Tch [] w2 V3 := by rw [hV3]; exact (Tch.refl [] w2).alloc _
  rw [← hV3]
  clear hV3
  have T3 := t2.then t3
  have hB3 := (T3.block g (heap_lt hB) (by simp)).trans hB
  have hX := cells_of_heapW hB3
  have hx3 : V3.cell? ⟨g, 3, none⟩ = some (.slice am i.methods.length cm) := by simp [World.cell?, hB3]
  have hM4 := HMT.out V3 (tV.then T3)
  have hkn : decide ((k : Int) < 0) = false := by simp
  go_wp2_with (first | (refine wpList_load_agg rfl 32 (.tmp 2) rfl ⟨g, 0, none⟩ rfl #[.string ⟨i.name.toArray⟩, .slice af i.fields.length cf, .slice ai i.imports.length ci, .slice am i.methods.length cm, .slice ae i.exports.length ce] _ hX Tryd.underlying32 rfl (by kernel_rfl) ?_) | fail)
  refine hM4.mono ?_
  rintro e w4 ⟨p, V, rfl, hwk, hpm, hsr, hms, hpw, t4⟩
  have hR5 := HRN.out w4 p V hwk hpm hsr
  have hR6 : Calls Tryd.prog 15 #[.pointer (some ⟨p, 0, none⟩)] w4 fun e w' => e = .returned (.tuple #[.int .i64 0, .int .i64 0]) ∧ EndR w' V m (0, 0) τ ∧ Tch V.ms w4 w' := hR5
  have hbm : ∀ i ∈ V.ms, i < V3.heap.size → i ∈ ([] : List Nat) := fun i hi hlt => by have := hms i hi; omega
  clear hX hM4 hsr hR5 hx3 hB3
  go_wp2_with fail
  refine hR6.mono ?_
  rintro e w5 ⟨rfl, hE, t5⟩
  clear hR6
  go_wp2_with fail
  go_ret
  exact ⟨⟨p, V, rfl, hwk.tch t5 hpm (fun _ h _ => h), hpm, hE rfl⟩, (tV.then T3).then (t4.trans t5 (by simp) (fun i h1 h2 => hbm i h2 h1))⟩
set_option maxRecDepth 100000 in
set_option maxHeartbeats 16000000 in
theorem ve_States (w : World) (i : Img) (vf vi vm ve : Value) (hf : RInts w [] vf i.fields) (hi : RImps w [] vi i.imports) (hm : RMths w [] vm i.methods) (he : RInts w [] ve i.exports) (hz : ImgZ i) (hV : ∀ nm w', nm.length ≤ 16 → Tch [] w w' → Calls Tryd.prog 31 #[.string ⟨nm.toArray⟩] w' fun e w'' => e = .returned (.bool (Lib.validD nm)) ∧ Tch [] w' w'') (hnn : ∀ m ∈ i.methods, ∀ x ∈ m.code, 0 ≤ x.a) (fuel : Nat) (hr : verF i fuel = some ((0, 0), 0)) (hib : imgB i = true) (k : Nat) (hk : k < i.methods.length) (m : Mth) (hmk : i.methods[k] = m) (τ : VS) (hτ : RunsTo i m (0, 0) τ) :
    Calls Tryd.prog 10 #[.agg #[.string ⟨i.name.toArray⟩, vf, vi, vm, ve], .int .i64 (k : Int)] w fun e w' => (∃ V, e = .returned (.tuple #[.slice (some ⟨V.bs, 0, none⟩) m.code.length m.code.length, .bool true]) ∧ StR w' V m.code.length τ) ∧ Tch [] w w' := by
  obtain ⟨af, cf, rfl⟩ := Src.form hf
  obtain ⟨ai, ci, rfl⟩ := RImps.form hi
  obtain ⟨am, cm, rfl⟩ := RMths.form hm
  obtain ⟨ae, ce, rfl⟩ := Src.form he
  have hW := fun (W : World) (t : Tch [] w W) => ve_walked W i _ _ _ _ (hf.tch t (by simp)) (hi.tch t (by simp)) (hm.tch t (by simp)) (he.tch t (by simp)) hz (fun nm w' hn t' => hV nm w' hn (t.then t')) hnn fuel hr hib k hk m hmk τ hτ
  obtain ⟨V1, hV1⟩ : ∃ W, W = w.alloc (.cells #[.string ⟨i.name.toArray⟩, .slice af i.fields.length cf, .slice ai i.imports.length ci, .slice am i.methods.length cm, .slice ae i.exports.length ce] 32) := ⟨_, rfl⟩
  have tV : Tch [] w V1 := by rw [hV1]; exact (Tch.refl [] w).alloc _
  have hB : V1.heap[w.heap.size]? = some (.cells #[.string ⟨i.name.toArray⟩, .slice af i.fields.length cf, .slice ai i.imports.length ci, .slice am i.methods.length cm, .slice ae i.exports.length ce] 32 (0, 0)) := by rw [hV1]; exact heap_alloc_new w _
  obtain ⟨g, hg⟩ : ∃ g, g = w.heap.size := ⟨_, rfl⟩
  rw [← hg] at hB
  have hX := cells_of_heapW hB
  have hW1 := hW V1 tV
  clear hW hr hτ hib hnn hmk hf hi hm he hV
  go_enter Tryd.func10, Tryd.ntmps10
  go_upto_region 1 with fail
  rw [← hV1, ← hg]
  clear hV1 hg
  go_wp2_with (first | (refine wpList_load_agg rfl 32 (.tmp 2) rfl ⟨g, 0, none⟩ rfl #[.string ⟨i.name.toArray⟩, .slice af i.fields.length cf, .slice ai i.imports.length ci, .slice am i.methods.length cm, .slice ae i.exports.length ce] _ hX Tryd.underlying32 rfl (by kernel_rfl) ?_) | fail)
  refine hW1.mono ?_
  rintro e w2 ⟨⟨p, V, rfl, hwk, hpm, hsr⟩, t2⟩
  have c10 := hwk.c10
  clear hX hW1 hwk
  go_wp2_with fail
  go_ret2
  exact ⟨⟨V, rfl, hsr⟩, tV.then t2⟩
set_option maxRecDepth 100000 in
set_option maxHeartbeats 16000000 in
theorem ve_Height (w : World) (i : Img) (vf vi vm ve : Value) (hf : RInts w [] vf i.fields) (hi : RImps w [] vi i.imports) (hm : RMths w [] vm i.methods) (he : RInts w [] ve i.exports) (hz : ImgZ i) (hV : ∀ nm w', nm.length ≤ 16 → Tch [] w w' → Calls Tryd.prog 31 #[.string ⟨nm.toArray⟩] w' fun e w'' => e = .returned (.bool (Lib.validD nm)) ∧ Tch [] w' w'') (hnn : ∀ m ∈ i.methods, ∀ x ∈ m.code, 0 ≤ x.a) (fuel : Nat) (hr : verF i fuel = some ((0, 0), 0)) (hib : imgB i = true) (k : Nat) (hk : k < i.methods.length) (m : Mth) (hmk : i.methods[k] = m) (τ : VS) (hτ : RunsTo i m (0, 0) τ) (pc : Nat) (hpc : pc < m.code.length) :
    Calls Tryd.prog 12 #[.agg #[.string ⟨i.name.toArray⟩, vf, vi, vm, ve], .int .i64 (k : Int), .int .i64 (pc : Int)] w fun e w' => e = .returned (.int .i64 (heightI τ pc)) ∧ Tch [] w w' := by
  obtain ⟨af, cf, rfl⟩ := Src.form hf
  obtain ⟨ai, ci, rfl⟩ := RImps.form hi
  obtain ⟨am, cm, rfl⟩ := RMths.form hm
  obtain ⟨ae, ce, rfl⟩ := Src.form he
  have hW := fun (W : World) (t : Tch [] w W) => ve_walked W i _ _ _ _ (hf.tch t (by simp)) (hi.tch t (by simp)) (hm.tch t (by simp)) (he.tch t (by simp)) hz (fun nm w' hn t' => hV nm w' hn (t.then t')) hnn fuel hr hib k hk m hmk τ hτ
  obtain ⟨V1, hV1⟩ : ∃ W, W = w.alloc (.cells #[.string ⟨i.name.toArray⟩, .slice af i.fields.length cf, .slice ai i.imports.length ci, .slice am i.methods.length cm, .slice ae i.exports.length ce] 32) := ⟨_, rfl⟩
  have tV : Tch [] w V1 := by rw [hV1]; exact (Tch.refl [] w).alloc _
  have hB : V1.heap[w.heap.size]? = some (.cells #[.string ⟨i.name.toArray⟩, .slice af i.fields.length cf, .slice ai i.imports.length ci, .slice am i.methods.length cm, .slice ae i.exports.length ce] 32 (0, 0)) := by rw [hV1]; exact heap_alloc_new w _
  obtain ⟨g, hg⟩ : ∃ g, g = w.heap.size := ⟨_, rfl⟩
  rw [← hg] at hB
  have hX := cells_of_heapW hB
  have hW1 := hW V1 tV
  clear hW hr hτ hib hnn hmk hf hi hm he hV
  go_enter Tryd.func12, Tryd.ntmps12
  go_upto_region 1 with fail
  rw [← hV1, ← hg]
  clear hV1 hg
  go_wp2_with (first | (refine wpList_load_agg rfl 32 (.tmp 3) rfl ⟨g, 0, none⟩ rfl #[.string ⟨i.name.toArray⟩, .slice af i.fields.length cf, .slice ai i.imports.length ci, .slice am i.methods.length cm, .slice ae i.exports.length ce] _ hX Tryd.underlying32 rfl (by kernel_rfl) ?_) | fail)
  refine hW1.mono ?_
  rintro e w2 ⟨⟨p, V, rfl, hwk, hpm, hsr⟩, t2⟩
  have c10 := hwk.c10
  have c11 := hwk.c11
  clear hX hW1 hwk
  have d11 := hsr.ch hpc
  obtain ⟨sa, sc, ys, _, l8⟩ := hsr.cs hpc
  cases hh : τ.has.getD pc false
  · rw [hh] at d11
    have HH := Lib.hid (show heightI τ pc = -1 by unfold heightI; rw [hh]; rfl)
    clear hh
    have hkn : decide ((pc : Int) < 0) = false := by simp
    go_wp2_with fail
    go_ret
    exact ⟨by rw [HH.out]; try rfl, tV.then t2⟩
  · rw [hh] at d11
    have HH := Lib.hid (show heightI τ pc = ((τ.sts.getD pc []).length : Int) by unfold heightI; rw [hh]; rfl)
    clear hh
    have hkn : decide ((pc : Int) < 0) = false := by simp
    generalize (τ.sts.getD pc []).length = nl at *
    go_wp2_with fail
    go_ret
    exact ⟨by rw [HH.out]; try rfl, tV.then t2⟩
end Go.Proofs.YtpabkjjonbhdeaaDoor
