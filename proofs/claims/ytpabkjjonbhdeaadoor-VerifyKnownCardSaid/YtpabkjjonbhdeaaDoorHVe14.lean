/-
  CONTRACTS: verify: Verify. Conditions: the numbers of instructions are not negative.
-/
import Derived.Test.YtpabkjjonbhdeaaDoorHVe13
import Derived.Test.YtpabkjjonbhdeaaDoorHImr
namespace Go.Proofs.YtpabkjjonbhdeaaDoor
open Go.RowKit Go.Tcn
set_option linter.unusedVariables false
set_option linter.unusedSimpArgs false
theorem meth_runs {i : Img} {m : Mth} {fuel : Nat} {r : Nat × Int} (h : methF i m fuel = some r) : ∃ τ, RunsTo i m r τ := by
  unfold methF at h
  unfold RunsTo
  cases hf : m.code.findIdx? (fun x => !namesF i m x) with
  | some pc =>
    rw [hf] at h
    simp only [Option.some.injEq] at h
    exact ⟨zeroF 0, .inl ⟨pc, rfl, h.symm⟩⟩
  | none =>
    rw [hf] at h
    obtain ⟨τ, hτ⟩ := runG_of h
    exact ⟨τ, .inr ⟨rfl, fuel, hτ⟩⟩
theorem img_facts {i : Img} (h : imgB i = true) : (∀ m ∈ i.methods, mthB m = true) ∧ (∀ x ∈ i.imports, impB x = true) ∧ 1 ≤ i.methods.length ∧ i.methods.length ≤ 8 := by
  unfold imgB at h
  simp only [Bool.and_eq_true, decide_eq_true_eq, List.all_eq_true] at h
  obtain ⟨⟨⟨⟨⟨⟨⟨⟨_, _⟩, _⟩, h3⟩, h4⟩, h5⟩, _⟩, _⟩, _⟩ := h
  exact ⟨h5, h3, h4.1, h4.2⟩
theorem mth_facts {m : Mth} (h : mthB m = true) : m.params.length ≤ 4 ∧ m.locals.length ≤ 10 ∧ 1 ≤ m.code.length ∧ m.code.length ≤ 120 ∧ ∀ x ∈ m.code, 1 ≤ x.op ∧ x.op ≤ 39 ∧ x.a ≤ 4294967295 := by
  unfold mthB kindsB at h
  simp only [Bool.and_eq_true, decide_eq_true_eq, List.all_eq_true] at h
  obtain ⟨⟨⟨⟨h1, _⟩, h2⟩, h3⟩, h4⟩ := h
  refine ⟨by have := h1.1; omega, by have := h2.1; omega, h3.1, h3.2, fun x hx => ?_⟩
  obtain ⟨f1, f2, f3, f4, f5, f6⟩ := rightI_facts _ _ _ (h4 x hx)
  refine ⟨f1, f2, ?_⟩
  by_cases h1 : x.op = 1
  · rw [h1] at f4
    have : limHi 1 = 2147483647 := rfl
    omega
  · have := limHi_le x.op h1
    omega
theorem imp_facts {x : Imp} (h : impB x = true) : x.params.length ≤ 1000 := by
  unfold impB kindsB at h
  simp only [Bool.and_eq_true, decide_eq_true_eq, List.all_eq_true] at h
  have := h.1.2.1
  omega
theorem ite_leK {c : Prop} [Decidable c] {a b : Nat} (ha : a ≤ 1000) (hb : b ≤ 1000) : (if c then a else b) ≤ 1000 := by split <;> assumption
theorem takes_le {i : Img} (h : imgB i = true) {m : Mth} (x : Ins) : (takesF i m x).length ≤ 1000 := by
  obtain ⟨f1, f2, _, _⟩ := img_facts h
  have h1 : (methAt i x.a).params.length ≤ 1000 := by
    unfold methAt
    rw [List.getD_eq_getElem?_getD]
    cases hx : i.methods[x.a.toNat]? with
    | none => simp
    | some y => have := mth_facts (f1 y (List.mem_of_getElem? hx)); simp; omega
  have h2 : (impAt i x.a).params.length ≤ 1000 := by
    unfold impAt
    rw [List.getD_eq_getElem?_getD]
    cases hx : i.imports[x.a.toNat]? with
    | none => simp
    | some y => have := imp_facts (f2 y (List.mem_of_getElem? hx)); simp; omega
  have h3 := resL_len m.result
  unfold takesF
  simp only [apply_ite List.length, List.length_cons, List.length_nil]
  repeat' (first | omega | apply ite_leK)
theorem ver_false {i : Img} {fuel a b : Nat} {e : Int} (h : verF i fuel = some ((a, b), e)) (hi : imgB i = false) : a = 0 ∧ b = 0 ∧ e = 1 := by
  unfold verF at h
  rw [if_neg (by rw [hi]; simp)] at h
  simp only [Option.some.injEq, Prod.mk.injEq] at h
  omega
theorem ver_true {i : Img} {fuel a b : Nat} {e : Int} (h : verF i fuel = some ((a, b), e)) (hi : imgB i = true) : verLoop i fuel (i.methods.drop 0) 0 = some ((a, b), e) := by
  unfold verF at h
  rw [if_pos hi] at h
  exact h
theorem ver_step {i : Img} {fuel a b k : Nat} {e : Int} (hk : k < i.methods.length) (h : verLoop i fuel (i.methods.drop k) k = some ((a, b), e)) : ∃ r : Nat × Int, methF i i.methods[k] fuel = some r ∧ ((r.2 = 0 ∧ verLoop i fuel (i.methods.drop (k + 1)) (k + 1) = some ((a, b), e)) ∨ (r.2 ≠ 0 ∧ a = k ∧ b = r.1 ∧ e = r.2)) := by
  rw [List.drop_eq_getElem_cons hk] at h
  unfold verLoop at h
  cases hm : methF i i.methods[k] fuel with
  | none => rw [hm] at h; cases h
  | some r =>
    obtain ⟨pc, e'⟩ := r
    rw [hm] at h
    simp only at h
    by_cases he : e' = 0
    · rw [if_pos he] at h
      exact ⟨_, rfl, .inl ⟨he, h⟩⟩
    · rw [if_neg he] at h
      simp only [Option.some.injEq, Prod.mk.injEq] at h
      exact ⟨_, rfl, .inr ⟨he, h.1.1.symm, h.1.2.symm, h.2.symm⟩⟩
theorem ver_end {i : Img} {fuel a b k : Nat} {e : Int} (hk : i.methods.length ≤ k) (h : verLoop i fuel (i.methods.drop k) k = some ((a, b), e)) : a = 0 ∧ b = 0 ∧ e = 0 := by
  rw [List.drop_eq_nil_of_le hk] at h
  unfold verLoop at h
  simp only [Option.some.injEq, Prod.mk.injEq] at h
  omega
set_option maxRecDepth 100000 in
set_option maxHeartbeats 16000000 in
theorem ve_Verify (w : World) (i : Img) (vf vi vm ve : Value) (hf : RInts w [] vf i.fields) (hi : RImps w [] vi i.imports) (hm : RMths w [] vm i.methods) (he : RInts w [] ve i.exports) (hz : ImgZ i) (hV : ∀ nm w', nm.length ≤ 16 → Tch [] w w' → Calls Tryd.prog 31 #[.string ⟨nm.toArray⟩] w' fun e w'' => e = .returned (.bool (Lib.validD nm)) ∧ Tch [] w' w'') (hnn : ∀ m ∈ i.methods, ∀ x ∈ m.code, 0 ≤ x.a) (fuel a b : Nat) (e0 : Int) (hr : verF i fuel = some ((a, b), e0)) :
    Calls Tryd.prog 7 #[.agg #[.string ⟨i.name.toArray⟩, vf, vi, vm, ve]] w fun e w' => e = .returned (.tuple #[.agg #[.int .i64 (a : Int), .int .i64 (b : Int)], .int .i64 e0]) ∧ Tch [] w w' := by
  obtain ⟨af, cf, rfl⟩ := Src.form hf
  obtain ⟨ai, ci, rfl⟩ := RImps.form hi
  obtain ⟨am, cm, rfl⟩ := RMths.form hm
  obtain ⟨ae, ce, rfl⟩ := Src.form he
  have hRt := fun (W : World) (t : Tch [] w W) => im_Right W i _ _ _ _ (hf.tch t (by simp)) (hi.tch t (by simp)) (hm.tch t (by simp)) (he.tch t (by simp)) hz (fun nm w' hn t' => hV nm w' hn (t.then t'))
  obtain ⟨V1, hV1⟩ : ∃ W, W = w.alloc (.cells #[.string ⟨i.name.toArray⟩, .slice af i.fields.length cf, .slice ai i.imports.length ci, .slice am i.methods.length cm, .slice ae i.exports.length ce] 32) := ⟨_, rfl⟩
  have tV : Tch [] w V1 := by rw [hV1]; exact (Tch.refl [] w).alloc _
  have hB1 : V1.heap[w.heap.size]? = some (.cells #[.string ⟨i.name.toArray⟩, .slice af i.fields.length cf, .slice ai i.imports.length ci, .slice am i.methods.length cm, .slice ae i.exports.length ce] 32 (0, 0)) := by rw [hV1]; exact heap_alloc_new w _
  obtain ⟨V2, hV2⟩ : ∃ W, W = V1.alloc (.cells #[.int .i64 0, .int .i64 0] 34) := ⟨_, rfl⟩
  have tV2 : Tch [] V1 V2 := by rw [hV2]; exact (Tch.refl [] V1).alloc _
  have hG : V2.heap[V1.heap.size]? = some (.cells #[.int .i64 0, .int .i64 0] 34 (0, 0)) := by rw [hV2]; exact heap_alloc_new V1 _
  obtain ⟨g, hg⟩ : ∃ g, g = w.heap.size := ⟨_, rfl⟩
  have hs1 : V1.heap.size = w.heap.size + 1 := by rw [hV1]; simp
  obtain ⟨gw, hgw⟩ : ∃ g, g = w.heap.size + 1 := ⟨_, rfl⟩
  have hgwl : w.heap.size ≤ gw := by omega
  rw [← hg] at hB1
  rw [hs1, ← hgw] at hG
  have hB : V2.heap[g]? = some (.cells #[.string ⟨i.name.toArray⟩, .slice af i.fields.length cf, .slice ai i.imports.length ci, .slice am i.methods.length cm, .slice ae i.exports.length ce] 32 (0, 0)) := (tV2.block g (heap_lt hB1) (by simp)).trans hB1
  have T2 := tV.then tV2
  have hX := cells_of_heapW hB
  clear hB1
  go_enter Tryd.func7, Tryd.ntmps7
  go_upto_region 1 with fail
  rw [← hV1, ← hV2, ← hgw, ← hg]
  clear hV1 hV2 hg hgw hs1
  cases hib : imgB i
  · obtain ⟨rfl, rfl, rfl⟩ := ver_false hr hib
    have hR := hRt V2 T2
    rw [hib] at hR
    clear hRt hib hr
    go_wp2_with (first | (refine wpList_load_agg rfl 32 (.tmp 1) rfl ⟨g, 0, none⟩ rfl #[.string ⟨i.name.toArray⟩, .slice af i.fields.length cf, .slice ai i.imports.length ci, .slice am i.methods.length cm, .slice ae i.exports.length ce] _ hX Tryd.underlying32 rfl (by kernel_rfl) ?_) | fail)
    refine hR.mono ?_
    rintro e w3 ⟨rfl, t3⟩
    obtain ⟨q0, q1, u0, u1⟩ := cells_two ((t3.block gw (heap_lt hG) (by simp)).trans hG)
    clear hX hR
    go_wp2_with fail
    refine bodyPost_ret (v := .tuple #[.agg #[.int .i64 0, .int .i64 0], .int .i64 1]) (by simp [results, Tryd.results7, go_sem, q0, q1, u0, u1]) rfl ?_
    exact ⟨rfl, ((T2.then t3).setCell (.inr hgwl) _).setCell (.inr hgwl) _⟩
  · have hv0 := ver_true hr hib
    obtain ⟨fm, fi, f1, f8⟩ := img_facts hib
    have htk := fun m x => takes_le hib (m := m) x
    have hR := hRt V2 T2
    rw [hib] at hR
    have hMt := fun (W : World) (t : Tch [] w W) (k : Nat) (hk : k < i.methods.length) => by
      obtain ⟨b1, b2, b3, b4, b5⟩ := mth_facts (fm _ (List.getElem_mem hk))
      exact ve_method W i _ _ _ _ (hf.tch t (by simp)) (hi.tch t (by simp)) (hm.tch t (by simp)) (he.tch t (by simp)) k hk _ rfl (by omega) (by omega) (by omega)
    have hRn := fun (W : World) (k : Nat) (hk : k < i.methods.length) (p : Nat) (V : WV) (h1 : WkR W 54 p V.ms i i.methods[k] V) (h2 : p ∉ V.ms) (h3 : StR W V (i.methods[k]).code.length (zeroF (i.methods[k]).code.length)) (r : Nat × Int) (τ : VS) (hr : RunsTo i i.methods[k] r τ) => by
      obtain ⟨b1, b2, b3, b4, b5⟩ := mth_facts (fm _ (List.getElem_mem hk))
      exact ve_run W p i i.methods[k] V h1 h2 h3 b3 (by omega) (fun x hx => ⟨(b5 x hx).1, (b5 x hx).2.1, hnn _ (List.getElem_mem hk) x hx, (b5 x hx).2.2⟩) (fun x _ => htk _ x) r τ hr
    have HV0 := Lib.hid hv0
    have HMT := Lib.hid hMt
    have HRN := Lib.hid hRn
    have hx3 : V2.cell? ⟨g, 3, none⟩ = some (.slice am i.methods.length cm) := by simp [World.cell?, hB]
    clear hRt hib hr hv0 fm fi f1 htk hMt hRn hnn
    go_wp2_with (first | (refine wpList_load_agg rfl 32 (.tmp 1) rfl ⟨g, 0, none⟩ rfl #[.string ⟨i.name.toArray⟩, .slice af i.fields.length cf, .slice ai i.imports.length ci, .slice am i.methods.length cm, .slice ae i.exports.length ce] _ hX Tryd.underlying32 rfl (by kernel_rfl) ?_) | fail)
    refine hR.mono ?_
    rintro e w3 ⟨rfl, t3⟩
    have T3 := T2.then t3
    have y3 := (t3.cell (cell_lt hx3) (by simp)).trans hx3
    have hB3 := (t3.block g (heap_lt hB) (by simp)).trans hB
    have hG3 := (t3.block gw (heap_lt hG) (by simp)).trans hG
    clear hX hR hx3 hB hG t3 T2 tV tV2
    go_wp2_with fail
    go_loopw [14] (fun iv wz => ∃ k : Nat, k ≤ i.methods.length ∧ iv = .int .i64 k ∧ verLoop i fuel (i.methods.drop k) k = some ((a, b), e0) ∧ Tch [] w3 wz) (fun iv _ => i.methods.length - (intOf iv).toNat)
    case atStart => exact ⟨0, by omega, rfl, HV0.out, Tch.refl _ _⟩
    case round =>
      obtain ⟨k, hk1, rfl, hd, t⟩ := hrel
      have TT := T3.then t
      by_cases hk : k < i.methods.length
      · obtain ⟨r, hmr, hst⟩ := ver_step hk hd
        obtain ⟨τ, hτ⟩ := meth_runs hmr
        have hM1 := HMT.out wr TT k hk
        have hX := cells_of_heapW ((t.block g (heap_lt hB3) (by simp)).trans hB3)
        have hG4 := (t.block gw (heap_lt hG3) (by simp)).trans hG3
        have HST := Lib.hid hst
        have HTAU := Lib.hid hτ
        clear hd hmr hst hτ y3
        go_wp2_with (first | (refine wpList_load_agg rfl 32 (.tmp 1) rfl ⟨g, 0, none⟩ rfl #[.string ⟨i.name.toArray⟩, .slice af i.fields.length cf, .slice ai i.imports.length ci, .slice am i.methods.length cm, .slice ae i.exports.length ce] _ hX Tryd.underlying32 rfl (by kernel_rfl) ?_) | fail)
        refine hM1.mono ?_
        rintro e w4 ⟨p, V, rfl, hwk, hpm, hsr, hms, hpw, t4⟩
        have hR5 := HRN.out w4 k hk p V hwk hpm hsr r τ HTAU.out
        have hbm : ∀ i ∈ V.ms, i < wr.heap.size → i ∈ ([] : List Nat) := fun i hi hlt => by have := hms i hi; omega
        clear hX hM1 hwk hsr
        go_wp2_with fail
        refine hR5.mono ?_
        rintro e w5 ⟨rfl, _, t5⟩
        have t45 : Tch [] wr w5 := t4.trans t5 (by simp) (fun i h1 h2 => hbm i h2 h1)
        have hG5 := (t45.block gw (heap_lt hG4) (by simp)).trans hG4
        obtain ⟨r1, r2⟩ := r
        clear hR5 hG4 t4 t5
        dsimp only
        by_cases hr2 : r2 = 0
        · subst hr2
          have hnx : verLoop i fuel (i.methods.drop (k + 1)) (k + 1) = some ((a, b), e0) := by
            rcases HST.out with ⟨_, h⟩ | ⟨h, _⟩
            · exact h
            · exact absurd rfl h
          have HNX := Lib.hid hnx
          clear hnx HST
          go_wp2_with fail
          go_roundw
          case rel => exact ⟨k + 1, by omega, by go_num, HNX.out, t.then t45⟩
          case measure => simp [intOf]; omega
        · have hb : (r2 != 0) = true := by simpa using hr2
          have hfi : a = k ∧ b = r1 ∧ e0 = r2 := by
            rcases HST.out with ⟨h, _⟩ | ⟨_, h⟩
            · exact absurd h hr2
            · exact h
          have HFI := Lib.hid hfi
          obtain ⟨q0, q1, u0, u1⟩ := cells_two hG5
          clear hfi HST hr2 hB3 hG3
          go_wp2_with fail
          refine bodyPost_ret (v := .tuple #[.agg #[.int .i64 (k : Int), .int .i64 (r1 : Int)], .int .i64 r2]) (by simp [results, Tryd.results7, go_sem, q0, q1, u0, u1]) rfl ?_
          obtain ⟨rfl, rfl, rfl⟩ := HFI.out
          exact ⟨rfl, ((TT.then t45).setCell (.inr hgwl) _).setCell (.inr hgwl) _⟩
      · obtain ⟨rfl, rfl, rfl⟩ := ver_end (by omega) hd
        obtain ⟨q0, q1, u0, u1⟩ := cells_two ((t.block gw (heap_lt hG3) (by simp)).trans hG3)
        clear hd HV0 y3
        go_wp2_with fail
        refine bodyPost_ret (v := .tuple #[.agg #[.int .i64 0, .int .i64 0], .int .i64 0]) (by simp [results, Tryd.results7, go_sem, q0, q1, u0, u1]) rfl ?_
        exact ⟨rfl, (TT.setCell (.inr hgwl) _).setCell (.inr hgwl) _⟩
end Go.Proofs.YtpabkjjonbhdeaaDoor
