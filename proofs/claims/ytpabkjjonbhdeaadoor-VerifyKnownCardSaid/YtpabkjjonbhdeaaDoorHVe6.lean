/-
  CONTRACTS: verify: height. Conditions: sizes of 64 bits.
-/
import Derived.Test.YtpabkjjonbhdeaaDoorHVe3
import Derived.Test.YtpabkjjonbhdeaaDoorHVe5
namespace Go.Proofs.YtpabkjjonbhdeaaDoor
open Go.RowKit Go.Tcn
set_option linter.unusedVariables false
set_option linter.unusedSimpArgs false
theorem make_8 (w : World) : (Instr.makeSlice 22 (.int .i64 8) (.int .i64 8)).run Tryd.prog w = .ok (.slice (some ⟨w.heap.size, 0, none⟩) 8 8) (w.alloc (.cells (madeCells #[.int .i64 0] 8) 3)) := by
  obtain ⟨i0, hi, hz0, hz1, hz2⟩ := info_parts info_intC
  have h := run_make (P := Tryd.prog) w 22 3 i0 (.int .i64 0) Tryd.underlying22 hi hz0 .i64 .i64 8 8 (by omega) (Int.le_refl _) (by rw [hz2]; omega) (by omega)
  have e1 : ((8 : Int).toNat) = 8 := rfl
  rw [e1, hz1, Nat.mul_one] at h
  exact h
set_option maxRecDepth 100000 in
set_option maxHeartbeats 4000000 in
theorem ve_height (w : World) (p : Nat) (M : List Nat) (i : Img) (m : Mth) (V : WV) (h : WkR w 54 p M i m V) (x : Ins) (hx : 1 ≤ x.op ∧ x.op ≤ 39 ∧ 0 ≤ x.a ∧ x.a ≤ 4294967295) (hn : namesF i m x = true) (hlen : (takesF i m x).length ≤ 8) :
    Calls Tryd.prog 49 #[.pointer (some ⟨p, 0, none⟩), .agg #[.int .i64 x.op, .int .i64 x.a, .int .i64 x.b]] w fun e w' => e = .returned (.int .i64 (givesF i m x (List.replicate 8 0)).length) ∧ Tch [] w w' := by
  have hG := fun (W : World) (t : Tch [] w W) => ve_gives W p M i m V (h.tch t (by simp) (by simp)) x hx hn
  obtain ⟨op, a, b⟩ := x
  obtain ⟨V1, hV1⟩ : ∃ W, W = w.alloc (.cells #[.int .i64 op, .int .i64 a, .int .i64 b] 24) := ⟨_, rfl⟩
  have tV : Tch [] w V1 := by rw [hV1]; exact (Tch.refl [] w).alloc _
  obtain ⟨g, hg⟩ : ∃ g, g = w.heap.size := ⟨_, rfl⟩
  have hB : V1.heap[g]? = some (.cells #[.int .i64 op, .int .i64 a, .int .i64 b] 24 (0, 0)) := by rw [hV1, hg]; exact heap_alloc_new w _
  have hmk := make_8
  clear h
  obtain ⟨gs, hgs⟩ : ∃ gs, gs = givesF i m ⟨op, a, b⟩ (List.replicate 8 0) := ⟨_, rfl⟩
  rw [← hgs]
  have HGS := Lib.hid hgs
  clear hgs
  go_enter Tryd.func49, Tryd.ntmps49
  go_upto_region 1 with fail
  rw [← hV1, ← hg]
  clear hV1 hg
  obtain ⟨V2, hV2⟩ : ∃ W, W = V1.alloc (.cells (madeCells #[.int .i64 0] 8) 3) := ⟨_, rfl⟩
  have t2 : Tch [] V1 V2 := by rw [hV2]; exact (Tch.refl [] V1).alloc _
  obtain ⟨g2, hg2⟩ : ∃ g, g = V1.heap.size := ⟨_, rfl⟩
  have hS : RInts V2 [] (.slice (some ⟨g2, 0, none⟩) (List.replicate 8 (0 : Int)).length 8) (List.replicate 8 0) := by
    have h := new_lit V1 (List.replicate 8 0) (madeCells #[.int .i64 0] 8) (by rw [toList_madeCells_one]; simp [ints]) [] (by simp)
    rw [hV2, hg2]
    exact h
  have hB2 := (t2.block g (heap_lt hB) (by simp)).trans hB
  have hcg : ∀ (j : Nat) u, (#[.int .i64 op, .int .i64 a, .int .i64 b] : Array Value).toList[j]? = some u → V2.cell? ((⟨g, 0, none⟩ : Addr).add j) = some u := fun j u hj => World.news_of_block hB2 j u hj
  have hC := hG V2 (tV.then t2) _ 8 _ hS (by simpa using hlen)
  clear hG
  rw [← HGS.out] at hC
  simp only [List.length_replicate] at hC
  go_upto_region 2 with fail
  rw [← hV2, ← hg2]
  clear hV2 hg2 hmk
  go_wp2_with (first | (refine wpList_load_agg rfl 24 (.tmp 3) rfl ⟨g, 0, none⟩ rfl #[.int .i64 op, .int .i64 a, .int .i64 b] _ hcg Tryd.underlying24 rfl (by kernel_rfl) ?_) | fail)
  refine hC.mono ?_
  rintro e w3 ⟨ao, cap, rfl, _, t3⟩
  go_wp2_with fail
  go_ret
  exact ⟨rfl, (tV.then t2).then t3⟩
end Go.Proofs.YtpabkjjonbhdeaaDoor
