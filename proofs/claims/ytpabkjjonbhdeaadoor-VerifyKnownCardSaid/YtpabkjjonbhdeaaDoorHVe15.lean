/-
  CONTRACTS: one and known of the laws of chapter 7. Conditions: none.
-/
import Derived.Test.YtpabkjjonbhdeaaDoorHVe14
namespace Go.Tcn
open Go.RowKit
set_option linter.unusedVariables false
set_option linter.unusedSimpArgs false
theorem src_blkV {w : World} {L : List Nat} {b : Nat} {cs : Array Value} {t : TypeId} {m c : Nat} {fr : Nat × Nat} (h : w.heap[b]? = some (.cells cs t fr)) (hL : b ∉ L) (hmc : m ≤ c) : Src w L (.slice (some ⟨b, 0, none⟩) m c) m cs.toList :=
  ⟨.inr ⟨_, _, rfl, hmc, fun j u hj => ⟨hL, World.news_of_block h j u hj⟩⟩⟩
theorem mths_1 {w : World} {T : TypeId} {b : Nat} {m : Mth} {vp vl vc : Value} (h : w.heap[b]? = some (.cells #[vp, .int .i64 m.result, vl, vc] T (0, 0))) (hp : RInts w [] vp m.params) (hl : RInts w [] vl m.locals) (hc : RCode w [] vc m.code) : RMths w [] (.slice (some ⟨b, 0, none⟩) 1 1) [m] := by
  refine ⟨[[vp, .int .i64 m.result, vl, vc]], rfl, fun cs hm => ?_, ?_, fun k cs x h2 h3 => ?_⟩
  · simp at hm; subst hm; rfl
  · have := src_blkV (L := []) (m := 1) (c := 1) h (by simp) (Nat.le_refl 1)
    simpa using this
  · match k with
    | 0 =>
      simp at h2 h3
      subst h2 h3
      exact ⟨vp, vl, vc, rfl, hp, hl, hc⟩
    | k + 1 => simp at h2
theorem mths_2 {w : World} {T : TypeId} {b : Nat} {m m' : Mth} {vp vl vc vp' vl' vc' : Value} (h : w.heap[b]? = some (.cells #[vp, .int .i64 m.result, vl, vc, vp', .int .i64 m'.result, vl', vc'] T (0, 0))) (hp : RInts w [] vp m.params) (hl : RInts w [] vl m.locals) (hc : RCode w [] vc m.code) (hp' : RInts w [] vp' m'.params) (hl' : RInts w [] vl' m'.locals) (hc' : RCode w [] vc' m'.code) : RMths w [] (.slice (some ⟨b, 0, none⟩) 2 2) [m, m'] := by
  refine ⟨[[vp, .int .i64 m.result, vl, vc], [vp', .int .i64 m'.result, vl', vc']], rfl, fun cs hm => ?_, ?_, fun k cs x h2 h3 => ?_⟩
  · simp at hm; rcases hm with rfl | rfl <;> rfl
  · have := src_blkV (L := []) (m := 2) (c := 2) h (by simp) (Nat.le_refl 2)
    simpa using this
  · match k with
    | 0 =>
      simp at h2 h3
      subst h2 h3
      exact ⟨vp, vl, vc, rfl, hp, hl, hc⟩
    | 1 =>
      simp at h2 h3
      subst h2 h3
      exact ⟨vp', vl', vc', rfl, hp', hl', hc'⟩
    | k + 2 => simp at h2
theorem nil_ints {w : World} {L : List Nat} : RInts w L (.slice none 0 0) [] := show Src w L (.slice none 0 0) 0 [] from ⟨.inl ⟨rfl, rfl, rfl⟩⟩
theorem nil_code {w : World} {L : List Nat} : RCode w L (.slice none 0 0) [] := show Src w L (.slice none 0 0) 0 [] from ⟨.inl ⟨rfl, rfl, rfl⟩⟩
theorem nil_imps {w : World} {L : List Nat} : RImps w L (.slice none 0 0) [] := ⟨[], rfl, by simp, ⟨.inl ⟨rfl, rfl, rfl⟩⟩, by simp⟩
theorem nil_mths {w : World} {L : List Nat} : RMths w L (.slice none 0 0) [] := ⟨[], rfl, by simp, ⟨.inl ⟨rfl, rfl, rfl⟩⟩, by simp⟩
theorem code_lit (w : World) (l : List Ins) (cs : Array Value) (T : TypeId) (hcs : cs.toList = codeCells l) : RCode (w.alloc (.cells cs T)) [] (.slice (some ⟨w.heap.size, 0, none⟩) l.length l.length) l := by
  have h := src_blkV (L := []) (m := l.length) (c := l.length) (heap_alloc_new w (.cells cs T)) (by simp) (Nat.le_refl _)
  rw [hcs] at h
  exact h
end Go.Tcn
namespace Go.Proofs.YtpabkjjonbhdeaaDoor
open Go.RowKit Go.Tcn
set_option linter.unusedVariables false
set_option linter.unusedSimpArgs false
set_option maxRecDepth 100000 in
set_option maxHeartbeats 4000000 in
theorem l7_one (w : World) (ao : Option Addr) (cap : Nat) (c : List Ins) (hc : RCode w [] (.slice ao c.length cap) c) :
    Calls Tryd.prog 11 #[.slice ao c.length cap] w fun e w' => (∃ gm, e = .returned (.agg #[.string ⟨#[97]⟩, .slice none 0 0, .slice none 0 0, .slice (some ⟨gm, 0, none⟩) 1 1, .slice none 0 0]) ∧ RMths w' [] (.slice (some ⟨gm, 0, none⟩) 1 1) [oneM c]) ∧ Tch [] w w' := by
  obtain ⟨V1, hV1⟩ : ∃ W, W = w.alloc (.cells #[.string ⟨#[]⟩, .slice none 0 0, .slice none 0 0, .slice none 0 0, .slice none 0 0] 32) := ⟨_, rfl⟩
  have tV : Tch [] w V1 := by rw [hV1]; exact (Tch.refl [] w).alloc _
  have hB : V1.heap[w.heap.size]? = some (.cells #[.string ⟨#[]⟩, .slice none 0 0, .slice none 0 0, .slice none 0 0, .slice none 0 0] 32 (0, 0)) := by rw [hV1]; exact heap_alloc_new w _
  obtain ⟨g, hg⟩ : ∃ g, g = w.heap.size := ⟨_, rfl⟩
  have hgl : w.heap.size ≤ g := by omega
  rw [← hg] at hB
  go_enter Tryd.func11, Tryd.ntmps11
  go_upto_region 1 with fail
  rw [← hV1, ← hg]
  clear hV1 hg
  have p0 : V1.cell? ⟨g, 0, none⟩ = some (.string ⟨#[]⟩) := by simp [World.cell?, hB]
  have f0 : V1.frozen? ⟨g, 0, none⟩ = false := by simp [World.frozen?, hB]
  have p1 : V1.cell? ⟨g, 1, none⟩ = some (.slice none 0 0) := by simp [World.cell?, hB]
  have f1 : V1.frozen? ⟨g, 1, none⟩ = false := by simp [World.frozen?, hB]
  have p2 : V1.cell? ⟨g, 2, none⟩ = some (.slice none 0 0) := by simp [World.cell?, hB]
  have f2 : V1.frozen? ⟨g, 2, none⟩ = false := by simp [World.frozen?, hB]
  have p3 : V1.cell? ⟨g, 3, none⟩ = some (.slice none 0 0) := by simp [World.cell?, hB]
  have f3 : V1.frozen? ⟨g, 3, none⟩ = false := by simp [World.frozen?, hB]
  have p4 : V1.cell? ⟨g, 4, none⟩ = some (.slice none 0 0) := by simp [World.cell?, hB]
  have f4 : V1.frozen? ⟨g, 4, none⟩ = false := by simp [World.frozen?, hB]
  have hgv := heap_lt hB
  go_wp2_with fail
  obtain ⟨W5, hW5⟩ : ∃ W, W = ((((V1.setCell ⟨g, 0, none⟩ (.string ⟨#[97]⟩)).setCell ⟨g, 1, none⟩ (.slice none 0 0)).setCell ⟨g, 2, none⟩ (.slice none 0 0)).setCell ⟨g, 3, none⟩ (.slice (some ⟨V1.heap.size, 0, none⟩) 1 1)).setCell ⟨g, 4, none⟩ (.slice none 0 0) := ⟨_, rfl⟩
  have T5 : Tch [g] V1 W5 := by rw [hW5]; exact (((((Tch.refl [g] V1).setCell (.inl (by simp)) _).setCell (.inl (by simp)) _).setCell (.inl (by simp)) _).setCell (.inl (by simp)) _).setCell (.inl (by simp)) _
  have hB5 : W5.heap[g]? = some (.cells #[.string ⟨#[97]⟩, .slice none 0 0, .slice none 0 0, .slice (some ⟨V1.heap.size, 0, none⟩) 1 1, .slice none 0 0] 32 (0, 0)) := by rw [hW5]; simp [World.setCell, Array.getElem?_modify, hB]
  have hs5 : W5.heap.size = V1.heap.size := by rw [hW5]; simp [World.setCell]
  rw [← hW5]
  obtain ⟨W6, hW6⟩ : ∃ W, W = W5.alloc (.cells #[.slice none 0 0, .int .i64 0, .slice none 0 0, .slice ao c.length cap] 28) := ⟨_, rfl⟩
  have t6 : Tch [] W5 W6 := by rw [hW6]; exact (Tch.refl [] W5).alloc _
  have hB6 : W6.heap[V1.heap.size]? = some (.cells #[.slice none 0 0, .int .i64 0, .slice none 0 0, .slice ao c.length cap] 28 (0, 0)) := by rw [hW6, ← hs5]; exact heap_alloc_new W5 _
  have hBg := (t6.block g (heap_lt hB5) (by simp)).trans hB5
  rw [← hW6]
  have r0 : W6.cell? ⟨g, 0, none⟩ = some (.string ⟨#[97]⟩) := by simp [World.cell?, hBg]
  have r1 : W6.cell? ⟨g, 1, none⟩ = some (.slice none 0 0) := by simp [World.cell?, hBg]
  have r2 : W6.cell? ⟨g, 2, none⟩ = some (.slice none 0 0) := by simp [World.cell?, hBg]
  have r3 : W6.cell? ⟨g, 3, none⟩ = some (.slice (some ⟨V1.heap.size, 0, none⟩) 1 1) := by simp [World.cell?, hBg]
  have r4 : W6.cell? ⟨g, 4, none⟩ = some (.slice none 0 0) := by simp [World.cell?, hBg]
  clear hW5 hW6
  refine bodyPost_ret (v := .agg #[.string ⟨#[97]⟩, .slice none 0 0, .slice none 0 0, .slice (some ⟨V1.heap.size, 0, none⟩) 1 1, .slice none 0 0]) (by simp [results, Tryd.results11, go_sem, r0, r1, r2, r3, r4]) rfl ?_
  have hgs : ∀ i ∈ [g], i < w.heap.size → i ∈ ([] : List Nat) := fun i hi hlt => by simp at hi; omega
  have TF : Tch [] w W6 := (tV.trans T5 (by simp) (fun i h1 h2 => hgs i h2 h1)).then t6
  exact ⟨⟨V1.heap.size, rfl, mths_1 hB6 nil_ints nil_ints (hc.tch TF (by simp))⟩, TF⟩
theorem oneI_z (c : List Ins) (hl : c.length ≤ 1000) (hc : ∀ x ∈ c, 0 ≤ x.a ∧ x.b = 0) : ImgZ (oneI c) := by
  unfold ImgZ oneI
  refine ⟨by simp, by simp, by simp, by simp, fun m hm => ?_, by simp⟩
  simp at hm
  subst hm
  refine ⟨by simp [oneM], by simp [oneM], by simp [oneM]; omega, fun x hx => ?_⟩
  rw [(hc x hx).2]
  unfold I6
  omega
set_option maxRecDepth 100000 in
theorem l7_ver (w : World) (gm : Nat) (c : List Ins) (hm : RMths w [] (.slice (some ⟨gm, 0, none⟩) 1 1) [oneM c]) (hV : ∀ nm w', nm.length ≤ 16 → Tch [] w w' → Calls Tryd.prog 31 #[.string ⟨nm.toArray⟩] w' fun e w'' => e = .returned (.bool (Lib.validD nm)) ∧ Tch [] w' w'') (hl : c.length ≤ 1000) (hc : ∀ x ∈ c, 0 ≤ x.a ∧ x.b = 0) (fuel a b : Nat) (e0 : Int) (hr : verF (oneI c) fuel = some ((a, b), e0)) :
    Calls Tryd.prog 7 #[.agg #[.string ⟨#[97]⟩, .slice none 0 0, .slice none 0 0, .slice (some ⟨gm, 0, none⟩) 1 1, .slice none 0 0]] w fun e w' => e = .returned (.tuple #[.agg #[.int .i64 (a : Int), .int .i64 (b : Int)], .int .i64 e0]) ∧ Tch [] w w' :=
  ve_Verify w (oneI c) _ _ _ _ nil_ints nil_imps hm nil_ints (oneI_z c hl hc) hV (fun m hm' x hx => by
    simp [oneI] at hm'
    subst hm'
    exact (hc x hx).1) fuel a b e0 hr
set_option maxRecDepth 100000 in
set_option maxHeartbeats 4000000 in
theorem l7_known (w : World) (hV : ∀ nm w', nm.length ≤ 16 → Tch [] w w' → Calls Tryd.prog 31 #[.string ⟨nm.toArray⟩] w' fun e w'' => e = .returned (.bool (Lib.validD nm)) ∧ Tch [] w' w'') :
    Calls Tryd.prog 8 #[] w fun e w' => e = .returned (.bool true) ∧ Tch [] w w' := by
  have hV2 := fun (W : World) (t : Tch [] w W) nm w' h t' => hV nm w' h (t.then t')
  clear hV
  have HV := Lib.hid hV2
  clear hV2
  go_enter Tryd.func8, Tryd.ntmps8
  have h11 : Calls Tryd.prog 11 #[.slice (some ⟨w.heap.size, 0, none⟩) 4 4] (w.alloc (.cells #[.int .i64 35, .int .i64 2, .int .i64 0, .int .i64 1, .int .i64 0, .int .i64 0, .int .i64 29, .int .i64 0, .int .i64 0, .int .i64 24, .int .i64 0, .int .i64 0] 24)) _ := l7_one (w.alloc (.cells #[.int .i64 35, .int .i64 2, .int .i64 0, .int .i64 1, .int .i64 0, .int .i64 0, .int .i64 29, .int .i64 0, .int .i64 0, .int .i64 24, .int .i64 0, .int .i64 0] 24)) (some ⟨w.heap.size, 0, none⟩) 4 [⟨35, 2, 0⟩, ⟨1, 0, 0⟩, ⟨29, 0, 0⟩, ⟨24, 0, 0⟩] (code_lit w [⟨35, 2, 0⟩, ⟨1, 0, 0⟩, ⟨29, 0, 0⟩, ⟨24, 0, 0⟩] #[.int .i64 35, .int .i64 2, .int .i64 0, .int .i64 1, .int .i64 0, .int .i64 0, .int .i64 29, .int .i64 0, .int .i64 0, .int .i64 24, .int .i64 0, .int .i64 0] 24 rfl)
  go_wp2_with fail
  refine h11.mono ?_
  rintro e w12 ⟨⟨gm1, rfl, hm1⟩, t12⟩
  have u1 : Tch [] w w12 := ((Tch.refl [] w).alloc _).then t12
  have h12 : Calls Tryd.prog 7 #[.agg #[.string ⟨#[97]⟩, .slice none 0 0, .slice none 0 0, .slice (some ⟨gm1, 0, none⟩) 1 1, .slice none 0 0]] w12 fun e w' => e = .returned (.tuple #[.agg #[.int .i64 0, .int .i64 3], .int .i64 12]) ∧ Tch [] w12 w' := l7_ver w12 gm1 [⟨35, 2, 0⟩, ⟨1, 0, 0⟩, ⟨29, 0, 0⟩, ⟨24, 0, 0⟩] hm1 (HV.out w12 ((Tch.refl [] w).then u1)) (by decide) (by decide) 9 0 3 12 ver_k6
  clear h11
  go_wp2_with fail
  refine h12.mono ?_
  rintro e w13 ⟨rfl, t13⟩
  clear h12
  go_upto_region 2 with fail
  obtain ⟨W1, hW1⟩ : ∃ W, W = w13.alloc (.cells #[.int .i64 0, .int .i64 3] 34) := ⟨_, rfl⟩
  have tW1 : Tch [] w13 W1 := by rw [hW1]; exact (Tch.refl [] w13).alloc _
  have hB1 : W1.heap[w13.heap.size]? = some (.cells #[.int .i64 0, .int .i64 3] 34 (0, 0)) := by rw [hW1]; exact heap_alloc_new w13 _
  obtain ⟨g1, hg1⟩ : ∃ g, g = w13.heap.size := ⟨_, rfl⟩
  rw [← hW1, ← hg1]
  rw [← hg1] at hB1
  clear hW1 hg1
  have TT1 : Tch [] w W1 := ((Tch.refl [] w).then u1).then (t13.then tW1)
  have h21 : Calls Tryd.prog 11 #[.slice (some ⟨W1.heap.size, 0, none⟩) 3 3] (W1.alloc (.cells #[.int .i64 1, .int .i64 0, .int .i64 0, .int .i64 4, .int .i64 0, .int .i64 0, .int .i64 39, .int .i64 0, .int .i64 0] 24)) _ := l7_one (W1.alloc (.cells #[.int .i64 1, .int .i64 0, .int .i64 0, .int .i64 4, .int .i64 0, .int .i64 0, .int .i64 39, .int .i64 0, .int .i64 0] 24)) (some ⟨W1.heap.size, 0, none⟩) 3 [⟨1, 0, 0⟩, ⟨4, 0, 0⟩, ⟨39, 0, 0⟩] (code_lit W1 [⟨1, 0, 0⟩, ⟨4, 0, 0⟩, ⟨39, 0, 0⟩] #[.int .i64 1, .int .i64 0, .int .i64 0, .int .i64 4, .int .i64 0, .int .i64 0, .int .i64 39, .int .i64 0, .int .i64 0] 24 rfl)
  go_wp2_with fail
  refine h21.mono ?_
  rintro e w22 ⟨⟨gm2, rfl, hm2⟩, t22⟩
  have u2 : Tch [] W1 w22 := ((Tch.refl [] W1).alloc _).then t22
  have h22 : Calls Tryd.prog 7 #[.agg #[.string ⟨#[97]⟩, .slice none 0 0, .slice none 0 0, .slice (some ⟨gm2, 0, none⟩) 1 1, .slice none 0 0]] w22 fun e w' => e = .returned (.tuple #[.agg #[.int .i64 0, .int .i64 0], .int .i64 0]) ∧ Tch [] w22 w' := l7_ver w22 gm2 [⟨1, 0, 0⟩, ⟨4, 0, 0⟩, ⟨39, 0, 0⟩] hm2 (HV.out w22 (TT1.then u2)) (by decide) (by decide) 9 0 0 0 ver_k7
  clear h21
  go_wp2_with fail
  refine h22.mono ?_
  rintro e w23 ⟨rfl, t23⟩
  clear h22
  go_upto_region 3 with fail
  obtain ⟨W2, hW2⟩ : ∃ W, W = w23.alloc (.cells #[.int .i64 0, .int .i64 0] 34) := ⟨_, rfl⟩
  have tW2 : Tch [] w23 W2 := by rw [hW2]; exact (Tch.refl [] w23).alloc _
  have hB2 : W2.heap[w23.heap.size]? = some (.cells #[.int .i64 0, .int .i64 0] 34 (0, 0)) := by rw [hW2]; exact heap_alloc_new w23 _
  obtain ⟨g2, hg2⟩ : ∃ g, g = w23.heap.size := ⟨_, rfl⟩
  rw [← hW2, ← hg2]
  rw [← hg2] at hB2
  clear hW2 hg2
  have TT2 : Tch [] w W2 := (TT1.then u2).then (t23.then tW2)
  have hB1' := (((Tch.refl [] W1).then u2).then (t23.then tW2)).block g1 (heap_lt hB1) (by simp) |>.trans hB1
  have hC1 := cells_of_heapW hB1'
  have hC2 := cells_of_heapW hB2
  clear hB1 hB1' hB2
  go_wp2_with (first | (refine wpList_load_agg_v (by rfl) 34 (.tmp 1) rfl ⟨g1, 0, none⟩ rfl #[.int .i64 0, .int .i64 3] _ hC1 Tryd.underlying34 rfl (by kernel_rfl) ?_) | (refine wpList_load_agg_v (by rfl) 34 (.tmp 3) rfl ⟨g2, 0, none⟩ rfl #[.int .i64 0, .int .i64 0] _ hC2 Tryd.underlying34 rfl (by kernel_rfl) ?_) | fail)
  go_ret
  exact ⟨rfl, TT2⟩
end Go.Proofs.YtpabkjjonbhdeaaDoor
