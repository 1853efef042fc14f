/-
  CONTRACTS: verify: method. Conditions: short lists.
-/
import Derived.Test.YtpabkjjonbhdeaaDoorHVe11
import Derived.Test.YtpabkjjonbhdeaaDoorHVe12
import Derived.Test.YtpabkjjonbhdeaaDoorHMks
namespace Go.Proofs.YtpabkjjonbhdeaaDoor
open Go.RowKit Go.Tcn
set_option linter.unusedVariables false
set_option linter.unusedSimpArgs false
theorem info_sintC : (Tryd.prog.info? 22).map (fun i => (i.zero, i.size, i.bytes)) = some (some (.slice none 0 0), 1, 24) := by kernel_rfl
theorem info_boolC : (Tryd.prog.info? 4).map (fun i => (i.zero, i.size, i.bytes)) = some (some (.bool false), 1, 1) := by kernel_rfl
theorem make_ss (n : Nat) (hn : n ≤ 100000) (w : World) : (Instr.makeSlice 41 (.int .i64 (n : Int)) (.int .i64 (n : Int))).run Tryd.prog w = .ok (.slice (some ⟨w.heap.size, 0, none⟩) n n) (w.alloc (.cells (madeCells #[.slice none 0 0] n) 22)) := by
  obtain ⟨i0, hi, hz0, hz1, hz2⟩ := info_parts info_sintC
  have h := run_make (P := Tryd.prog) w 41 22 i0 (.slice none 0 0) Tryd.underlying41 hi hz0 .i64 .i64 n n (by omega) (Int.le_refl _) (by rw [hz2]; omega) (by omega)
  have e1 : ((n : Int).toNat) = n := by omega
  rw [e1, hz1, Nat.mul_one] at h
  exact h
theorem make_bs (n : Nat) (hn : n ≤ 100000) (w : World) : (Instr.makeSlice 52 (.int .i64 (n : Int)) (.int .i64 (n : Int))).run Tryd.prog w = .ok (.slice (some ⟨w.heap.size, 0, none⟩) n n) (w.alloc (.cells (madeCells #[.bool false] n) 4)) := by
  obtain ⟨i0, hi, hz0, hz1, hz2⟩ := info_parts info_boolC
  have h := run_make (P := Tryd.prog) w 52 4 i0 (.bool false) Tryd.underlying52 hi hz0 .i64 .i64 n n (by omega) (Int.le_refl _) (by rw [hz2]; omega) (by omega)
  have e1 : ((n : Int).toNat) = n := by omega
  rw [e1, hz1, Nat.mul_one] at h
  exact h
theorem build_2 (a0 a1 : Option Addr) (n0 n1 c0 c1 : Nat) (w : World) : (Instr.buildSlice 41 2 #[(0, .slice a0 n0 c0), (1, .slice a1 n1 c1)]).run Tryd.prog w = .ok (.slice (some ⟨w.heap.size, 0, none⟩) 2 2) (w.alloc (.cells #[.slice a0 n0 c0, .slice a1 n1 c1] 22)) := by
  obtain ⟨i0, hi, hz0, hz1, hz2⟩ := info_parts info_sintC
  refine run_buildSlice w 41 22 2 _ #[.slice a0 n0 c0, .slice a1 n1 c1] i0 (.slice none 0 0) Tryd.underlying41 hi hz0 (by rw [hz1]; omega) (by rw [hz1]; omega) ?_
  simp only [hz1]
  have hr2 : Array.range 2 = #[0, 1] := rfl
  simp [Instr.fill, Value.cells, hr2]
theorem made_one (z : Value) (n : Nat) : madeCells #[z] n = (List.replicate n z).toArray := by rw [← toList_madeCells_one]
/-- What the makers of a walk's object give. -/
def MkP (n : Nat) (vp vl : Value) (L : List Int) (i : Nat) (v : Value) (w : World) : Prop :=
  match i with
  | 6 => ∃ b, v = .slice (some ⟨b, 0, none⟩) 2 2 ∧ w.heap[b]? = some (.cells #[vp, vl] 22 (0, 0))
  | 7 => ∃ ao c, v = .slice ao L.length c ∧ w.ownsRow 0 3 1 v L.length (ints L)
  | 9 => ∃ b, v = .slice (some ⟨b, 0, none⟩) n n ∧ w.heap[b]? = some (.cells (madeCells #[.slice none 0 0] n) 22 (0, 0))
  | 11 => ∃ b, v = .slice (some ⟨b, 0, none⟩) n n ∧ w.heap[b]? = some (.cells (madeCells #[.bool false] n) 4 (0, 0))
  | 13 => ∃ b, v = .slice (some ⟨b, 0, none⟩) n n ∧ w.heap[b]? = some (.cells (madeCells #[.bool false] n) 4 (0, 0))
  | _ => True
theorem MkP.tch {n : Nat} {vp vl : Value} {L : List Int} (i : Nat) (v : Value) (x y : World) (h : MkP n vp vl L i v x) (t : Tch [] x y) : MkP n vp vl L i v y := by
  unfold MkP at *
  split at h
  · obtain ⟨b, h1, h2⟩ := h; exact ⟨b, h1, (t.block _ (heap_lt h2) (by simp)).trans h2⟩
  · obtain ⟨ao, c, h1, h2⟩ := h; exact ⟨ao, c, h1, ownsRow_tch h2 t (by simp)⟩
  · obtain ⟨b, h1, h2⟩ := h; exact ⟨b, h1, (t.block _ (heap_lt h2) (by simp)).trans h2⟩
  · obtain ⟨b, h1, h2⟩ := h; exact ⟨b, h1, (t.block _ (heap_lt h2) (by simp)).trans h2⟩
  · obtain ⟨b, h1, h2⟩ := h; exact ⟨b, h1, (t.block _ (heap_lt h2) (by simp)).trans h2⟩
  · trivial
set_option maxRecDepth 100000 in
set_option maxHeartbeats 16000000 in
theorem ve_method (w : World) (i : Img) (vf vi vm ve : Value) (hf : RInts w [] vf i.fields) (hi : RImps w [] vi i.imports) (hm : RMths w [] vm i.methods) (he : RInts w [] ve i.exports) (k : Nat) (hk : k < i.methods.length) (m : Mth) (hmk : i.methods[k] = m) (hpl : m.params.length ≤ 10000) (hll : m.locals.length ≤ 10000) (hcl : m.code.length ≤ 10000) :
    Calls Tryd.prog 14 #[.agg #[.string ⟨i.name.toArray⟩, vf, vi, vm, ve], .int .i64 (k : Int)] w fun e w' => ∃ p V, e = .returned (.pointer (some ⟨p, 0, none⟩)) ∧ WkR w' 54 p V.ms i m V ∧ p ∉ V.ms ∧ StR w' V m.code.length (zeroF m.code.length) ∧ (∀ b ∈ V.ms, w.heap.size ≤ b) ∧ w.heap.size ≤ p ∧ Tch [] w w' := by
  obtain ⟨af, cf, rfl⟩ := Src.form hf
  obtain ⟨ai, ci, rfl⟩ := RImps.form hi
  obtain ⟨am, cm, rfl⟩ := RMths.form hm
  obtain ⟨ae, ce, rfl⟩ := Src.form he
  obtain ⟨ad, vp, vl, vc, rfl, hadl, hp, hl, hc, hcc⟩ := RMths.at hm hk
  obtain ⟨ap, cp, rfl⟩ := Src.form hp
  obtain ⟨al, cl, rfl⟩ := Src.form hl
  obtain ⟨ac, cc, rfl⟩ := RCode.form hc
  rw [hmk] at hp hl hc hcc
  subst hmk
  obtain ⟨V1, hV1⟩ : ∃ W, W = w.alloc (.cells #[.string ⟨i.name.toArray⟩, .slice af i.fields.length cf, .slice ai i.imports.length ci, .slice (some ad) i.methods.length cm, .slice ae i.exports.length ce] 32) := ⟨_, rfl⟩
  have tV : Tch [] w V1 := by rw [hV1]; exact (Tch.refl [] w).alloc _
  have hB : V1.heap[w.heap.size]? = some (.cells #[.string ⟨i.name.toArray⟩, .slice af i.fields.length cf, .slice ai i.imports.length ci, .slice (some ad) i.methods.length cm, .slice ae i.exports.length ce] 32 (0, 0)) := by rw [hV1]; exact heap_alloc_new w _
  obtain ⟨g, hg⟩ : ∃ g, g = w.heap.size := ⟨_, rfl⟩
  rw [← hg] at hB
  have hx3 : V1.cell? ⟨g, 3, none⟩ = some (.slice (some ad) i.methods.length cm) := by simp [World.cell?, hB]
  have hcc1 : ∀ (j : Nat) u, (#[.slice ap (i.methods[k]).params.length cp, .int .i64 (i.methods[k]).result, .slice al (i.methods[k]).locals.length cl, .slice ac (i.methods[k]).code.length cc] : Array Value).toList[j]? = some u → V1.cell? ((ad.add (k * 4)).add j) = some u := fun j u hj => (tV.cell (cell_lt (hcc j u hj)) (by simp)).trans (hcc j u hj)
  clear hcc
  generalize hmm : i.methods[k] = m at *
  have HMM := Lib.hid hmm
  clear hmm
  go_enter Tryd.func14, Tryd.ntmps14
  go_upto_region 1 with fail
  rw [← hV1, ← hg]
  clear hV1 hg
  go_upto_region 2 with (first | (refine wpList_load_agg rfl 28 (.tmp 10) rfl (ad.add (k * 4)) rfl #[.slice ap m.params.length cp, .int .i64 m.result, .slice al m.locals.length cl, .slice ac m.code.length cc] _ hcc1 Tryd.underlying28 rfl (by kernel_rfl) ?_) | fail)
  obtain ⟨V2, hV2⟩ : ∃ W, W = V1.alloc (.cells #[.slice ap m.params.length cp, .int .i64 m.result, .slice al m.locals.length cl, .slice ac m.code.length cc] 28) := ⟨_, rfl⟩
  have tV2 : Tch [] V1 V2 := by rw [hV2]; exact (Tch.refl [] V1).alloc _
  have hB2 : V2.heap[V1.heap.size]? = some (.cells #[.slice ap m.params.length cp, .int .i64 m.result, .slice al m.locals.length cl, .slice ac m.code.length cc] 28 (0, 0)) := by rw [hV2]; exact heap_alloc_new V1 _
  obtain ⟨g2, hg2⟩ : ∃ g, g = V1.heap.size := ⟨_, rfl⟩
  rw [← hV2, ← hg2]
  rw [← hg2] at hB2
  clear hV2 hg2 hcc1 hx3
  have y0 : V2.cell? ⟨g2, 0, none⟩ = some (.slice ap m.params.length cp) := by simp [World.cell?, hB2]
  have y1 : V2.cell? ⟨g2, 1, none⟩ = some (.int .i64 m.result) := by simp [World.cell?, hB2]
  have y2 : V2.cell? ⟨g2, 2, none⟩ = some (.slice al m.locals.length cl) := by simp [World.cell?, hB2]
  have y3 : V2.cell? ⟨g2, 3, none⟩ = some (.slice ac m.code.length cc) := by simp [World.cell?, hB2]
  go_upto_region 3 with fail
  have hBg := (tV2.block g (heap_lt hB) (by simp)).trans hB
  have xg0 : V2.cell? ⟨g, 0, none⟩ = some (.string ⟨i.name.toArray⟩) := by simp [World.cell?, hBg]
  have xg1 : V2.cell? ⟨g, 1, none⟩ = some (.slice af i.fields.length cf) := by simp [World.cell?, hBg]
  have xg2 : V2.cell? ⟨g, 2, none⟩ = some (.slice ai i.imports.length ci) := by simp [World.cell?, hBg]
  have xg3 : V2.cell? ⟨g, 3, none⟩ = some (.slice (some ad) i.methods.length cm) := by simp [World.cell?, hBg]
  have xg4 : V2.cell? ⟨g, 4, none⟩ = some (.slice ae i.exports.length ce) := by simp [World.cell?, hBg]
  have T2 := tV.then tV2
  obtain ⟨n, hn⟩ : ∃ n, m.code.length = n := ⟨_, rfl⟩
  rw [hn] at y3 hcl ⊢
  have hpD := hp.tch T2 (by simp)
  have hlD := hl.tch T2 (by simp)
  have hSst : ∀ x y : World, (x.cell? ⟨g, 0, none⟩ = some (.string ⟨i.name.toArray⟩) ∧ x.cell? ⟨g, 1, none⟩ = some (.slice af i.fields.length cf) ∧ x.cell? ⟨g, 2, none⟩ = some (.slice ai i.imports.length ci) ∧ x.cell? ⟨g, 3, none⟩ = some (.slice (some ad) i.methods.length cm) ∧ x.cell? ⟨g, 4, none⟩ = some (.slice ae i.exports.length ce) ∧ x.cell? ⟨g2, 0, none⟩ = some (.slice ap m.params.length cp) ∧ x.cell? ⟨g2, 1, none⟩ = some (.int .i64 m.result) ∧ x.cell? ⟨g2, 2, none⟩ = some (.slice al m.locals.length cl) ∧ x.cell? ⟨g2, 3, none⟩ = some (.slice ac n cc)) → Tch [] x y → (y.cell? ⟨g, 0, none⟩ = some (.string ⟨i.name.toArray⟩) ∧ y.cell? ⟨g, 1, none⟩ = some (.slice af i.fields.length cf) ∧ y.cell? ⟨g, 2, none⟩ = some (.slice ai i.imports.length ci) ∧ y.cell? ⟨g, 3, none⟩ = some (.slice (some ad) i.methods.length cm) ∧ y.cell? ⟨g, 4, none⟩ = some (.slice ae i.exports.length ce) ∧ y.cell? ⟨g2, 0, none⟩ = some (.slice ap m.params.length cp) ∧ y.cell? ⟨g2, 1, none⟩ = some (.int .i64 m.result) ∧ y.cell? ⟨g2, 2, none⟩ = some (.slice al m.locals.length cl) ∧ y.cell? ⟨g2, 3, none⟩ = some (.slice ac n cc)) := fun x y h t => ⟨(t.cell (cell_lt h.1) (by simp)).trans h.1, (t.cell (cell_lt h.2.1) (by simp)).trans h.2.1, (t.cell (cell_lt h.2.2.1) (by simp)).trans h.2.2.1, (t.cell (cell_lt h.2.2.2.1) (by simp)).trans h.2.2.2.1, (t.cell (cell_lt h.2.2.2.2.1) (by simp)).trans h.2.2.2.2.1, (t.cell (cell_lt h.2.2.2.2.2.1) (by simp)).trans h.2.2.2.2.2.1, (t.cell (cell_lt h.2.2.2.2.2.2.1) (by simp)).trans h.2.2.2.2.2.2.1, (t.cell (cell_lt h.2.2.2.2.2.2.2.1) (by simp)).trans h.2.2.2.2.2.2.2.1, (t.cell (cell_lt h.2.2.2.2.2.2.2.2) (by simp)).trans h.2.2.2.2.2.2.2.2⟩
  refine wp_region_held_drew (S := fun w' => w'.cell? ⟨g, 0, none⟩ = some (.string ⟨i.name.toArray⟩) ∧ w'.cell? ⟨g, 1, none⟩ = some (.slice af i.fields.length cf) ∧ w'.cell? ⟨g, 2, none⟩ = some (.slice ai i.imports.length ci) ∧ w'.cell? ⟨g, 3, none⟩ = some (.slice (some ad) i.methods.length cm) ∧ w'.cell? ⟨g, 4, none⟩ = some (.slice ae i.exports.length ce) ∧ w'.cell? ⟨g2, 0, none⟩ = some (.slice ap m.params.length cp) ∧ w'.cell? ⟨g2, 1, none⟩ = some (.int .i64 m.result) ∧ w'.cell? ⟨g2, 2, none⟩ = some (.slice al m.locals.length cl) ∧ w'.cell? ⟨g2, 3, none⟩ = some (.slice ac n cc)) (by kernel_rfl) ⟨xg0, xg1, xg2, xg3, xg4, y0, y1, y2, y3⟩ (fun hHeld => ?_)
  have rD : Tch [] V2 V2.drew := (Tch.refl [] V2).drew
  obtain ⟨z0, hz0⟩ : ∃ z, z = V2.drew := ⟨_, rfl⟩
  rw [← hz0] at rD hHeld ⊢
  clear hz0
  refine wpAnyH_take (i := 0) (v := ?_) rfl (by kernel_rfl) (by kernel_rfl) (by kernel_rfl) (fun _ _ _ h => h) (Or.inl ⟨by rfl, ?_⟩) (by assumption) ?_
  rotate_left
  · (intro w hSw; (try dsimp only at hSw); go_simp; try with_reducible rfl)
  try simp only [Act.put, List.getElem_toArray, List.getElem_cons_succ, List.getElem_cons_zero, List.setIfInBounds_toArray, List.set_cons_zero, List.set_cons_succ]
  refine wpAnyH_take (i := 1) (v := ?_) rfl (by kernel_rfl) (by kernel_rfl) (by kernel_rfl) (fun _ _ _ h => h) (Or.inl ⟨by rfl, ?_⟩) (by assumption) ?_
  rotate_left
  · (intro w hSw; (try dsimp only at hSw); go_simp; try with_reducible rfl)
  try simp only [Act.put, List.getElem_toArray, List.getElem_cons_succ, List.getElem_cons_zero, List.setIfInBounds_toArray, List.set_cons_zero, List.set_cons_succ]
  refine wpAnyH_take (i := 2) (v := ?_) rfl (by kernel_rfl) (by kernel_rfl) (by kernel_rfl) (fun _ _ _ h => h) (Or.inl ⟨by rfl, ?_⟩) (by assumption) ?_
  rotate_left
  · (intro w hSw; (try dsimp only at hSw); go_simp; try with_reducible rfl)
  try simp only [Act.put, List.getElem_toArray, List.getElem_cons_succ, List.getElem_cons_zero, List.setIfInBounds_toArray, List.set_cons_zero, List.set_cons_succ]
  refine wpAnyH_take (i := 3) (v := ?_) rfl (by kernel_rfl) (by kernel_rfl) (by kernel_rfl) (fun _ _ _ h => h) (Or.inl ⟨by rfl, ?_⟩) (by assumption) ?_
  rotate_left
  · (intro w hSw; (try dsimp only at hSw); go_simp; try with_reducible rfl)
  try simp only [Act.put, List.getElem_toArray, List.getElem_cons_succ, List.getElem_cons_zero, List.setIfInBounds_toArray, List.set_cons_zero, List.set_cons_succ]
  refine wpAnyH_take (i := 4) (v := ?_) rfl (by kernel_rfl) (by kernel_rfl) (by kernel_rfl) (fun _ _ _ h => h) (Or.inl ⟨by rfl, ?_⟩) (by assumption) ?_
  rotate_left
  · (intro w hSw; (try dsimp only at hSw); go_simp; try with_reducible rfl)
  try simp only [Act.put, List.getElem_toArray, List.getElem_cons_succ, List.getElem_cons_zero, List.setIfInBounds_toArray, List.set_cons_zero, List.set_cons_succ]
  refine wpAnyH_take (i := 5) (v := ?_) rfl (by kernel_rfl) (by kernel_rfl) (by kernel_rfl) (fun _ _ _ h => h) (Or.inl ⟨by rfl, ?_⟩) (by assumption) ?_
  rotate_left
  · (intro w hSw; (try dsimp only at hSw); go_simp; try with_reducible rfl)
  try simp only [Act.put, List.getElem_toArray, List.getElem_cons_succ, List.getElem_cons_zero, List.setIfInBounds_toArray, List.set_cons_zero, List.set_cons_succ]
  refine wpAnyH_take (i := 8) (v := ?_) rfl (by kernel_rfl) (by kernel_rfl) (by kernel_rfl) (fun _ _ _ h => h) (Or.inl ⟨by rfl, ?_⟩) (by assumption) ?_
  rotate_left
  · (intro w hSw; (try dsimp only at hSw); go_simp; try with_reducible rfl)
  try simp only [Act.put, List.getElem_toArray, List.getElem_cons_succ, List.getElem_cons_zero, List.setIfInBounds_toArray, List.set_cons_zero, List.set_cons_succ]
  refine wpAnyH_take (i := 10) (v := ?_) rfl (by kernel_rfl) (by kernel_rfl) (by kernel_rfl) (fun _ _ _ h => h) (Or.inl ⟨by rfl, ?_⟩) (by assumption) ?_
  rotate_left
  · (intro w hSw; (try dsimp only at hSw); go_simp; try with_reducible rfl)
  try simp only [Act.put, List.getElem_toArray, List.getElem_cons_succ, List.getElem_cons_zero, List.setIfInBounds_toArray, List.set_cons_zero, List.set_cons_succ]
  refine wpAnyH_take (i := 12) (v := ?_) rfl (by kernel_rfl) (by kernel_rfl) (by kernel_rfl) (fun _ _ _ h => h) (Or.inl ⟨by rfl, ?_⟩) (by assumption) ?_
  rotate_left
  · (intro w hSw; (try dsimp only at hSw); go_simp; try with_reducible rfl)
  try simp only [Act.put, List.getElem_toArray, List.getElem_cons_succ, List.getElem_cons_zero, List.setIfInBounds_toArray, List.set_cons_zero, List.set_cons_succ]
  refine wpAnyH_makersD (fuel := 3) [(6, 21), (7, 22), (9, 24), (11, 26), (13, 28)] (by kernel_rfl) (by kernel_rfl) (by decide) (MkP n (.slice ap m.params.length cp) (.slice al m.locals.length cl) (m.params ++ m.locals)) (fun _ v => v.ownBlock) MkP.tch hSst hHeld (fun q hq o ho a' w' t hsame hdep K hK => ?_) (fun vs w' hM hSx => ?_)
  · simp only [List.mem_cons, List.mem_nil_iff, or_false] at hq
    rcases hq with rfl | rfl | rfl | rfl | rfl
    · obtain rfl : _ = o := Option.some.inj ho
      have e18 := (hsame 18 (by decide)).trans (show _ = Value.slice ap m.params.length cp from rfl)
      have e20 := (hsame 20 (by decide)).trans (show _ = Value.slice al m.locals.length cl from rfl)
      refine wp_buildSlice_run 41 2 _ rfl #[(0, .slice ap m.params.length cp), (1, .slice al m.locals.length cl)] ?_ _ _ (build_2 ap al m.params.length m.locals.length cp cl w') (hK _ _ ((Tch.refl [] w').alloc _) ⟨w'.heap.size, rfl, heap_alloc_new w' _⟩ (fun k hk => ?_))
      · simp only [List.map_toArray, List.map_cons, List.map_nil, Act.eval]
        rw [e18, e20]
      · simp [Value.ownBlock] at hk; simp; omega
    · obtain rfl : _ = o := Option.some.inj ho
      obtain ⟨b, e21, hb⟩ := hdep (6, 21) (by simp) (by decide)
      refine wp_call_ret 25 #[.tmp 21] _ rfl #[.slice (some ⟨b, 0, none⟩) 2 2] ?_ (fun _ => by kernel_rfl) (sl_Concat w' b 22 ap al cp cl m.params m.locals hb (hpD.tch (rD.then t) (by simp)) (hlD.tch (rD.then t) (by simp)) hpl hll) (fun e w'' h => ?_)
      · simp only [List.map_toArray, List.map_cons, List.map_nil, Act.eval]
        rw [e21]
      · obtain ⟨ao, cap, h1, h2, h3, h4⟩ := h
        exact ⟨_, h1, hK _ _ h4 ⟨ao, cap, rfl, h2⟩ (fun k hk => ⟨h3 k hk, (World.ownsRow.lt h2 k hk).2⟩)⟩
    · obtain rfl : _ = o := Option.some.inj ho
      have e23 := (hsame 23 (by decide)).trans (show _ = Value.int .i64 (n : Int) from rfl)
      exact wp_make_run 41 (.tmp 23) (.tmp 23) rfl _ _ e23 e23 _ _ (make_ss n (by omega) w') (hK _ _ ((Tch.refl [] w').alloc _) ⟨w'.heap.size, rfl, heap_alloc_new w' _⟩ (fun k hk => by simp [Value.ownBlock] at hk; simp; omega))
    · obtain rfl : _ = o := Option.some.inj ho
      have e25 := (hsame 25 (by decide)).trans (show _ = Value.int .i64 (n : Int) from rfl)
      exact wp_make_run 52 (.tmp 25) (.tmp 25) rfl _ _ e25 e25 _ _ (make_bs n (by omega) w') (hK _ _ ((Tch.refl [] w').alloc _) ⟨w'.heap.size, rfl, heap_alloc_new w' _⟩ (fun k hk => by simp [Value.ownBlock] at hk; simp; omega))
    · obtain rfl : _ = o := Option.some.inj ho
      have e27 := (hsame 27 (by decide)).trans (show _ = Value.int .i64 (n : Int) from rfl)
      exact wp_make_run 52 (.tmp 27) (.tmp 27) rfl _ _ e27 e27 _ _ (make_bs n (by omega) w') (hK _ _ ((Tch.refl [] w').alloc _) ⟨w'.heap.size, rfl, heap_alloc_new w' _⟩ (fun k hk => by simp [Value.ownBlock] at hk; simp; omega))
  · have tM := hM.t
    obtain ⟨b6, e6, h6⟩ := hM.f 6 (by simp)
    obtain ⟨ao7, c7, e7, h7⟩ := hM.f 7 (by simp)
    obtain ⟨b9, e9, h9⟩ := hM.f 9 (by simp)
    obtain ⟨b11, e11, h11⟩ := hM.f 11 (by simp)
    obtain ⟨b13, e13, h13⟩ := hM.f 13 (by simp)
    have g9 := hM.b 9 (by simp) b9 (by rw [e9]; rfl)
    have g11 := hM.b 11 (by simp) b11 (by rw [e11]; rfl)
    have g13 := hM.b 13 (by simp) b13 (by rw [e13]; rfl)
    have d1 : b9 ≠ b11 := fun e => hM.d 9 (by simp) 11 (by simp) (by decide) b9 (by rw [e9]; rfl) (by rw [e11, e]; rfl)
    have d2 : b9 ≠ b13 := fun e => hM.d 9 (by simp) 13 (by simp) (by decide) b9 (by rw [e9]; rfl) (by rw [e13, e]; rfl)
    have d3 : b11 ≠ b13 := fun e => hM.d 11 (by simp) 13 (by simp) (by decide) b11 (by rw [e11]; rfl) (by rw [e13, e]; rfl)
    have o7 : ∀ x, (Value.slice ao7 (m.params ++ m.locals).length c7).ownBlock = some x → x ≠ b9 ∧ x ≠ b11 ∧ x ≠ b13 := fun x hx =>
      ⟨fun e => hM.d 7 (by simp) 9 (by simp) (by decide) x (by rw [e7]; exact hx) (by rw [e9, e]; rfl), fun e => hM.d 7 (by simp) 11 (by simp) (by decide) x (by rw [e7]; exact hx) (by rw [e11, e]; rfl), fun e => hM.d 7 (by simp) 13 (by simp) (by decide) x (by rw [e7]; exact hx) (by rw [e13, e]; rfl)⟩
    rw [e7] at h7
    generalize hnL : (m.params ++ m.locals).length = nL at *
    have HNL := Lib.hid hnL
    clear hnL
    simp only [putD, List.foldl_cons, List.foldl_nil, e6, e7, e9, e11, e13]
    clear e6 e7 e9 e11 e13 hM h6
    try simp only [Act.put, List.getElem_toArray, List.getElem_cons_succ, List.getElem_cons_zero, List.setIfInBounds_toArray, List.set_cons_zero, List.set_cons_succ]
    refine wpAnyH_take (i := 14) (v := ?_) rfl (by kernel_rfl) (by kernel_rfl) (by kernel_rfl) (fun _ _ _ h => h) (Or.inl ⟨by rfl, ?_⟩) (by assumption) ?_
    rotate_left
    · (intro w hSw; (try dsimp only at hSw); go_simp; try with_reducible rfl)
    try simp only [Act.put, List.getElem_toArray, List.getElem_cons_succ, List.getElem_cons_zero, List.setIfInBounds_toArray, List.set_cons_zero, List.set_cons_succ]
    refine wpAnyH_ready (rs := [15]) (by kernel_rfl) (by simp) ?_
    refine AllReadyH.cons rfl (fun K hK => ?_) AllReadyH.nil
    go_simp
    obtain ⟨y, hy⟩ : ∃ y, y = w'.alloc (.cells #[.string ⟨i.name.toArray⟩, .slice af i.fields.length cf, .slice ai i.imports.length ci, .slice (some ad) i.methods.length cm, .slice ae i.exports.length ce, .slice ap m.params.length cp, .int .i64 m.result, .slice al m.locals.length cl, .slice ac n cc, .slice ao7 nL c7, .slice (some ⟨b9, 0, none⟩) n n, .slice (some ⟨b11, 0, none⟩) n n, .slice (some ⟨b13, 0, none⟩) n n] 54) := ⟨_, rfl⟩
    have hY : y.heap[w'.heap.size]? = some (.cells #[.string ⟨i.name.toArray⟩, .slice af i.fields.length cf, .slice ai i.imports.length ci, .slice (some ad) i.methods.length cm, .slice ae i.exports.length ce, .slice ap m.params.length cp, .int .i64 m.result, .slice al m.locals.length cl, .slice ac n cc, .slice ao7 nL c7, .slice (some ⟨b9, 0, none⟩) n n, .slice (some ⟨b11, 0, none⟩) n n, .slice (some ⟨b13, 0, none⟩) n n] 54 (0, 0)) := by rw [hy]; exact heap_alloc_new w' _
    have tY : Tch [] w' y := by rw [hy]; exact (Tch.refl [] w').alloc _
    have sY := hSst w' y hSx tY
    rw [← hy]
    clear hy
    refine hK.out _ _ (sY) (fun hHeld => ?_)
    clear hK K
    try simp only [Act.put, List.setIfInBounds_toArray, List.set_cons_zero, List.set_cons_succ]
    refine wpAnyH_take (i := 16) (v := ?_) rfl (by kernel_rfl) (by kernel_rfl) (by kernel_rfl) (fun _ _ _ h => h) (Or.inl ⟨by rfl, ?_⟩) (by assumption) ?_
    rotate_left
    · (intro w hSw; (try dsimp only at hSw); go_simp; try with_reducible rfl)
    try simp only [Act.put, List.getElem_toArray, List.getElem_cons_succ, List.getElem_cons_zero, List.setIfInBounds_toArray, List.set_cons_zero, List.set_cons_succ]
    refine wpAnyH_done (by kernel_rfl) ?_ _
    go_wp2_with fail
    go_ret
    have tZ : Tch [] w y := (T2.then rD).then (tM.then tY)
    have zs := (T2.then rD).size
    have zm := tM.size
    have hms : ∀ b ∈ [b9, b11, b13], w.heap.size ≤ b := fun b hb => by simp at hb; rcases hb with rfl | rfl | rfl <;> omega
    have hmo : ∀ b ∈ [b9, b11, b13], b < w.heap.size → b ∈ ([] : List Nat) := fun b hb hlt => by have := hms b hb; omega
    have hpm : w'.heap.size ∉ [b9, b11, b13] := fun hx => by simp at hx; omega
    have k7 := ownsRow_tch h7 tY (by simp)
    have k9 := (tY.block _ (heap_lt h9) (by simp)).trans h9
    have k11 := (tY.block _ (heap_lt h11) (by simp)).trans h11
    have k13 := (tY.block _ (heap_lt h13) (by simp)).trans h13
    subst hn
    have hnL := HNL.out
    subst hnL
    refine ⟨w'.heap.size, ⟨af, cf, ai, ci, some ad, cm, ae, ce, ap, cp, al, cl, ac, cc, ao7, c7, b9, b11, b13⟩, rfl, ⟨hY, (Src.mono hf hmo).tch tZ (by simp), (RImps.mono hi hmo).tch tZ (by simp), (RMths.mono hm hmo).tch tZ (by simp), (Src.mono hc hmo).tch tZ (by simp), src_of_owns k7 _ (fun x hx hb => by have := o7 x hx; simp [WV.ms] at hb; omega)⟩, hpm, ⟨d1, d2, d3, by simp [zeroF], by simp [zeroF], by simp [zeroF], ⟨List.replicate m.code.length (.slice none 0 0), by simp, ?_, fun j hj => ?_⟩, ?_, ?_⟩, hms, by omega, tZ⟩
    · rw [k9, made_one]
    · have ej : (zeroF m.code.length).sts.getD j [] = [] := by simp [zeroF, List.getD, List.getElem?_replicate, hj]
      rw [ej]
      exact ⟨none, 0, by simp [List.getElem?_replicate, hj], ⟨.inl ⟨rfl, rfl, rfl⟩⟩, by simp⟩
    · rw [k11, made_one]; simp [zeroF]
    · rw [k13, made_one]; simp [zeroF]
end Go.Proofs.YtpabkjjonbhdeaaDoor
