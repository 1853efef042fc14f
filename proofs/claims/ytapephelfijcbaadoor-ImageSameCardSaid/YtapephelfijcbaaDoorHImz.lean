/-
  STATEMENT: ImageSame: which images are the same is as the document says: the walk. Conditions: utf8's tables and the bins as they are laid; the raw statements fit in memory.
-/
import Derived.Test.YtapephelfijcbaaDoorHImb
import Derived.Test.YtapephelfijcbaaDoorHRfs
namespace Go.Tcn
open Go.RowKit
set_option linter.unusedVariables false
set_option linter.unusedSimpArgs false
/-- What reads as cells with a number among them lies in no block that holds no number. -/
theorem Src.avoid {w : World} {v : Value} {m : Nat} {news : List Value} {g : Nat} {cs : Array Value} {T : TypeId} {fr : Nat × Nat} (h : Src w [] v m news) (hb : w.heap[g]? = some (.cells cs T fr)) (hcs : ∀ x, Value.int .i64 x ∉ cs) (hne : news = [] ∨ ∃ x, Value.int .i64 x ∈ news) : Src w [g] v m news := by
  rcases h.ex with h | ⟨ad, c, hv, hmc, hc⟩
  · exact ⟨.inl h⟩
  · refine ⟨.inr ⟨ad, c, hv, hmc, fun j u hj => ⟨fun hm => ?_, (hc j u hj).2⟩⟩⟩
    rw [List.mem_singleton] at hm
    rcases hne with rfl | ⟨x, hx⟩
    · simp at hj
    · obtain ⟨j2, hj2, hx2⟩ := List.getElem_of_mem hx
      have h2 := (hc j2 _ (List.getElem?_eq_getElem hj2)).2
      unfold World.cell? at h2
      rw [Addr_add_block, hm, hb] at h2
      simp only at h2
      split at h2
      · cases h2
      · rw [hx2] at h2
        exact hcs x (Array.mem_of_getElem? h2)
theorem RInts.avoid {w : World} {v : Value} {l : List Int} {g : Nat} {cs : Array Value} {T : TypeId} {fr : Nat × Nat} (h : RInts w [] v l) (hb : w.heap[g]? = some (.cells cs T fr)) (hcs : ∀ x, Value.int .i64 x ∉ cs) : RInts w [g] v l := by
  refine Src.avoid h hb hcs ?_
  cases l with
  | nil => exact .inl rfl
  | cons x l => exact .inr ⟨x, by simp [ints]⟩
theorem RCode.avoid {w : World} {v : Value} {l : List Ins} {g : Nat} {cs : Array Value} {T : TypeId} {fr : Nat × Nat} (h : RCode w [] v l) (hb : w.heap[g]? = some (.cells cs T fr)) (hcs : ∀ x, Value.int .i64 x ∉ cs) : RCode w [g] v l := by
  refine Src.avoid h hb hcs ?_
  cases l with
  | nil => exact .inl (by simp [codeCells])
  | cons x l => exact .inr ⟨x.op, by simp [codeCells, Ins.cells]⟩
theorem RL.avoid {α : Type} {w : World} {sz : Nat} {R R' : List Value → α → Prop} {v : Value} {xs : List α} {g : Nat} {cs : Array Value} {T : TypeId} {fr : Nat × Nat} (h : RL w [] sz R v xs) (hb : w.heap[g]? = some (.cells cs T fr)) (hcs : ∀ x, Value.int .i64 x ∉ cs) (hR : ∀ c x, R c x → R' c x) (hi : ∀ c x, R c x → ∃ n, Value.int .i64 n ∈ c) : RL w [g] sz R' v xs := by
  obtain ⟨css, h1, h2, h3, h4⟩ := h.ex
  refine ⟨css, h1, h2, h3.avoid hb hcs ?_, fun k c x a b => hR _ _ (h4 k c x a b)⟩
  match css, xs, h1, h4 with
  | [], _, _, _ => exact .inl rfl
  | c :: css, [], h1, _ => simp at h1
  | c :: css, x :: xs, _, h4 =>
    obtain ⟨n, hn⟩ := hi c x (h4 0 c x rfl rfl)
    exact .inr ⟨n, by rw [List.flatten_cons]; exact List.mem_append_left _ hn⟩
theorem RImps.avoid {w : World} {v : Value} {l : List Imp} {g : Nat} {cs : Array Value} {T : TypeId} {fr : Nat × Nat} (h : RImps w [] v l) (hb : w.heap[g]? = some (.cells cs T fr)) (hcs : ∀ x, Value.int .i64 x ∉ cs) : RImps w [g] v l :=
  RL.avoid h hb hcs (fun c x ⟨vp, e, r⟩ => ⟨vp, e, r.avoid hb hcs⟩) (fun c x ⟨vp, e, r⟩ => ⟨x.exp, by rw [e]; simp⟩)
theorem RMths.avoid {w : World} {v : Value} {l : List Mth} {g : Nat} {cs : Array Value} {T : TypeId} {fr : Nat × Nat} (h : RMths w [] v l) (hb : w.heap[g]? = some (.cells cs T fr)) (hcs : ∀ x, Value.int .i64 x ∉ cs) : RMths w [g] v l :=
  RL.avoid h hb hcs (fun c x ⟨vp, vl, vc, e, r1, r2, r3⟩ => ⟨vp, vl, vc, e, r1.avoid hb hcs, r2.avoid hb hcs, r3.avoid hb hcs⟩) (fun c x ⟨vp, vl, vc, e, r1, r2, r3⟩ => ⟨x.result, by rw [e]; simp⟩)
end Go.Tcn
namespace Go.Proofs.YtapephelfijcbaaDoor
open Go.RowKit Go.Tcn
set_option linter.unusedVariables false
set_option linter.unusedSimpArgs false
/-- Applet, its image told. -/
theorem hand_AppletZ (w : World) (hG : Bins w 2) (k : Int) (hk : I6 k) (xv : Value) (l : List Rw) (hl : Raws w xv l) (hll : l.length ≤ 5000000000000) (hcap : ∀ ao n c, xv = .slice ao n c → n ≤ c) :
    Calls Tryd.prog 17 #[.int .i64 k, xv] w fun e w' => ∃ (i : Img) (vf vi vm ve : Value), e = .returned (.agg #[.string ⟨i.name.toArray⟩, vf, vi, vm, ve]) ∧ RInts w' [] vf i.fields ∧ RImps w' [] vi i.imports ∧ RMths w' [] vm i.methods ∧ RInts w' [] ve i.exports ∧ ImgZ i ∧ Tch [] w w' := by
  refine (hand_Applet w hG k hk xv l hl hll hcap [] (by simp)).mono ?_
  rintro e w1 ⟨cs, c0, c1, c2, rfl, ⟨vf, vi, vm, ve, hcs, r1, r2, r3, r4⟩, k0, k1, k2, t1⟩
  have hz := app_z k l.length c0 c1 c2 k0 k1 k2
  generalize appI k l.length c0 c1 c2 = i at *
  obtain rfl : cs = #[.string ⟨i.name.toArray⟩, vf, vi, vm, ve] := by
    apply Array.toList_inj.1
    rw [hcs]
    rfl
  exact ⟨i, vf, vi, vm, ve, rfl, r1, r2, r3, r4, hz, t1⟩
set_option maxRecDepth 100000 in
set_option maxHeartbeats 16000000 in
theorem law4_ImageSame (w : World) (hG : Bins w 2) (k m : Int) (hk : I6 k) (hm : I6 m) (xv : Value) (l : List Rw) (hl : Raws w xv l) (hll : l.length ≤ 5000000000000) (hcap : ∀ ao n c, xv = .slice ao n c → n ≤ c) (yv : Value) (o : List Rw) (ho : Raws w yv o) (hol : o.length ≤ 5000000000000) (hcao : ∀ ao n c, yv = .slice ao n c → n ≤ c) (how at0 by0 : Int) (hhow : I6 how) (hat : I6 at0) (hby : I6 by0) (near : Bool) (hV : ∀ nm w', nm.length ≤ 16 → Tch [] w w' → Calls Tryd.prog 40 #[.string ⟨nm.toArray⟩] w' fun e w'' => e = .returned (.bool (Lib.validD nm)) ∧ Tch [] w' w'') :
    Calls Tryd.prog 7 #[.int .i64 k, .int .i64 m, xv, yv, .int .i64 how, .int .i64 at0, .int .i64 by0, .bool near] w fun e w' => e = .returned (.bool true) ∧ Tch [] w w' := by
  have hA1 := hand_AppletZ w hG k hk xv l hl hll hcap
  have hA2 := fun (W : World) (t : Tch [] w W) => hand_AppletZ W (hG.tch t) m hm yv o (ho.tch t) hol hcao
  obtain ⟨p, hp, hp0⟩ : ∃ p : Int, at0 % 1000 = p ∧ 0 ≤ p ∧ p ≤ 999 := ⟨_, rfl, by omega, by omega⟩
  obtain ⟨q, hq, hq0⟩ : ∃ p : Int, by0 % 1000 = p ∧ 0 ≤ p ∧ p ≤ 999 := ⟨_, rfl, by omega, by omega⟩
  have hP1 : ∀ W, Calls Tryd.prog 15 #[.int .i64 at0, .int .i64 1000] W fun e w' => e = .returned (.int .i64 p) ∧ W = w' := fun W => by rw [← hp]; exact hand_Pick at0 1000 hat (by omega) (by omega) W
  have hP2 : ∀ W, Calls Tryd.prog 15 #[.int .i64 by0, .int .i64 1000] W fun e w' => e = .returned (.int .i64 q) ∧ W = w' := fun W => by rw [← hq]; exact hand_Pick by0 1000 hby (by omega) (by omega) W
  clear hp hq
  have hBn := fun (W : World) (t : Tch [] w W) => law4_bent W (hG.tch t) k hk xv l (hl.tch t) hll hcap how p q hhow hp0 hq0
  have hKn : ∀ W, Tch [] w W → Calls Tryd.prog 11 #[] W fun e w' => e = .returned (.bool true) ∧ Tch [] W w' := fun W t => law4_known W (fun nm w' h16 t' => hV nm w' h16 (t.then t'))
  obtain ⟨aox, nx, capx, hxv⟩ : ∃ ao n c, xv = .slice ao n c := by
    obtain ⟨ao, c, h, _⟩ := hl.ex
    exact ⟨ao, _, c, h⟩
  subst hxv
  obtain ⟨aoy, ny, capy, hyv⟩ : ∃ ao n c, yv = .slice ao n c := by
    obtain ⟨ao, c, h, _⟩ := ho.ex
    exact ⟨ao, _, c, h⟩
  subst hyv
  clear hV hG hl hll hcap ho hol hcao
  go_enter Tryd.func7, Tryd.ntmps7
  go_wp2_with fail
  refine hA1.mono ?_
  rintro e w1 ⟨i, vf, vi, vm, ve, rfl, r1, r2, r3, r4, hz, t1⟩
  obtain ⟨af, cf, rfl⟩ := Src.form r1
  obtain ⟨ai, ci, rfl⟩ := RImps.form r2
  obtain ⟨am, cm, rfl⟩ := RMths.form r3
  obtain ⟨ae, ce, rfl⟩ := Src.form r4
  clear hA1
  obtain ⟨g, hg⟩ : ∃ g, g = w1.heap.size := ⟨_, rfl⟩
  obtain ⟨W, hW⟩ : ∃ W, W = w1.alloc (.cells #[.string ⟨i.name.toArray⟩, .slice af i.fields.length cf, .slice ai i.imports.length ci, .slice am i.methods.length cm, .slice ae i.exports.length ce] 26) := ⟨_, rfl⟩
  have tW : Tch [] w1 W := by rw [hW]; exact (Tch.refl [] w1).alloc _
  have hX : W.heap[g]? = some (.cells #[.string ⟨i.name.toArray⟩, .slice af i.fields.length cf, .slice ai i.imports.length ci, .slice am i.methods.length cm, .slice ae i.exports.length ce] 26 (0, 0)) := by rw [hW, hg]; exact heap_alloc_new w1 _
  replace r1 := r1.tch tW (by simp)
  replace r2 := r2.tch tW (by simp)
  replace r3 := r3.tch tW (by simp)
  replace r4 := r4.tch tW (by simp)
  have T1 := t1.then tW
  go_upto_region 2 with fail
  rw [← hW, ← hg]
  clear hW hg tW t1 w1
  go_wp2_with fail
  refine (hA2 W T1).mono ?_
  rintro e w2 ⟨j, wf, wi, wm, we, rfl, s1, s2, s3, s4, hzj, t2⟩
  obtain ⟨bf, df, rfl⟩ := Src.form s1
  obtain ⟨bi, di, rfl⟩ := RImps.form s2
  obtain ⟨bm, dm, rfl⟩ := RMths.form s3
  obtain ⟨be, de, rfl⟩ := Src.form s4
  clear hA2
  obtain ⟨g2, hg2⟩ : ∃ g, g = w2.heap.size := ⟨_, rfl⟩
  obtain ⟨W2, hW2⟩ : ∃ W, W = w2.alloc (.cells #[.string ⟨j.name.toArray⟩, .slice bf j.fields.length df, .slice bi j.imports.length di, .slice bm j.methods.length dm, .slice be j.exports.length de] 26) := ⟨_, rfl⟩
  have tW : Tch [] w2 W2 := by rw [hW2]; exact (Tch.refl [] w2).alloc _
  have hX2 : W2.heap[g2]? = some (.cells #[.string ⟨j.name.toArray⟩, .slice bf j.fields.length df, .slice bi j.imports.length di, .slice bm j.methods.length dm, .slice be j.exports.length de] 26 (0, 0)) := by rw [hW2, hg2]; exact heap_alloc_new w2 _
  have hgg : g < g2 := by rw [hg2]; have := heap_lt hX; have := t2.size; omega
  have hwg : w.heap.size ≤ g2 := by rw [hg2]; have := (T1.then t2).size; omega
  have hg2' := hg2
  have tt := t2.then tW
  have T2 := T1.then tt
  have hXi : W2.heap[g]? = some (.cells #[.string ⟨i.name.toArray⟩, .slice af i.fields.length cf, .slice ai i.imports.length ci, .slice am i.methods.length cm, .slice ae i.exports.length ce] 26 (0, 0)) := (tt.block g (heap_lt hX) (by simp)).trans hX
  go_upto_region 3 with fail
  rw [← hW2, ← hg2]
  clear hW2
  cases near
  · have u1 := r1.tch tt (by simp)
    have u2 := r2.tch tt (by simp)
    have u3 := r3.tch tt (by simp)
    have u4 := r4.tch tt (by simp)
    have v1 := s1.tch tW (by simp)
    have v2 := s2.tch tW (by simp)
    have v3 := s3.tch tW (by simp)
    have v4 := s4.tch tW (by simp)
    clear r1 r2 r3 r4 s1 s2 s3 s4 hg2 hg2'
    go_upto_region 5 with fail
    obtain ⟨d, hd⟩ : ∃ d, decide (i = j) = d := ⟨_, rfl⟩
    have hKq : ∀ x : TW [] W2, Calls Tryd.prog 11 #[] x.w fun e w' => e = .returned (.bool true) ∧ Tch [] x.w w' := fun x => hKn x.w (T2.then x.t)
    have hSq : ∀ x : TW [] W2, Calls Tryd.prog 16 #[.agg #[.string ⟨i.name.toArray⟩, .slice af i.fields.length cf, .slice ai i.imports.length ci, .slice am i.methods.length cm, .slice ae i.exports.length ce], .agg #[.string ⟨j.name.toArray⟩, .slice bf j.fields.length df, .slice bi j.imports.length di, .slice bm j.methods.length dm, .slice be j.exports.length de]] x.w fun e w' => e = .returned (.bool d) ∧ Tch [] x.w w' := fun x => by
      rw [← hd]; exact im_Same x.w i j _ _ _ _ _ _ _ _ (u1.tch x.t (by simp)) (u2.tch x.t (by simp)) (u3.tch x.t (by simp)) (u4.tch x.t (by simp)) (v1.tch x.t (by simp)) (v2.tch x.t (by simp)) (v3.tch x.t (by simp)) (v4.tch x.t (by simp)) hz hzj
    have hRq : ∀ x : TW [] W2, Calls Tryd.prog 20 #[.agg #[.string ⟨i.name.toArray⟩, .slice af i.fields.length cf, .slice ai i.imports.length ci, .slice am i.methods.length cm, .slice ae i.exports.length ce], .agg #[.string ⟨j.name.toArray⟩, .slice bf j.fields.length df, .slice bi j.imports.length di, .slice bm j.methods.length dm, .slice be j.exports.length de]] x.w fun e w' => e = .returned (.bool d) ∧ Tch [] x.w w' := fun x => by
      rw [← hd]; exact rf_Same x.w i j _ _ _ _ _ _ _ _ (u1.tch x.t (by simp)) (u2.tch x.t (by simp)) (u3.tch x.t (by simp)) (u4.tch x.t (by simp)) (v1.tch x.t (by simp)) (v2.tch x.t (by simp)) (v3.tch x.t (by simp)) (v4.tch x.t (by simp)) hz hzj
    have hSS : ∀ x : TW [] W2, Calls Tryd.prog 16 #[.agg #[.string ⟨i.name.toArray⟩, .slice af i.fields.length cf, .slice ai i.imports.length ci, .slice am i.methods.length cm, .slice ae i.exports.length ce], .agg #[.string ⟨i.name.toArray⟩, .slice af i.fields.length cf, .slice ai i.imports.length ci, .slice am i.methods.length cm, .slice ae i.exports.length ce]] x.w fun e w' => e = .returned (.bool true) ∧ Tch [] x.w w' := fun x => by
      have h := im_Same x.w i i _ _ _ _ _ _ _ _ (u1.tch x.t (by simp)) (u2.tch x.t (by simp)) (u3.tch x.t (by simp)) (u4.tch x.t (by simp)) (u1.tch x.t (by simp)) (u2.tch x.t (by simp)) (u3.tch x.t (by simp)) (u4.tch x.t (by simp)) hz hz
      rw [decide_eq_true rfl] at h
      exact h
    clear u1 u2 u3 u4 v1 v2 v3 v4 hd
    refine wp_region_tch (L := []) (w0 := W2) (by kernel_rfl) (by kernel_rfl) (Tch.refl [] W2) ?_
    repeat (go_big_quiet_step ((first | rfl | (go_at_call 11; exact tch_of (hKq _)))))
    go_big_quiet_want
    refine quiet_load_agg 26 (.tmp 17) rfl ⟨g, 0, none⟩ rfl #[.string ⟨i.name.toArray⟩, .slice af i.fields.length cf, .slice ai i.imports.length ci, .slice am i.methods.length cm, .slice ae i.exports.length ce] _ (by rintro _ ⟨x, rfl⟩; exact block_cells hXi x.t) Tryd.underlying26 rfl (by kernel_rfl) ?_
    go_simp
    go_big_quiet_on
    go_big_quiet_want
    refine quiet_load_agg 26 (.tmp 18) rfl ⟨g2, 0, none⟩ rfl #[.string ⟨j.name.toArray⟩, .slice bf j.fields.length df, .slice bi j.imports.length di, .slice bm j.methods.length dm, .slice be j.exports.length de] _ (by rintro _ ⟨x, rfl⟩; exact block_cells hX2 x.t) Tryd.underlying26 rfl (by kernel_rfl) ?_
    go_simp
    go_big_quiet_on
    go_big_quiet_step ((go_at_call 16; exact tch_of (hSq _)))
    go_big_quiet_want
    refine quiet_load_agg 26 (.tmp 17) rfl ⟨g, 0, none⟩ rfl #[.string ⟨i.name.toArray⟩, .slice af i.fields.length cf, .slice ai i.imports.length ci, .slice am i.methods.length cm, .slice ae i.exports.length ce] _ (by rintro _ ⟨x, rfl⟩; exact block_cells hXi x.t) Tryd.underlying26 rfl (by kernel_rfl) ?_
    go_simp
    go_big_quiet_on
    go_big_quiet_want
    refine quiet_load_agg 26 (.tmp 18) rfl ⟨g2, 0, none⟩ rfl #[.string ⟨j.name.toArray⟩, .slice bf j.fields.length df, .slice bi j.imports.length di, .slice bm j.methods.length dm, .slice be j.exports.length de] _ (by rintro _ ⟨x, rfl⟩; exact block_cells hX2 x.t) Tryd.underlying26 rfl (by kernel_rfl) ?_
    go_simp
    go_big_quiet_on
    go_big_quiet_step ((go_at_call 20; exact tch_of (hRq _)))
    cases d
    all_goals
      repeat (go_big_quiet_step (rfl))
      go_big_quiet_want
      refine quiet_load_agg 26 (.tmp 17) rfl ⟨g, 0, none⟩ rfl #[.string ⟨i.name.toArray⟩, .slice af i.fields.length cf, .slice ai i.imports.length ci, .slice am i.methods.length cm, .slice ae i.exports.length ce] _ (by rintro _ ⟨x, rfl⟩; exact block_cells hXi x.t) Tryd.underlying26 rfl (by kernel_rfl) ?_
      go_simp
      go_big_quiet_on
      go_big_quiet_want
      refine quiet_load_agg 26 (.tmp 17) rfl ⟨g, 0, none⟩ rfl #[.string ⟨i.name.toArray⟩, .slice af i.fields.length cf, .slice ai i.imports.length ci, .slice am i.methods.length cm, .slice ae i.exports.length ce] _ (by rintro _ ⟨x, rfl⟩; exact block_cells hXi x.t) Tryd.underlying26 rfl (by kernel_rfl) ?_
      go_simp
      go_big_quiet_on
      repeat (go_big_quiet_step ((first | rfl | (go_at_call 16; exact tch_of (hSS _)))))
      refine wpQuiet_nil ?_
      intro _ hw'
      obtain ⟨x, rfl⟩ := hw'
      go_wp2_with fail
      go_ret
      exact ⟨by simp, T2.then x.t⟩
  · have u1 := RInts.tch (RInts.mono (L' := [g2]) (RInts.tch r1 t2 (by simp)) (fun i hi hlt => by simp at hi; omega)) tW (by simp)
    have u2 := RImps.tch (RImps.mono (L' := [g2]) (RImps.tch r2 t2 (by simp)) (fun i hi hlt => by simp at hi; omega)) tW (by simp)
    have u3 := RMths.tch (RMths.mono (L' := [g2]) (RMths.tch r3 t2 (by simp)) (fun i hi hlt => by simp at hi; omega)) tW (by simp)
    have u4 := RInts.tch (RInts.mono (L' := [g2]) (RInts.tch r4 t2 (by simp)) (fun i hi hlt => by simp at hi; omega)) tW (by simp)
    clear r1 r2 r3 r4 s1 s2 s3 s4 hg2 hg2'
    go_wp2_with fail
    refine (hP1 W2).mono ?_
    rintro e w' ⟨rfl, rfl⟩
    go_wp2_with fail
    refine (hP2 W2).mono ?_
    rintro e w' ⟨rfl, rfl⟩
    go_wp2_with fail
    refine (hBn W2 T2).mono ?_
    rintro e w3 ⟨j3, wf, wi, wm, we, rfl, s1, s2, s3, s4, hzj3, t3⟩
    obtain ⟨xf, xd, rfl⟩ := Src.form s1
    obtain ⟨xi, xe, rfl⟩ := RImps.form s2
    obtain ⟨xm, xh, rfl⟩ := RMths.form s3
    obtain ⟨xk, xl, rfl⟩ := Src.form s4
    have hX3 : w3.heap[g2]? = some (.cells #[.string ⟨j.name.toArray⟩, .slice bf j.fields.length df, .slice bi j.imports.length di, .slice bm j.methods.length dm, .slice be j.exports.length de] 26 (0, 0)) := (t3.block g2 (heap_lt hX2) (by simp)).trans hX2
    have hnc : ∀ x, Value.int .i64 x ∉ #[.string ⟨j.name.toArray⟩, .slice bf j.fields.length df, .slice bi j.imports.length di, .slice bm j.methods.length dm, .slice be j.exports.length de] := by intro x; simp
    have a1 := s1.avoid hX3 hnc
    have a2 := s2.avoid hX3 hnc
    have a3 := s3.avoid hX3 hnc
    have a4 := s4.avoid hX3 hnc
    obtain ⟨V, hV⟩ : ∃ V, V = ((((w3.setCell ⟨g2, 0, none⟩ (.string ⟨j3.name.toArray⟩)).setCell ⟨g2, 1, none⟩ (.slice xf j3.fields.length xd)).setCell ⟨g2, 2, none⟩ (.slice xi j3.imports.length xe)).setCell ⟨g2, 3, none⟩ (.slice xm j3.methods.length xh)).setCell ⟨g2, 4, none⟩ (.slice xk j3.exports.length xl) := ⟨_, rfl⟩
    have tV : Tch [g2] w3 V := by rw [hV]; exact ((((((Tch.refl [g2] w3).setCell (.inl (by simp)) _).setCell (.inl (by simp)) _).setCell (.inl (by simp)) _).setCell (.inl (by simp)) _).setCell (.inl (by simp)) _)
    have hXV : V.heap[g2]? = some (.cells #[.string ⟨j3.name.toArray⟩, .slice xf j3.fields.length xd, .slice xi j3.imports.length xe, .slice xm j3.methods.length xh, .slice xk j3.exports.length xl] 26 (0, 0)) := by rw [hV]; exact box_setc (box_setc (box_setc (box_setc (box_setc hX3 0 _) 1 _) 2 _) 3 _) 4 _
    have sV : ∀ i ∈ [g2], i < w3.heap.size → i ∈ [g2] := fun i hi _ => hi
    obtain ⟨y0, y1, y2, y3, y4, h0, h1, h2, h3, h4⟩ := F5.of hX3
    go_upto_region 5 with fail
    rw [← hV]
    have hXiV : V.heap[g]? = some (.cells #[.string ⟨i.name.toArray⟩, .slice af i.fields.length cf, .slice ai i.imports.length ci, .slice am i.methods.length cm, .slice ae i.exports.length ce] 26 (0, 0)) := (tV.block g (heap_lt ((t3.block g (heap_lt hXi) (by simp)).trans hXi)) (by simp; omega)).trans ((t3.block g (heap_lt hXi) (by simp)).trans hXi)
    have TV : Tch [] w V := (T2.then t3).trans tV (M := []) (by simp) (fun i hi hx => by simp at hx; omega)
    replace u1 := RInts.thin (RInts.tch (RInts.tch u1 t3 (by simp)) tV sV)
    replace u2 := RImps.thin (RImps.tch (RImps.tch u2 t3 (by simp)) tV sV)
    replace u3 := RMths.thin (RMths.tch (RMths.tch u3 t3 (by simp)) tV sV)
    replace u4 := RInts.thin (RInts.tch (RInts.tch u4 t3 (by simp)) tV sV)
    have v1 := RInts.thin (RInts.tch a1 tV sV)
    have v2 := RImps.thin (RImps.tch a2 tV sV)
    have v3 := RMths.thin (RMths.tch a3 tV sV)
    have v4 := RInts.thin (RInts.tch a4 tV sV)
    clear hV y0 y1 y2 y3 y4 h0 h1 h2 h3 h4 s1 s2 s3 s4 a1 a2 a3 a4
    obtain ⟨d, hd⟩ : ∃ d, decide (i = j3) = d := ⟨_, rfl⟩
    have hKq : ∀ x : TW [] V, Calls Tryd.prog 11 #[] x.w fun e w' => e = .returned (.bool true) ∧ Tch [] x.w w' := fun x => hKn x.w (TV.then x.t)
    have hSq : ∀ x : TW [] V, Calls Tryd.prog 16 #[.agg #[.string ⟨i.name.toArray⟩, .slice af i.fields.length cf, .slice ai i.imports.length ci, .slice am i.methods.length cm, .slice ae i.exports.length ce], .agg #[.string ⟨j3.name.toArray⟩, .slice xf j3.fields.length xd, .slice xi j3.imports.length xe, .slice xm j3.methods.length xh, .slice xk j3.exports.length xl]] x.w fun e w' => e = .returned (.bool d) ∧ Tch [] x.w w' := fun x => by
      rw [← hd]; exact im_Same x.w i j3 _ _ _ _ _ _ _ _ (u1.tch x.t (by simp)) (u2.tch x.t (by simp)) (u3.tch x.t (by simp)) (u4.tch x.t (by simp)) (v1.tch x.t (by simp)) (v2.tch x.t (by simp)) (v3.tch x.t (by simp)) (v4.tch x.t (by simp)) hz hzj3
    have hRq : ∀ x : TW [] V, Calls Tryd.prog 20 #[.agg #[.string ⟨i.name.toArray⟩, .slice af i.fields.length cf, .slice ai i.imports.length ci, .slice am i.methods.length cm, .slice ae i.exports.length ce], .agg #[.string ⟨j3.name.toArray⟩, .slice xf j3.fields.length xd, .slice xi j3.imports.length xe, .slice xm j3.methods.length xh, .slice xk j3.exports.length xl]] x.w fun e w' => e = .returned (.bool d) ∧ Tch [] x.w w' := fun x => by
      rw [← hd]; exact rf_Same x.w i j3 _ _ _ _ _ _ _ _ (u1.tch x.t (by simp)) (u2.tch x.t (by simp)) (u3.tch x.t (by simp)) (u4.tch x.t (by simp)) (v1.tch x.t (by simp)) (v2.tch x.t (by simp)) (v3.tch x.t (by simp)) (v4.tch x.t (by simp)) hz hzj3
    have hSS : ∀ x : TW [] V, Calls Tryd.prog 16 #[.agg #[.string ⟨i.name.toArray⟩, .slice af i.fields.length cf, .slice ai i.imports.length ci, .slice am i.methods.length cm, .slice ae i.exports.length ce], .agg #[.string ⟨i.name.toArray⟩, .slice af i.fields.length cf, .slice ai i.imports.length ci, .slice am i.methods.length cm, .slice ae i.exports.length ce]] x.w fun e w' => e = .returned (.bool true) ∧ Tch [] x.w w' := fun x => by
      have h := im_Same x.w i i _ _ _ _ _ _ _ _ (u1.tch x.t (by simp)) (u2.tch x.t (by simp)) (u3.tch x.t (by simp)) (u4.tch x.t (by simp)) (u1.tch x.t (by simp)) (u2.tch x.t (by simp)) (u3.tch x.t (by simp)) (u4.tch x.t (by simp)) hz hz
      rw [decide_eq_true rfl] at h
      exact h
    clear u1 u2 u3 u4 v1 v2 v3 v4 hd
    refine wp_region_tch (L := []) (w0 := V) (by kernel_rfl) (by kernel_rfl) (Tch.refl [] V) ?_
    repeat (go_big_quiet_step ((first | rfl | (go_at_call 11; exact tch_of (hKq _)))))
    go_big_quiet_want
    refine quiet_load_agg 26 (.tmp 17) rfl ⟨g, 0, none⟩ rfl #[.string ⟨i.name.toArray⟩, .slice af i.fields.length cf, .slice ai i.imports.length ci, .slice am i.methods.length cm, .slice ae i.exports.length ce] _ (by rintro _ ⟨x, rfl⟩; exact block_cells hXiV x.t) Tryd.underlying26 rfl (by kernel_rfl) ?_
    go_simp
    go_big_quiet_on
    go_big_quiet_want
    refine quiet_load_agg 26 (.tmp 18) rfl ⟨g2, 0, none⟩ rfl #[.string ⟨j3.name.toArray⟩, .slice xf j3.fields.length xd, .slice xi j3.imports.length xe, .slice xm j3.methods.length xh, .slice xk j3.exports.length xl] _ (by rintro _ ⟨x, rfl⟩; exact block_cells hXV x.t) Tryd.underlying26 rfl (by kernel_rfl) ?_
    go_simp
    go_big_quiet_on
    go_big_quiet_step ((go_at_call 16; exact tch_of (hSq _)))
    go_big_quiet_want
    refine quiet_load_agg 26 (.tmp 17) rfl ⟨g, 0, none⟩ rfl #[.string ⟨i.name.toArray⟩, .slice af i.fields.length cf, .slice ai i.imports.length ci, .slice am i.methods.length cm, .slice ae i.exports.length ce] _ (by rintro _ ⟨x, rfl⟩; exact block_cells hXiV x.t) Tryd.underlying26 rfl (by kernel_rfl) ?_
    go_simp
    go_big_quiet_on
    go_big_quiet_want
    refine quiet_load_agg 26 (.tmp 18) rfl ⟨g2, 0, none⟩ rfl #[.string ⟨j3.name.toArray⟩, .slice xf j3.fields.length xd, .slice xi j3.imports.length xe, .slice xm j3.methods.length xh, .slice xk j3.exports.length xl] _ (by rintro _ ⟨x, rfl⟩; exact block_cells hXV x.t) Tryd.underlying26 rfl (by kernel_rfl) ?_
    go_simp
    go_big_quiet_on
    go_big_quiet_step ((go_at_call 20; exact tch_of (hRq _)))
    cases d
    all_goals
      repeat (go_big_quiet_step (rfl))
      go_big_quiet_want
      refine quiet_load_agg 26 (.tmp 17) rfl ⟨g, 0, none⟩ rfl #[.string ⟨i.name.toArray⟩, .slice af i.fields.length cf, .slice ai i.imports.length ci, .slice am i.methods.length cm, .slice ae i.exports.length ce] _ (by rintro _ ⟨x, rfl⟩; exact block_cells hXiV x.t) Tryd.underlying26 rfl (by kernel_rfl) ?_
      go_simp
      go_big_quiet_on
      go_big_quiet_want
      refine quiet_load_agg 26 (.tmp 17) rfl ⟨g, 0, none⟩ rfl #[.string ⟨i.name.toArray⟩, .slice af i.fields.length cf, .slice ai i.imports.length ci, .slice am i.methods.length cm, .slice ae i.exports.length ce] _ (by rintro _ ⟨x, rfl⟩; exact block_cells hXiV x.t) Tryd.underlying26 rfl (by kernel_rfl) ?_
      go_simp
      go_big_quiet_on
      repeat (go_big_quiet_step ((first | rfl | (go_at_call 16; exact tch_of (hSS _)))))
      refine wpQuiet_nil ?_
      intro _ hw'
      obtain ⟨x, rfl⟩ := hw'
      go_wp2_with fail
      go_ret
      exact ⟨by simp, TV.then x.t⟩
end Go.Proofs.YtapephelfijcbaaDoor
