/-
  STATEMENT: ImageBack: what is laid is read back, and what is read is laid as the same bytes: the walk. Conditions: utf8's tables and the bins as they are laid; the raw statements and the bytes fit in memory.
-/
import Derived.Test.YtapephelfijcbaaDoorHBnb
import Derived.Test.YtapephelfijcbaaDoorHImx
namespace Go.Tcn
open Go.RowKit
set_option linter.unusedVariables false
set_option linter.unusedSimpArgs false
theorem wpList_load_agg_w {P : Program} {ops : Array Oper} {rest : List Oper} {o : Oper} {a : Act} {w : World} {Q : Exit → Act → World → Prop} (hw : Region.wanted o (yielded ops a.tmps) = true) (ty : TypeId) (x : Operand) (ho : o.op = .load ty x)
    (ad : Addr) (hx : a.eval x = .pointer (some ad)) (cs : Array Value) (d : TypeDesc) (hc : ∀ (j : Nat) u, cs.toList[j]? = some u → w.cell? (ad.add j) = some u)
    (hu : P.underlying ty = some d) (hd : (match d with | .struct _ | .array _ _ => true | _ => false) = true) (hi : (P.info? ty).map (·.size) = some cs.size)
    (h : wpList P ops Q rest (a.put o.dst (.agg cs)) w) : wpList P ops Q (o :: rest) a w :=
  BigFrame.wpList_want hw fun _ hK => wp_load_agg ty x ho ad hx cs d hc hu hd hi (hK _ _ h)
theorem block_cells {w w' : World} {g : Nat} {cs : Array Value} {T : TypeId} {fr : Nat × Nat} (h : w.heap[g]? = some (.cells cs T fr)) (t : Tch [] w w') : ∀ (a : Nat) u, cs.toList[a]? = some u → w'.cell? ((⟨g, 0, none⟩ : Addr).add a) = some u :=
  fun a u hu => World.news_of_block ((t.block g (heap_lt h) (by simp)).trans h) a u hu
end Go.Tcn
namespace Go.Proofs.YtapephelfijcbaaDoor
open Go.RowKit Go.Tcn
set_option linter.unusedVariables false
set_option linter.unusedSimpArgs false
set_option maxRecDepth 100000 in
set_option maxHeartbeats 16000000 in
theorem law4_ImageBack (w : World) (hG : Bins w 2) (k : Int) (hk : I6 k) (xv : Value) (l : List Rw) (hl : Raws w xv l) (hll : l.length ≤ 5000000000000) (hcap : ∀ ao n c, xv = .slice ao n c → n ≤ c) (how at0 by0 : Int) (hhow : I6 how) (hat : I6 at0) (hby : I6 by0) (rx : Value) (raw : List Int) (hr : Src w [] rx raw.length (bys raw)) (hrb : Byt raw) (hrl : raw.length ≤ 140737488355328) (hV : ∀ nm w', nm.length ≤ 16 → Tch [] w w' → Calls Tryd.prog 40 #[.string ⟨nm.toArray⟩] w' fun e w'' => e = .returned (.bool (Lib.validD nm)) ∧ Tch [] w' w'') :
    Calls Tryd.prog 4 #[.int .i64 k, xv, .int .i64 how, .int .i64 at0, .int .i64 by0, rx] w fun e w' => e = .returned (.bool true) ∧ Tch [] w w' := by
  have hP1 := hand_Pick at0 1000 hat (by omega) (by omega) w
  have hP2 := hand_Pick by0 1000 hby (by omega) (by omega) w
  obtain ⟨p, hp, hp0⟩ : ∃ p : Int, at0 % 1000 = p ∧ 0 ≤ p ∧ p ≤ 999 := ⟨_, rfl, by omega, by omega⟩
  obtain ⟨q, hq, hq0⟩ : ∃ p : Int, by0 % 1000 = p ∧ 0 ≤ p ∧ p ≤ 999 := ⟨_, rfl, by omega, by omega⟩
  rw [hp] at hP1
  rw [hq] at hP2
  clear hp hq
  have hBn := law4_bent w hG k hk xv l hl hll hcap how p q hhow hp0 hq0
  have hKn : ∀ W, Tch [] w W → Calls Tryd.prog 11 #[] W fun e w' => e = .returned (.bool true) ∧ Tch [] W w' := fun W t => law4_known W (fun nm w' h16 t' => hV nm w' h16 (t.then t'))
  have hRd := fun (W : World) (x : Value) (b : List Int) (t : Tch [] w W) (hs : Src W [] x b.length (bys b)) (hb : Byt b) (hl : b.length ≤ 140737488355328) => im_Read W x b [] hs hb hl (fun nm w' h16 t' => hV nm w' h16 (t.then t'))
  have hLo := fun (W : World) (i : Img) (vf vi vm ve : Value) (t : Tch [] w W) (r1 : RInts W [] vf i.fields) (r2 : RImps W [] vi i.imports) (r3 : RMths W [] vm i.methods) (r4 : RInts W [] ve i.exports) (hz : ImgZ i) => im_Lay_ok W i vf vi vm ve r1 r2 r3 r4 hz (fun nm w' h16 t' => hV nm w' h16 (t.then t'))
  have hLn := fun (W : World) (i : Img) (vf vi vm ve : Value) (t : Tch [] w W) (r1 : RInts W [] vf i.fields) (r2 : RImps W [] vi i.imports) (r3 : RMths W [] vm i.methods) (r4 : RInts W [] ve i.exports) (hz : ImgZ i) => im_Lay_no W i vf vi vm ve r1 r2 r3 r4 hz (fun nm w' h16 t' => hV nm w' h16 (t.then t'))
  have hRt := fun (W : World) (i : Img) (vf vi vm ve : Value) (t : Tch [] w W) (r1 : RInts W [] vf i.fields) (r2 : RImps W [] vi i.imports) (r3 : RMths W [] vm i.methods) (r4 : RInts W [] ve i.exports) (hz : ImgZ i) => im_Right W i vf vi vm ve r1 r2 r3 r4 hz (fun nm w' h16 t' => hV nm w' h16 (t.then t'))
  obtain ⟨aox, nx, capx, hxv⟩ : ∃ ao n c, xv = .slice ao n c := by
    obtain ⟨ao, c, h, _⟩ := hl.ex
    exact ⟨ao, _, c, h⟩
  subst hxv
  obtain ⟨ar, cr, rfl⟩ := Src.form hr
  have hINV := Lib.hid (fun i h => readImg_inv raw hrb i h)
  clear hV hG hl hll hcap
  go_enter Tryd.func4, Tryd.ntmps4
  go_wp2_with fail
  refine hP1.mono ?_
  rintro e w' ⟨rfl, rfl⟩
  go_wp2_with fail
  refine hP2.mono ?_
  rintro e w' ⟨rfl, rfl⟩
  go_wp2_with fail
  refine hBn.mono ?_
  rintro e w1 ⟨i, vf, vi, vm, ve, rfl, r1, r2, r3, r4, hz, t1⟩
  obtain ⟨af, cf, rfl⟩ := Src.form r1
  obtain ⟨ai, ci, rfl⟩ := RImps.form r2
  obtain ⟨am, cm, rfl⟩ := RMths.form r3
  obtain ⟨ae, ce, rfl⟩ := Src.form r4
  clear hP1 hP2 hBn
  obtain ⟨g, hg⟩ : ∃ g, g = w1.heap.size := ⟨_, rfl⟩
  obtain ⟨W, hW⟩ : ∃ W, W = w1.alloc (.cells #[.string ⟨i.name.toArray⟩, .slice af i.fields.length cf, .slice ai i.imports.length ci, .slice am i.methods.length cm, .slice ae i.exports.length ce] 26) := ⟨_, rfl⟩
  have tW : Tch [] w1 W := by rw [hW]; exact (Tch.refl [] w1).alloc _
  have hX : W.heap[g]? = some (.cells #[.string ⟨i.name.toArray⟩, .slice af i.fields.length cf, .slice ai i.imports.length ci, .slice am i.methods.length cm, .slice ae i.exports.length ce] 26 (0, 0)) := by rw [hW, hg]; exact heap_alloc_new w1 _
  replace r1 := r1.tch tW (by simp)
  replace r2 := r2.tch tW (by simp)
  replace r3 := r3.tch tW (by simp)
  replace r4 := r4.tch tW (by simp)
  have T1 := t1.then tW
  go_upto_region 2 with fail
  rw [← hW, ← hg]
  clear hW hg tW t1 w1
  have hX0 := block_cells hX (Tch.refl [] W)
  cases hB : imgB i
  · go_wp2_with (first | (refine wpList_load_agg rfl 26 (.tmp 13) rfl ⟨g, 0, none⟩ rfl #[.string ⟨i.name.toArray⟩, .slice af i.fields.length cf, .slice ai i.imports.length ci, .slice am i.methods.length cm, .slice ae i.exports.length ce] _ hX0 Tryd.underlying26 rfl (by kernel_rfl) ?_) | fail)
    refine (hLn W i _ _ _ _ T1 r1 r2 r3 r4 hz hB).mono ?_
    rintro e w2 ⟨rfl, t2⟩
    have T2 := T1.then t2
    have hR := hRt w2 i _ _ _ _ T2 (r1.tch t2 (by simp)) (r2.tch t2 (by simp)) (r3.tch t2 (by simp)) (r4.tch t2 (by simp)) hz
    rw [hB] at hR
    have hX2 := block_cells hX t2
    go_wp2_with (first | (refine wpList_load_agg rfl 26 (.tmp 13) rfl ⟨g, 0, none⟩ rfl #[.string ⟨i.name.toArray⟩, .slice af i.fields.length cf, .slice ai i.imports.length ci, .slice am i.methods.length cm, .slice ae i.exports.length ce] _ hX2 Tryd.underlying26 rfl (by kernel_rfl) ?_) | fail)
    refine hR.mono ?_
    rintro e w3 ⟨rfl, t3⟩
    have T3 := T2.then t3
    clear hR r1 r2 r3 r4 hX hX0 hX2 t2 t3
    have hr3 := hr.tch T3 (by simp)
    have hR5 := hRd w3 _ _ T3 hr3 hrb hrl
    obtain ⟨j, f, hjf⟩ : ∃ j f, readImg raw = (j, f) := ⟨_, _, rfl⟩
    have HJ := Lib.hid hjf
    rw [hjf] at hR5
    clear hjf
    go_wp2_with fail
    refine hR5.mono ?_
    rintro e w6 ⟨xf, xi, xm, xe, rfl, y1, y2, y3, y4, hzy, t6⟩
    try simp only at y1 y2 y3 y4 hzy
    obtain ⟨xf, xd, rfl⟩ := Src.form y1
    obtain ⟨xi, xe, rfl⟩ := RImps.form y2
    obtain ⟨xm, xh, rfl⟩ := RMths.form y3
    obtain ⟨xk, xl, rfl⟩ := Src.form y4
    clear hR5
    obtain ⟨g6, hg6⟩ : ∃ g, g = w6.heap.size := ⟨_, rfl⟩
    obtain ⟨W6, hW6⟩ : ∃ W, W = w6.alloc (.cells #[.string ⟨j.name.toArray⟩, .slice xf j.fields.length xd, .slice xi j.imports.length xe, .slice xm j.methods.length xh, .slice xk j.exports.length xl] 26) := ⟨_, rfl⟩
    have tW6 : Tch [] w6 W6 := by rw [hW6]; exact (Tch.refl [] w6).alloc _
    have hX6 : W6.heap[g6]? = some (.cells #[.string ⟨j.name.toArray⟩, .slice xf j.fields.length xd, .slice xi j.imports.length xe, .slice xm j.methods.length xh, .slice xk j.exports.length xl] 26 (0, 0)) := by rw [hW6, hg6]; exact heap_alloc_new w6 _
    go_upto_region 10 with fail
    rw [← hW6, ← hg6]
    clear hW6 hg6
    have T6 := T3.then (t6.then tW6)
    by_cases hf : f = 0
    · subst hf
      obtain ⟨hj, hraw⟩ := hINV.out j HJ.out
      go_wp2_with fail
      refine (hKn W6 T6).mono ?_
      rintro e w7 ⟨rfl, t7⟩
      have T7 := T6.then t7
      have t67 := tW6.then t7
      have hLk := hLo w7 j _ _ _ _ T7 (y1.tch t67 (by simp)) (y2.tch t67 (by simp)) (y3.tch t67 (by simp)) (y4.tch t67 (by simp)) hzy hj
      rw [← hraw] at hLk
      have hX7 := block_cells hX6 t7
      clear hraw HJ hINV
      go_wp2_with (first | (refine wpList_load_agg rfl 26 (.tmp 18) rfl ⟨g6, 0, none⟩ rfl #[.string ⟨j.name.toArray⟩, .slice xf j.fields.length xd, .slice xi j.imports.length xe, .slice xm j.methods.length xh, .slice xk j.exports.length xl] _ hX7 Tryd.underlying26 rfl (by kernel_rfl) ?_) | fail)
      refine hLk.mono ?_
      rintro e w8 ⟨ao8, cap8, rfl, ho8, ⟨g8, rfl, hg8⟩, t8⟩
      have T8 := T7.then t8
      have hs1 := run_str (P := Tryd.prog) 30 5 9 Tryd.underlying30 Tryd.underlying5 Tryd.underlying9 (src_of_owns ho8 [] (by simp))
      have hs2 := run_str (P := Tryd.prog) 30 5 9 Tryd.underlying30 Tryd.underlying5 Tryd.underlying9 (hr.tch T8 (by simp))
      clear ho8 hLk hX7
      generalize raw.length = n at *
      go_wp2_with fail
      go_ret
      exact ⟨rfl, T8⟩
    · go_wp2_with fail
      refine (hKn W6 T6).mono ?_
      rintro e w7 ⟨rfl, t7⟩
      have T7 := T6.then t7
      go_wp2_with fail
      refine (hKn w7 T7).mono ?_
      rintro e w8 ⟨rfl, t8⟩
      go_wp2_with fail
      go_ret
      exact ⟨rfl, T7.then t8⟩
  · go_wp2_with (first | (refine wpList_load_agg rfl 26 (.tmp 13) rfl ⟨g, 0, none⟩ rfl #[.string ⟨i.name.toArray⟩, .slice af i.fields.length cf, .slice ai i.imports.length ci, .slice am i.methods.length cm, .slice ae i.exports.length ce] _ hX0 Tryd.underlying26 rfl (by kernel_rfl) ?_) | fail)
    refine (hLo W i _ _ _ _ T1 r1 r2 r3 r4 hz hB).mono ?_
    rintro e w2 ⟨ao, cap, rfl, ho, ⟨gb, rfl, hgb⟩, t2⟩
    have T2 := T1.then t2
    have u1 := r1.tch t2 (by simp)
    have u2 := r2.tch t2 (by simp)
    have u3 := r3.tch t2 (by simp)
    have u4 := r4.tch t2 (by simp)
    have hR := hRt w2 i _ _ _ _ T2 u1 u2 u3 u4 hz
    rw [hB] at hR
    have hX2 := block_cells hX t2
    have hS2 := src_of_owns ho [] (by simp)
    clear ho r1 r2 r3 r4
    go_wp2_with (first | (refine wpList_load_agg rfl 26 (.tmp 13) rfl ⟨g, 0, none⟩ rfl #[.string ⟨i.name.toArray⟩, .slice af i.fields.length cf, .slice ai i.imports.length ci, .slice am i.methods.length cm, .slice ae i.exports.length ce] _ hX2 Tryd.underlying26 rfl (by kernel_rfl) ?_) | fail)
    refine hR.mono ?_
    rintro e w4 ⟨rfl, t4⟩
    have T4 := T2.then t4
    have hle := encImg_le hB
    have hR4 := hRd w4 _ _ T4 (hS2.tch t4 (by simp)) (encImg_byt i) (by omega)
    rw [readImg_enc i hB] at hR4
    generalize (encImg i).length = n at *
    clear hR hS2 hle hX0 hX2
    go_wp2_with fail
    refine hR4.mono ?_
    rintro e w5 ⟨wf, wi, wm, we, rfl, s1, s2, s3, s4, hzz, t5⟩
    try simp only at s1 s2 s3 s4
    obtain ⟨bf, df, rfl⟩ := Src.form s1
    obtain ⟨bi, di, rfl⟩ := RImps.form s2
    obtain ⟨bm, dm, rfl⟩ := RMths.form s3
    obtain ⟨be, de, rfl⟩ := Src.form s4
    clear hR4
    obtain ⟨g5, hg5⟩ : ∃ g, g = w5.heap.size := ⟨_, rfl⟩
    obtain ⟨W5, hW5⟩ : ∃ W, W = w5.alloc (.cells #[.string ⟨i.name.toArray⟩, .slice bf i.fields.length df, .slice bi i.imports.length di, .slice bm i.methods.length dm, .slice be i.exports.length de] 26) := ⟨_, rfl⟩
    have tW5 : Tch [] w5 W5 := by rw [hW5]; exact (Tch.refl [] w5).alloc _
    have hX5 : W5.heap[g5]? = some (.cells #[.string ⟨i.name.toArray⟩, .slice bf i.fields.length df, .slice bi i.imports.length di, .slice bm i.methods.length dm, .slice be i.exports.length de] 26 (0, 0)) := by rw [hW5, hg5]; exact heap_alloc_new w5 _
    go_upto_region 7 with fail
    rw [← hW5, ← hg5]
    clear hW5 hg5
    have T25 := t4.then (t5.then tW5)
    have T5 := T2.then T25
    have hXi := block_cells hX (t2.then T25)
    have hXj := block_cells hX5 (Tch.refl [] W5)
    have hSm := im_Same W5 i i _ _ _ _ _ _ _ _ (u1.tch T25 (by simp)) (u2.tch T25 (by simp)) (u3.tch T25 (by simp)) (u4.tch T25 (by simp)) (s1.tch tW5 (by simp)) (s2.tch tW5 (by simp)) (s3.tch tW5 (by simp)) (s4.tch tW5 (by simp)) hz hz
    rw [decide_eq_true rfl] at hSm
    go_wp2_with (first | (refine wpList_load_agg_w (by rfl) 26 (.tmp 13) rfl ⟨g, 0, none⟩ rfl #[.string ⟨i.name.toArray⟩, .slice af i.fields.length cf, .slice ai i.imports.length ci, .slice am i.methods.length cm, .slice ae i.exports.length ce] _ hXi Tryd.underlying26 rfl (by kernel_rfl) ?_) | (refine wpList_load_agg_w (by rfl) 26 (.tmp 16) rfl ⟨g5, 0, none⟩ rfl #[.string ⟨i.name.toArray⟩, .slice bf i.fields.length df, .slice bi i.imports.length di, .slice bm i.methods.length dm, .slice be i.exports.length de] _ hXj Tryd.underlying26 rfl (by kernel_rfl) ?_) | fail)
    refine hSm.mono ?_
    rintro e w3 ⟨rfl, t3⟩
    have T3 := T5.then t3
    clear hSm u1 u2 u3 u4 s1 s2 s3 s4 hX hX5 hXi hXj t2 t3 t4 t5 tW5 T25
    have hr3 := hr.tch T3 (by simp)
    have hR5 := hRd w3 _ _ T3 hr3 hrb hrl
    obtain ⟨j, f, hjf⟩ : ∃ j f, readImg raw = (j, f) := ⟨_, _, rfl⟩
    have HJ := Lib.hid hjf
    rw [hjf] at hR5
    clear hjf
    go_wp2_with fail
    refine hR5.mono ?_
    rintro e w6 ⟨xf, xi, xm, xe, rfl, y1, y2, y3, y4, hzy, t6⟩
    try simp only at y1 y2 y3 y4 hzy
    obtain ⟨xf, xd, rfl⟩ := Src.form y1
    obtain ⟨xi, xe, rfl⟩ := RImps.form y2
    obtain ⟨xm, xh, rfl⟩ := RMths.form y3
    obtain ⟨xk, xl, rfl⟩ := Src.form y4
    clear hR5
    obtain ⟨g6, hg6⟩ : ∃ g, g = w6.heap.size := ⟨_, rfl⟩
    obtain ⟨W6, hW6⟩ : ∃ W, W = w6.alloc (.cells #[.string ⟨j.name.toArray⟩, .slice xf j.fields.length xd, .slice xi j.imports.length xe, .slice xm j.methods.length xh, .slice xk j.exports.length xl] 26) := ⟨_, rfl⟩
    have tW6 : Tch [] w6 W6 := by rw [hW6]; exact (Tch.refl [] w6).alloc _
    have hX6 : W6.heap[g6]? = some (.cells #[.string ⟨j.name.toArray⟩, .slice xf j.fields.length xd, .slice xi j.imports.length xe, .slice xm j.methods.length xh, .slice xk j.exports.length xl] 26 (0, 0)) := by rw [hW6, hg6]; exact heap_alloc_new w6 _
    go_upto_region 10 with fail
    rw [← hW6, ← hg6]
    clear hW6 hg6
    have T6 := T3.then (t6.then tW6)
    by_cases hf : f = 0
    · subst hf
      obtain ⟨hj, hraw⟩ := hINV.out j HJ.out
      go_wp2_with fail
      refine (hKn W6 T6).mono ?_
      rintro e w7 ⟨rfl, t7⟩
      have T7 := T6.then t7
      have t67 := tW6.then t7
      have hLk := hLo w7 j _ _ _ _ T7 (y1.tch t67 (by simp)) (y2.tch t67 (by simp)) (y3.tch t67 (by simp)) (y4.tch t67 (by simp)) hzy hj
      rw [← hraw] at hLk
      have hX7 := block_cells hX6 t7
      clear hraw HJ hINV
      go_wp2_with (first | (refine wpList_load_agg rfl 26 (.tmp 18) rfl ⟨g6, 0, none⟩ rfl #[.string ⟨j.name.toArray⟩, .slice xf j.fields.length xd, .slice xi j.imports.length xe, .slice xm j.methods.length xh, .slice xk j.exports.length xl] _ hX7 Tryd.underlying26 rfl (by kernel_rfl) ?_) | fail)
      refine hLk.mono ?_
      rintro e w8 ⟨ao8, cap8, rfl, ho8, ⟨g8, rfl, hg8⟩, t8⟩
      have T8 := T7.then t8
      have hs1 := run_str (P := Tryd.prog) 30 5 9 Tryd.underlying30 Tryd.underlying5 Tryd.underlying9 (src_of_owns ho8 [] (by simp))
      have hs2 := run_str (P := Tryd.prog) 30 5 9 Tryd.underlying30 Tryd.underlying5 Tryd.underlying9 (hr.tch T8 (by simp))
      clear ho8 hLk hX7
      generalize raw.length = n at *
      go_wp2_with fail
      go_ret
      exact ⟨rfl, T8⟩
    · go_wp2_with fail
      refine (hKn W6 T6).mono ?_
      rintro e w7 ⟨rfl, t7⟩
      have T7 := T6.then t7
      go_wp2_with fail
      refine (hKn w7 T7).mono ?_
      rintro e w8 ⟨rfl, t8⟩
      go_wp2_with fail
      go_ret
      exact ⟨rfl, T7.then t8⟩
end Go.Proofs.YtapephelfijcbaaDoor
