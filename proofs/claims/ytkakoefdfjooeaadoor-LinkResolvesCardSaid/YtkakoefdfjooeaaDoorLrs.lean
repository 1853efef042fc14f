/-
  STATEMENT: LinkResolves: whom any import of any applets calls is as the document says: the walk. Conditions: none.
-/
import Derived.Test.YtkakoefdfjooeaaDoorLkn
import Derived.Test.YtkakoefdfjooeaaDoorInts
import Derived.StillTailTactics
namespace Go.Tcn
open Go.RowKit
set_option linter.unusedVariables false
set_option linter.unusedSimpArgs false
theorem ints_ins (l : List Int) : ins l = ints l := rfl
/-- The list of applets while it is made, its row in v. -/
structure Imgs (T : TypeId) (w0 w : World) (v : Value) (l : List Img) : Prop where
  ex : ∃ css : List (List Value), css.length = l.length ∧ w.ownsRow 0 T 5 v l.length css.flatten ∧ (∀ (k : Nat) cs x, css[k]? = some cs → l[k]? = some x → RImg w v.ownBlock.toList cs x)
  good : ∀ i ∈ l, ImgGood i
  new : ∀ g, v.ownBlock = some g → w0.heap.size ≤ g
  t : Tch [] w0 w
theorem Imgs.start {T : TypeId} (w : World) : Imgs T w w (.slice none 0 0) [] :=
  ⟨⟨[], rfl, World.ownsRow_nil _ _ _ _, fun k cs x h => by simp at h⟩, by simp, by simp [Value.ownBlock], Tch.refl _ _⟩
theorem Imgs.imgs {T : TypeId} {w0 w : World} {v : Value} {l : List Img} (h : Imgs T w0 w v l) : RImgs w v l := by
  obtain ⟨css, h1, h2, h3⟩ := h.ex
  exact RImgs.of h1 (src_of_owns h2 [] (by simp)) (fun k cs x a b => (h3 k cs x a b).thin)
theorem box_set {w : World} {g : Nat} {cs : Array Value} {T : TypeId} (h : w.heap[g]? = some (.cells cs T (0, 0))) (j : Nat) (u : Value) : (w.setCell ⟨g, j, none⟩ u).heap[g]? = some (.cells (cs.setIfInBounds j u) T (0, 0)) := by
  have : (w.setCell ⟨g, j, none⟩ u).heap = w.heap.modify g fun | .cells c elem frozen => .cells (c.setIfInBounds j u) elem frozen | o => o := rfl
  rw [this, Array.getElem?_modify, if_pos rfl, h]
  rfl
theorem heap_far {w : World} {g p : Nat} {o : Obj} (h : w.heap[g]? = some o) (hn : g ≠ p) (j : Nat) (u : Value) : (w.setCell ⟨p, j, none⟩ u).heap[g]? = some o := by
  rw [Below.heap_setCell _ _ _ _ hn]; exact h
theorem heap_past {w : World} {g : Nat} {o : Obj} (h : w.heap[g]? = some o) (x : Obj) : (w.alloc x).heap[g]? = some o := by
  rw [Below.heap_alloc _ _ _ (heap_lt h)]; exact h
theorem size_set (w : World) (a : Addr) (u : Value) : (w.setCell a u).heap.size = w.heap.size := by simp [World.setCell]
theorem ImgGood.of {nm : List UInt8} {fs es : List Int} {is : List Imp} {ms : List Mth} (h1 : is.length ≤ 1000) (h2 : es.length ≤ 1000) (h3 : ms.length ≤ 1000) (h4 : ∀ x ∈ is, x.params.length ≤ 1000) (h5 : ∀ x ∈ ms, x.params.length ≤ 1000) : ImgGood ⟨nm, fs, is, ms, es⟩ := ⟨h1, h2, h3, h4, h5⟩
end Go.Tcn
namespace Go.Proofs.YtkakoefdfjooeaaDoor
open Go.RowKit Go.Tcn
set_option linter.unusedVariables false
set_option linter.unusedSimpArgs false

set_option maxRecDepth 100000 in
set_option maxHeartbeats 4000000 in
theorem lk_LinkResolves (W : World) (hG : Bins W 0) (u0 : Value) (l0 : List Int) (hs0 : Src W [] u0 l0.length (ins l0)) (hb0 : I64 l0) (hm0 : l0.length ≤ 9223372036854775807) (u1 : Value) (lr : List Rw) (hr : Raws W u1 lr)
    (a k : Int) (ha : I6 a) (hk : I6 k) (nm : List UInt8) : Calls Tryd.prog 4 #[u0, u1, .int .i64 a, .int .i64 k, .string ⟨nm.toArray⟩] W fun e w' => e = .returned (.bool true) ∧ Tch [] W w' := by
  obtain ⟨i0, hi, hz0, hz1, hz2⟩ := info_parts info_img
  obtain ⟨ax0, cx0, rfl⟩ := hs0.form
  obtain ⟨ax1, cx1, rfl, hlr, hel⟩ := id hr.ex
  go_enter Tryd.func4, Tryd.ntmps4
  go_wp2_with fail
  go_loopw [11, 12] (fun v i wz => ∃ (m : Nat) (l : List Img), m ≤ l0.length ∧ m ≤ 4 ∧ i = .int .i64 m ∧ l.length = m ∧ Imgs 26 W wz v l) (fun _ i _ => 4 - (intOf i).toNat)
  case atStart => exact ⟨0, [], by omega, by omega, rfl, rfl, Imgs.start W⟩
  case round =>
    obtain ⟨m, l, hm1, hm4, rfl, hlm, hI⟩ := hrel
    have hl4 : l.length ≤ 4 := by omega
    have HLM := Lib.hid hlm; clear hlm
    by_cases hgo : m < l0.length ∧ m < 4
    · obtain ⟨hg1, hg2⟩ := hgo
      obtain ⟨ad0, rfl, _, _, hq⟩ := Src.at (hs0.tch hI.t (by simp)) (j := m) (by rw [ins_length]; exact hg1)
      have hq0 : wr.cell? (ad0.add m) = some (.int .i64 l0[m]) := by simpa [ins] using hq
      have hk6 : I6 l0[m] := hb0 _ (List.getElem_mem hg1)
      clear hq
      generalize l0[m] = kk at *
      have hl0 : ∀ i ∈ u11.ownBlock.toList, i < wr.heap.size := fun i hi => by
        obtain ⟨css, _, h2, _⟩ := hI.ex
        exact (World.ownsRow.lt h2 i (by simpa using hi)).2
      go_wp2_with fail
      refine (hand_App0 _ (hG.tch hI.t) kk hk6 u11.ownBlock.toList hl0).mono ?_
      rintro e w1 ⟨af, ai, am, ae, cf, ci, cm, ce, c0, c1, c2, rfl, i1, i2, i3, i4, t1⟩
      go_upto_if 39 with fail
      obtain ⟨V, hV⟩ : ∃ V, V = w1.alloc (.cells #[.string ⟨(nameOf kk).toArray⟩, .slice af 4 cf, .slice ai 2 ci, .slice am 3 cm, .slice ae 2 ce] 26) := ⟨_, rfl⟩
      have hgV : V.heap[w1.heap.size]? = some (.cells #[.string ⟨(nameOf kk).toArray⟩, .slice af 4 cf, .slice ai 2 ci, .slice am 3 cm, .slice ae 2 ce] 26 (0, 0)) := by rw [hV]; exact heap_alloc_new w1 _
      have tV : Tch [] w1 V := by rw [hV]; exact (Tch.refl [] w1).alloc _
      have hsV : w1.heap.size < V.heap.size := by rw [hV]; simp
      have hmo : ∀ i ∈ w1.heap.size :: u11.ownBlock.toList, i < w1.heap.size → i ∈ u11.ownBlock.toList := fun i hi hlt => by
        rcases List.mem_cons.1 hi with h | h
        · omega
        · exact h
      have j1 := (i1.mono hmo).tch tV (by simp)
      have j2 := (i2.mono hmo).tch tV (by simp)
      have j3 := (i3.mono hmo).tch tV (by simp)
      have j4 := (i4.mono hmo).tch tV (by simp)
      have hI2 : RImg V (w1.heap.size :: u11.ownBlock.toList) [.string ⟨(nameOf kk).toArray⟩, .slice af 4 cf, .slice ai 2 ci, .slice am 3 cm, .slice ae 2 ce] (appI kk 0 c0 c1 c2) := ⟨_, _, _, _, rfl, j1, j2, j3, j4⟩
      rw [← hV]
      clear hV i1 i2 i3 i4 hmo
      go_cut [14] (fun y wz => ∃ (img : Img) (x0 x1 x2 x3 x4 : Value), wz.heap[w1.heap.size]? = some (.cells #[x0, x1, x2, x3, x4] 26 (0, 0)) ∧ RImg wz (w1.heap.size :: u11.ownBlock.toList) [x0, x1, x2, x3, x4] img ∧ ImgGood img ∧ Tch [w1.heap.size] V wz)
      case first =>
        by_cases hlt : m < lr.length
        · obtain ⟨adr, rfl, hadr, hcr⟩ := hel m lr[m] (by simp [hlt])
          have hrg := hr.rng lr[m] (List.getElem_mem hlt)
          have TV : Tch [] W V := hI.t.then (t1.then tV)
          have hcr2 : ∀ (j : Nat) u, (rawCells lr[m]).toList[j]? = some u → V.cell? ((adr.add (m * 4)).add j) = some u := fun j u hj => by
            rw [TV.cell (by rw [Addr_add_block, Addr_add_block]; exact hadr) (by simp)]; exact hcr j u hj
          unfold rawCells at hcr2
          clear hcr hel
          obtain ⟨ho, hya, _, _⟩ := hrg
          generalize lr[m].1 = o at *
          generalize lr[m].2.1 = ya at *
          generalize lr[m].2.2.1 = yb at *
          generalize lr[m].2.2.2 = yc at *
          have hpo := fun w => hand_Pick o 8 ho (by omega) (by omega) w
          have hpa := fun w => hand_Pick ya 5 hya (by omega) (by omega) w
          have hp4 := fun w => hand_Pick ya 4 hya (by omega) (by omega) w
          have h8 : o % 8 = 0 ∨ o % 8 = 1 ∨ o % 8 = 2 ∨ o % 8 = 3 ∨ o % 8 = 4 ∨ o % 8 = 5 ∨ o % 8 = 6 ∨ o % 8 = 7 := by omega
          have gc2 : V.cell? ⟨w1.heap.size, 2, none⟩ = some (.slice ai 2 ci) := (cell_of_row _ _ 2 _ _ _ hgV).trans rfl
          have gc3 : V.cell? ⟨w1.heap.size, 3, none⟩ = some (.slice am 3 cm) := (cell_of_row _ _ 3 _ _ _ hgV).trans rfl
          have gc4 : V.cell? ⟨w1.heap.size, 4, none⟩ = some (.slice ae 2 ce) := (cell_of_row _ _ 4 _ _ _ hgV).trans rfl
          have gfz : ∀ j, V.frozen? ⟨w1.heap.size, j, none⟩ = false := fun j => by simp [World.frozen?, hgV]
          obtain ⟨V1, hV1⟩ : ∃ V1, V1 = V.alloc (.cells #[.int .i64 o, .int .i64 ya, .int .i64 yb, .int .i64 yc] 38) := ⟨_, rfl⟩
          have tV1 : Tch [] V V1 := by rw [hV1]; exact (Tch.refl [] V).alloc _
          have hy1 : V1.cell? ⟨V.heap.size, 1, none⟩ = some (.int .i64 ya) := by rw [hV1]; exact (cell_of_row _ _ 1 _ _ _ (heap_alloc_new V _)).trans rfl
          have hgV1 : V1.heap[w1.heap.size]? = some (.cells #[.string ⟨(nameOf kk).toArray⟩, .slice af 4 cf, .slice ai 2 ci, .slice am 3 cm, .slice ae 2 ce] 26 (0, 0)) := by rw [hV1]; exact heap_past hgV _
          have hs1 : V.heap.size < V1.heap.size := by rw [hV1]; simp
          have g2 := (tV1.cell (cell_lt gc2) (by simp)).trans gc2
          have g3 := (tV1.cell (cell_lt gc3) (by simp)).trans gc3
          have g4 := (tV1.cell (cell_lt gc4) (by simp)).trans gc4
          have f2 := (tV1.frozen (p := ⟨w1.heap.size, 2, none⟩) (cell_lt gc2) (by simp)).trans (gfz 2)
          have f3 := (tV1.frozen (p := ⟨w1.heap.size, 3, none⟩) (cell_lt gc3) (by simp)).trans (gfz 3)
          have f4 := (tV1.frozen (p := ⟨w1.heap.size, 4, none⟩) (cell_lt gc4) (by simp)).trans (gfz 4)
          have hgL : w1.heap.size < V1.heap.size := by omega
          have hrowL : ∀ i ∈ u11.ownBlock.toList, i < w1.heap.size := fun i hi => Nat.lt_of_lt_of_le (hl0 i hi) t1.size
          have hfar : ∀ q, V1.heap.size ≤ q → q ∉ w1.heap.size :: u11.ownBlock.toList := fun q hq hx => by
            rcases List.mem_cons.1 hx with h | h
            · omega
            · have := hrowL q h; omega
          have hsub : ∀ i ∈ [w1.heap.size], i < V.heap.size → i ∈ w1.heap.size :: u11.ownBlock.toList := fun i hi _ => by
            rw [List.mem_singleton] at hi; rw [hi]; exact List.mem_cons_self
          clear gc2 gc3 gc4 gfz
          rcases h8 with e8 | e8 | e8 | e8 | e8 | e8 | e8 | e8
          · rw [e8] at hpo
            clear e8
            go_wp2_with (first | (refine wpList_load_agg rfl 38 (.tmp 42) rfl (adr.add (m * 4)) rfl #[.int .i64 o, .int .i64 ya, .int .i64 yb, .int .i64 yc] _ hcr2 Tryd.underlying38 rfl (by kernel_rfl) ?_) | fail)
            refine (hpo _).mono ?_
            rintro e w2 ⟨rfl, rfl⟩
            rw [← hV1]
            clear hV1 hcr2
            go_wp2_with fail
            refine (hpa _).mono ?_
            rintro e w2 ⟨rfl, rfl⟩
            go_wp2_with fail
            go_meet
            have T : Tch [w1.heap.size] V ((V1.setCell ⟨w1.heap.size, 4, none⟩ (.slice (some ⟨V1.heap.size, 0, none⟩) 1 1)).alloc (.cells #[.int .i64 (ya % 5)] 3)) := (tV1.nil.setCell (.inl (by simp)) _).alloc _
            have hb : ((V1.setCell ⟨w1.heap.size, 4, none⟩ (.slice (some ⟨V1.heap.size, 0, none⟩) 1 1)).alloc (.cells #[.int .i64 (ya % 5)] 3)).heap[V1.heap.size]? = some (.cells #[.int .i64 (ya % 5)] 3 (0, 0)) := by
              have := heap_alloc_new (V1.setCell ⟨w1.heap.size, 4, none⟩ (.slice (some ⟨V1.heap.size, 0, none⟩) 1 1)) (.cells #[.int .i64 (ya % 5)] 3)
              rw [size_set] at this
              exact this
            refine ⟨⟨nameOf kk, [1, 2, 3, 4], (appI kk 0 c0 c1 c2).imports, (appI kk 0 c0 c1 c2).methods, [ya % 5]⟩, _, _, _, _, _, heap_past (box_set hgV1 4 _) _, ⟨_, _, _, _, rfl, j1.tch T hsub, j2.tch T hsub, j3.tch T hsub, src_block hb (hfar _ (Nat.le_refl _)) 1 1 (by decide) _ (fun j u hj => hj)⟩, ImgGood.of (by simp [appI]) (by simp) (by simp [appI]) (by simp [appI]) (by simp [appI]), T⟩
          · rw [e8] at hpo
            clear e8
            go_wp2_with (first | (refine wpList_load_agg rfl 38 (.tmp 42) rfl (adr.add (m * 4)) rfl #[.int .i64 o, .int .i64 ya, .int .i64 yb, .int .i64 yc] _ hcr2 Tryd.underlying38 rfl (by kernel_rfl) ?_) | fail)
            refine (hpo _).mono ?_
            rintro e w2 ⟨rfl, rfl⟩
            rw [← hV1]
            clear hV1 hcr2
            go_wp2_with fail
            go_meet
            have T : Tch [w1.heap.size] V (V1.setCell ⟨w1.heap.size, 4, none⟩ (.slice none 0 0)) := tV1.nil.setCell (.inl (by simp)) _
            refine ⟨⟨nameOf kk, [1, 2, 3, 4], (appI kk 0 c0 c1 c2).imports, (appI kk 0 c0 c1 c2).methods, []⟩, _, _, _, _, _, box_set hgV1 4 _, ⟨_, _, _, _, rfl, j1.tch T hsub, j2.tch T hsub, j3.tch T hsub, ⟨.inl ⟨rfl, rfl, rfl⟩⟩⟩, ImgGood.of (by simp [appI]) (by simp) (by simp [appI]) (by simp [appI]) (by simp [appI]), T⟩
          · rw [e8] at hpo
            clear e8
            go_wp2_with (first | (refine wpList_load_agg rfl 38 (.tmp 42) rfl (adr.add (m * 4)) rfl #[.int .i64 o, .int .i64 ya, .int .i64 yb, .int .i64 yc] _ hcr2 Tryd.underlying38 rfl (by kernel_rfl) ?_) | fail)
            refine (hpo _).mono ?_
            rintro e w2 ⟨rfl, rfl⟩
            rw [← hV1]
            clear hV1 hcr2
            obtain ⟨p0, p1, hS, hq0, hq1⟩ := RImps.two j2
            have o1 : ∀ {v : Value} {n : Nat}, (∃ a c, v = .slice a n c) → v.oneCell' = true := fun h => by obtain ⟨a, c, rfl⟩ := h; rfl
            simp only at hS hq0 hq1
            have h1c : ∀ u ∈ [str (nameOf (wrap64 (kk + 1))), .int .i64 0, p0, .int .i64 2, str (nameOf (wrap64 (wrap64 (kk + 1) + ((0 : Nat) : Int) % 3))), .int .i64 1, p1, .int .i64 3], u.oneCell' = true := by
              intro u hu
              simp only [List.mem_cons, List.mem_nil_iff, or_false] at hu
              rcases hu with rfl | rfl | rfl | rfl | rfl | rfl | rfl | rfl
              · rfl
              · rfl
              · exact o1 hq0.form
              · rfl
              · rfl
              · rfl
              · exact o1 hq1.form
              · rfl
            obtain ⟨ix, hix, hx0, hx1, hx2⟩ := info_parts info_imp
            have tE : Tch [] V1 (V1.alloc (.cells #[] 41)) := (Tch.refl [] V1).alloc _
            have hown0 : (V1.alloc (.cells #[] 41)).ownsRow 0 41 4 (.slice (some ⟨V1.heap.size, 0, none⟩) 0 0) 0 [] := World.ownsRow_lit V1 #[] 0 (Nat.zero_le _) (by decide) rfl
            have hsrc : Src (V1.alloc (.cells #[] 41)) [] (.slice ai 2 ci) 2 [str (nameOf (wrap64 (kk + 1))), .int .i64 0, p0, .int .i64 2, str (nameOf (wrap64 (wrap64 (kk + 1) + ((0 : Nat) : Int) % 3))), .int .i64 1, p1, .int .i64 3] := ((hS.tch tV1 (by simp)).tch tE (by simp)).mono (by simp)
            have hbnd : 0 + 2 ≤ 9223372036854775807 ∧ (0 + 2) * 56 ≤ 140737488355328 := by omega
            have kc : (V1.alloc (.cells #[] 41)).cell? ⟨w1.heap.size, 2, none⟩ = some (.slice ai 2 ci) := (World.cell?_alloc_past _ _ _ hgL).trans g2
            have kf : (V1.alloc (.cells #[] 41)).frozen? ⟨w1.heap.size, 2, none⟩ = false := (World.frozen?_alloc_past _ _ _ hgL).trans f2
            have hLE : w1.heap.size < (V1.alloc (.cells #[] 41)).heap.size := by simp; omega
            have hneE : some w1.heap.size ≠ (Value.slice (some ⟨V1.heap.size, 0, none⟩) 0 0).ownBlock := by simp [Value.ownBlock]; omega
            go_upto_region 15 with (at_builtin; refine wpList_append_any _ rfl (.tmp 59) (.tmp 61) 23 rfl 41 ix (.agg #[.string ⟨#[]⟩, .int .i64 0, .slice none 0 0, .int .i64 0]) 4 56 Tryd.underlying23 hix hx0 hx1 hx2 rfl (by decide) (.slice (some ⟨V1.heap.size, 0, none⟩) 0 0) 0 [] rfl hown0 [] (.slice ai 2 ci) 2 [str (nameOf (wrap64 (kk + 1))), .int .i64 0, p0, .int .i64 2, str (nameOf (wrap64 (wrap64 (kk + 1) + ((0 : Nat) : Int) % 3))), .int .i64 1, p1, .int .i64 3] rfl hsrc rfl h1c hbnd ?_; intro ao cap w3 hown hgrow hat; simp only [Nat.zero_add, List.nil_append] at hown hat ⊢; obtain ⟨gg, capg, eg, _, _⟩ := World.ownsRow.form hown (by simp); simp only [Value.slice.injEq] at eg; obtain ⟨rfl, _, rfl⟩ := eg; have kc6 := (hgrow.cell_far ⟨w1.heap.size, 2, none⟩ hLE hneE).trans kc; have kf6 := (hgrow.frozen_far ⟨w1.heap.size, 2, none⟩ hLE hneE).trans kf)
            have hgg : V1.heap.size ≤ gg := by
              rcases hat with e | e <;> simp [Value.ownBlock] at e <;> omega
            have t3 : Tch [] V1 w3 := tE.grown hgrow (fun k hk => by simp [Value.ownBlock] at hk; omega)
            have hgV3 : w3.heap[w1.heap.size]? = some (.cells #[.string ⟨(nameOf kk).toArray⟩, .slice af 4 cf, .slice ai 2 ci, .slice am 3 cm, .slice ae 2 ce] 26 (0, 0)) := by rw [t3.block _ hgL (by simp)]; exact hgV1
            obtain ⟨V4, hV4⟩ : ∃ V4, V4 = w3.setCell ⟨w1.heap.size, 2, none⟩ (.slice (some ⟨gg, 0, none⟩) 2 cap) := ⟨_, rfl⟩
            have T4 : Tch [w1.heap.size] V V4 := by rw [hV4]; exact ((tV1.then t3).nil).setCell (.inl (by simp)) _
            have T14 : Tch [w1.heap.size] V1 V4 := by rw [hV4]; exact t3.nil.setCell (.inl (by simp)) _
            have hg4 := box_set hgV3 2 (.slice (some ⟨gg, 0, none⟩) 2 cap)
            rw [← hV4] at hg4
            have ho4 : V4.ownsRow 0 41 4 (.slice (some ⟨gg, 0, none⟩) 2 cap) 2 [str (nameOf (wrap64 (kk + 1))), .int .i64 0, p0, .int .i64 2, str (nameOf (wrap64 (wrap64 (kk + 1) + ((0 : Nat) : Int) % 3))), .int .i64 1, p1, .int .i64 3] := by
              rw [hV4]
              exact ownsRow_tch hown ((Tch.refl [w1.heap.size] w3).setCell (.inl (by simp)) _) (fun k hk => by simp [Value.ownBlock] at hk; simp; omega)
            have cg4 : V4.cell? ⟨w1.heap.size, 2, none⟩ = some (.slice (some ⟨gg, 0, none⟩) 2 cap) := (cell_of_row _ _ 2 _ _ _ hg4).trans rfl
            have hVgg : V.heap.size ≤ gg := by omega
            have hggG : gg ≠ w1.heap.size := by omega
            have hz4 : gg < V4.heap.size := (World.ownsRow.lt ho4 gg rfl).2
            rw [← hV4]
            clear hV4 hown hgrow hat kc6 kf6 kc kf hsrc hown0 hgV3
            have cgg : V4.cell? ⟨gg, 2, none⟩ = some p0 := World.ownsRow.cellAt ho4 2 (by omega)
            have fgg : V4.frozen? ⟨gg, 2, none⟩ = false := World.ownsRow.frozenAt ho4 2
            go_wp2_with fail
            go_meet
            have T : Tch [w1.heap.size] V ((V4.setCell ⟨gg, 2, none⟩ (.slice (some ⟨V4.heap.size, 0, none⟩) 1 1)).alloc (.cells #[.int .i64 1] 3)) := (T4.setCell (.inr hVgg) _).alloc _
            have hb : ((V4.setCell ⟨gg, 2, none⟩ (.slice (some ⟨V4.heap.size, 0, none⟩) 1 1)).alloc (.cells #[.int .i64 1] 3)).heap[V4.heap.size]? = some (.cells #[.int .i64 1] 3 (0, 0)) := by
              have := heap_alloc_new (V4.setCell ⟨gg, 2, none⟩ (.slice (some ⟨V4.heap.size, 0, none⟩) 1 1)) (.cells #[.int .i64 1] 3)
              rw [size_set] at this
              exact this
            refine ⟨⟨nameOf kk, [1, 2, 3, 4], [⟨nameOf (wrap64 (kk + 1)), 0, [1], 2⟩, ⟨nameOf (wrap64 (wrap64 (kk + 1) + ((0 : Nat) : Int) % 3)), 1, [4, 3], 3⟩], (appI kk 0 c0 c1 c2).methods, [1, 2]⟩, _, _, _, _, _, heap_past (heap_far hg4 (fun h => hggG h.symm) _ _) _, ⟨_, _, _, _, rfl, j1.tch T hsub, RImps.mk2 (src_of_owns ((ho4.stored 2 (.slice (some ⟨V4.heap.size, 0, none⟩) 1 1)).1.alloc _) _ (fun k hk => by simp [Value.ownBlock] at hk; exact hk ▸ hfar _ hgg)) (src_block hb (hfar _ (by omega)) 1 1 (by decide) _ (fun j u hj => hj)) (hq1.tch T hsub), j3.tch T hsub, j4.tch T hsub⟩, ImgGood.of (by simp [appI]) (by simp) (by simp [appI]) (by simp [appI]) (by simp [appI]), T⟩
          · rw [e8] at hpo
            clear e8
            go_wp2_with (first | (refine wpList_load_agg rfl 38 (.tmp 42) rfl (adr.add (m * 4)) rfl #[.int .i64 o, .int .i64 ya, .int .i64 yb, .int .i64 yc] _ hcr2 Tryd.underlying38 rfl (by kernel_rfl) ?_) | fail)
            refine (hpo _).mono ?_
            rintro e w2 ⟨rfl, rfl⟩
            rw [← hV1]
            clear hV1 hcr2
            obtain ⟨p0, q0, k0, p1, q1, k1, p2, q2, k2, hS, m0, m1, m2⟩ := RMths.three j3
            have o1 : ∀ {v : Value} {n : Nat}, (∃ a c, v = .slice a n c) → v.oneCell' = true := fun h => by obtain ⟨a, c, rfl⟩ := h; rfl
            obtain ⟨_, _, _, e0, a1, a2, a3⟩ := id m0
            obtain ⟨_, _, _, e1, b1, b2, b3⟩ := id m1
            obtain ⟨_, _, _, e2, d1', d2', d3'⟩ := id m2
            simp only [List.cons.injEq, and_true] at e0 e1 e2
            obtain ⟨rfl, _, rfl, rfl⟩ := e0
            obtain ⟨rfl, _, rfl, rfl⟩ := e1
            obtain ⟨rfl, _, rfl, rfl⟩ := e2
            simp only at hS m0 m1 m2 a1 a2 a3 b1 b2 b3 d1' d2' d3'
            have h1c : ∀ u ∈ [p0, .int .i64 0, q0, k0, p1, .int .i64 2, q1, k1, p2, .int .i64 3, q2, k2], u.oneCell' = true := by
              intro u hu
              simp only [List.mem_cons, List.mem_nil_iff, or_false] at hu
              rcases hu with rfl | rfl | rfl | rfl | rfl | rfl | rfl | rfl | rfl | rfl | rfl | rfl
              · exact o1 a1.form
              · rfl
              · exact o1 a2.form
              · exact o1 a3.form
              · exact o1 b1.form
              · rfl
              · exact o1 b2.form
              · exact o1 b3.form
              · exact o1 d1'.form
              · rfl
              · exact o1 d2'.form
              · exact o1 d3'.form
            obtain ⟨ix, hix, hx0, hx1, hx2⟩ := info_parts info_mth
            have tE : Tch [] V1 (V1.alloc (.cells #[] 33)) := (Tch.refl [] V1).alloc _
            have hown0 : (V1.alloc (.cells #[] 33)).ownsRow 0 33 4 (.slice (some ⟨V1.heap.size, 0, none⟩) 0 0) 0 [] := World.ownsRow_lit V1 #[] 0 (Nat.zero_le _) (by decide) rfl
            have hsrc : Src (V1.alloc (.cells #[] 33)) [] (.slice am 3 cm) 3 [p0, .int .i64 0, q0, k0, p1, .int .i64 2, q1, k1, p2, .int .i64 3, q2, k2] := ((hS.tch tV1 (by simp)).tch tE (by simp)).mono (by simp)
            have hbnd : 0 + 3 ≤ 9223372036854775807 ∧ (0 + 3) * 80 ≤ 140737488355328 := by omega
            have kc : (V1.alloc (.cells #[] 33)).cell? ⟨w1.heap.size, 3, none⟩ = some (.slice am 3 cm) := (World.cell?_alloc_past _ _ _ hgL).trans g3
            have kf : (V1.alloc (.cells #[] 33)).frozen? ⟨w1.heap.size, 3, none⟩ = false := (World.frozen?_alloc_past _ _ _ hgL).trans f3
            have hLE : w1.heap.size < (V1.alloc (.cells #[] 33)).heap.size := by simp; omega
            have hneE : some w1.heap.size ≠ (Value.slice (some ⟨V1.heap.size, 0, none⟩) 0 0).ownBlock := by simp [Value.ownBlock]; omega
            go_upto_region 18 with (at_builtin; refine wpList_append_any _ rfl (.tmp 71) (.tmp 73) 24 rfl 33 ix (.agg #[.slice none 0 0, .int .i64 0, .slice none 0 0, .slice none 0 0]) 4 80 Tryd.underlying24 hix hx0 hx1 hx2 rfl (by decide) (.slice (some ⟨V1.heap.size, 0, none⟩) 0 0) 0 [] rfl hown0 [] (.slice am 3 cm) 3 [p0, .int .i64 0, q0, k0, p1, .int .i64 2, q1, k1, p2, .int .i64 3, q2, k2] rfl hsrc rfl h1c hbnd ?_; intro ao cap w3 hown hgrow hat; simp only [Nat.zero_add, List.nil_append] at hown hat ⊢; obtain ⟨gg, capg, eg, _, _⟩ := World.ownsRow.form hown (by simp); simp only [Value.slice.injEq] at eg; obtain ⟨rfl, _, rfl⟩ := eg; have kc6 := (hgrow.cell_far ⟨w1.heap.size, 3, none⟩ hLE hneE).trans kc; have kf6 := (hgrow.frozen_far ⟨w1.heap.size, 3, none⟩ hLE hneE).trans kf)
            have hgg : V1.heap.size ≤ gg := by
              rcases hat with e | e <;> simp [Value.ownBlock] at e <;> omega
            have t3 : Tch [] V1 w3 := tE.grown hgrow (fun k hk => by simp [Value.ownBlock] at hk; omega)
            have hgV3 : w3.heap[w1.heap.size]? = some (.cells #[.string ⟨(nameOf kk).toArray⟩, .slice af 4 cf, .slice ai 2 ci, .slice am 3 cm, .slice ae 2 ce] 26 (0, 0)) := by rw [t3.block _ hgL (by simp)]; exact hgV1
            obtain ⟨V4, hV4⟩ : ∃ V4, V4 = w3.setCell ⟨w1.heap.size, 3, none⟩ (.slice (some ⟨gg, 0, none⟩) 3 cap) := ⟨_, rfl⟩
            have T4 : Tch [w1.heap.size] V V4 := by rw [hV4]; exact ((tV1.then t3).nil).setCell (.inl (by simp)) _
            have T14 : Tch [w1.heap.size] V1 V4 := by rw [hV4]; exact t3.nil.setCell (.inl (by simp)) _
            have hg4 := box_set hgV3 3 (.slice (some ⟨gg, 0, none⟩) 3 cap)
            rw [← hV4] at hg4
            have ho4 : V4.ownsRow 0 33 4 (.slice (some ⟨gg, 0, none⟩) 3 cap) 3 [p0, .int .i64 0, q0, k0, p1, .int .i64 2, q1, k1, p2, .int .i64 3, q2, k2] := by
              rw [hV4]
              exact ownsRow_tch hown ((Tch.refl [w1.heap.size] w3).setCell (.inl (by simp)) _) (fun k hk => by simp [Value.ownBlock] at hk; simp; omega)
            have cg4 : V4.cell? ⟨w1.heap.size, 3, none⟩ = some (.slice (some ⟨gg, 0, none⟩) 3 cap) := (cell_of_row _ _ 3 _ _ _ hg4).trans rfl
            have hVgg : V.heap.size ≤ gg := by omega
            have hggG : gg ≠ w1.heap.size := by omega
            have hz4 : gg < V4.heap.size := (World.ownsRow.lt ho4 gg rfl).2
            rw [← hV4]
            clear hV4 hown hgrow hat kc6 kf6 kc kf hsrc hown0 hgV3
            have cgg : V4.cell? ⟨gg, 4, none⟩ = some p1 := World.ownsRow.cellAt ho4 4 (by omega)
            have fgg : V4.frozen? ⟨gg, 4, none⟩ = false := World.ownsRow.frozenAt ho4 4
            go_wp2_with fail
            go_meet
            have T : Tch [w1.heap.size] V ((V4.setCell ⟨gg, 4, none⟩ (.slice (some ⟨V4.heap.size, 0, none⟩) 2 2)).alloc (.cells #[.int .i64 1, .int .i64 1] 3)) := (T4.setCell (.inr hVgg) _).alloc _
            have hb : ((V4.setCell ⟨gg, 4, none⟩ (.slice (some ⟨V4.heap.size, 0, none⟩) 2 2)).alloc (.cells #[.int .i64 1, .int .i64 1] 3)).heap[V4.heap.size]? = some (.cells #[.int .i64 1, .int .i64 1] 3 (0, 0)) := by
              have := heap_alloc_new (V4.setCell ⟨gg, 4, none⟩ (.slice (some ⟨V4.heap.size, 0, none⟩) 2 2)) (.cells #[.int .i64 1, .int .i64 1] 3)
              rw [size_set] at this
              exact this
            refine ⟨⟨nameOf kk, [1, 2, 3, 4], (appI kk 0 c0 c1 c2).imports, [⟨[], 0, [1, 2, 3, 4], c0⟩, ⟨[1, 1], 2, [1, 2, 3, 4], c1⟩, ⟨[4, 3], 3, [1, 2], c2⟩], [1, 2]⟩, _, _, _, _, _, heap_past (heap_far hg4 (fun h => hggG h.symm) _ _) _, ⟨_, _, _, _, rfl, j1.tch T hsub, j2.tch T hsub, RMths.mk3 (a := [p0, .int .i64 0, q0, k0]) (b := [(.slice (some ⟨V4.heap.size, 0, none⟩) 2 2), .int .i64 2, q1, k1]) (c := [p2, .int .i64 3, q2, k2]) (src_of_owns ((ho4.stored 4 (.slice (some ⟨V4.heap.size, 0, none⟩) 2 2)).1.alloc _) _ (fun k hk => by simp [Value.ownBlock] at hk; exact hk ▸ hfar _ hgg)) (m0.tch T hsub) ⟨_, _, _, rfl, src_block hb (hfar _ (by omega)) 2 2 (by decide) _ (fun j u hj => hj), b2.tch T hsub, b3.tch T hsub⟩ (m2.tch T hsub), j4.tch T hsub⟩, ImgGood.of (by simp [appI]) (by simp) (by simp [appI]) (by simp [appI]) (by simp [appI]), T⟩
          · rw [e8] at hpo
            clear e8
            go_wp2_with (first | (refine wpList_load_agg rfl 38 (.tmp 42) rfl (adr.add (m * 4)) rfl #[.int .i64 o, .int .i64 ya, .int .i64 yb, .int .i64 yc] _ hcr2 Tryd.underlying38 rfl (by kernel_rfl) ?_) | fail)
            refine (hpo _).mono ?_
            rintro e w2 ⟨rfl, rfl⟩
            rw [← hV1]
            clear hV1 hcr2
            obtain ⟨p0, p1, hS, hq0, hq1⟩ := RImps.two j2
            have o1 : ∀ {v : Value} {n : Nat}, (∃ a c, v = .slice a n c) → v.oneCell' = true := fun h => by obtain ⟨a, c, rfl⟩ := h; rfl
            simp only at hS hq0 hq1
            have h1c : ∀ u ∈ [str (nameOf (wrap64 (kk + 1))), .int .i64 0, p0, .int .i64 2, str (nameOf (wrap64 (wrap64 (kk + 1) + ((0 : Nat) : Int) % 3))), .int .i64 1, p1, .int .i64 3], u.oneCell' = true := by
              intro u hu
              simp only [List.mem_cons, List.mem_nil_iff, or_false] at hu
              rcases hu with rfl | rfl | rfl | rfl | rfl | rfl | rfl | rfl
              · rfl
              · rfl
              · exact o1 hq0.form
              · rfl
              · rfl
              · rfl
              · exact o1 hq1.form
              · rfl
            obtain ⟨ix, hix, hx0, hx1, hx2⟩ := info_parts info_imp
            have tE : Tch [] V1 (V1.alloc (.cells #[] 41)) := (Tch.refl [] V1).alloc _
            have hown0 : (V1.alloc (.cells #[] 41)).ownsRow 0 41 4 (.slice (some ⟨V1.heap.size, 0, none⟩) 0 0) 0 [] := World.ownsRow_lit V1 #[] 0 (Nat.zero_le _) (by decide) rfl
            have hsrc : Src (V1.alloc (.cells #[] 41)) [] (.slice ai 2 ci) 2 [str (nameOf (wrap64 (kk + 1))), .int .i64 0, p0, .int .i64 2, str (nameOf (wrap64 (wrap64 (kk + 1) + ((0 : Nat) : Int) % 3))), .int .i64 1, p1, .int .i64 3] := ((hS.tch tV1 (by simp)).tch tE (by simp)).mono (by simp)
            have hbnd : 0 + 2 ≤ 9223372036854775807 ∧ (0 + 2) * 56 ≤ 140737488355328 := by omega
            have kc : (V1.alloc (.cells #[] 41)).cell? ⟨w1.heap.size, 2, none⟩ = some (.slice ai 2 ci) := (World.cell?_alloc_past _ _ _ hgL).trans g2
            have kf : (V1.alloc (.cells #[] 41)).frozen? ⟨w1.heap.size, 2, none⟩ = false := (World.frozen?_alloc_past _ _ _ hgL).trans f2
            have hLE : w1.heap.size < (V1.alloc (.cells #[] 41)).heap.size := by simp; omega
            have hneE : some w1.heap.size ≠ (Value.slice (some ⟨V1.heap.size, 0, none⟩) 0 0).ownBlock := by simp [Value.ownBlock]; omega
            go_upto_region 21 with (at_builtin; refine wpList_append_any _ rfl (.tmp 83) (.tmp 85) 23 rfl 41 ix (.agg #[.string ⟨#[]⟩, .int .i64 0, .slice none 0 0, .int .i64 0]) 4 56 Tryd.underlying23 hix hx0 hx1 hx2 rfl (by decide) (.slice (some ⟨V1.heap.size, 0, none⟩) 0 0) 0 [] rfl hown0 [] (.slice ai 2 ci) 2 [str (nameOf (wrap64 (kk + 1))), .int .i64 0, p0, .int .i64 2, str (nameOf (wrap64 (wrap64 (kk + 1) + ((0 : Nat) : Int) % 3))), .int .i64 1, p1, .int .i64 3] rfl hsrc rfl h1c hbnd ?_; intro ao cap w3 hown hgrow hat; simp only [Nat.zero_add, List.nil_append] at hown hat ⊢; obtain ⟨gg, capg, eg, _, _⟩ := World.ownsRow.form hown (by simp); simp only [Value.slice.injEq] at eg; obtain ⟨rfl, _, rfl⟩ := eg; have kc6 := (hgrow.cell_far ⟨w1.heap.size, 2, none⟩ hLE hneE).trans kc; have kf6 := (hgrow.frozen_far ⟨w1.heap.size, 2, none⟩ hLE hneE).trans kf)
            have hgg : V1.heap.size ≤ gg := by
              rcases hat with e | e <;> simp [Value.ownBlock] at e <;> omega
            have t3 : Tch [] V1 w3 := tE.grown hgrow (fun k hk => by simp [Value.ownBlock] at hk; omega)
            have hgV3 : w3.heap[w1.heap.size]? = some (.cells #[.string ⟨(nameOf kk).toArray⟩, .slice af 4 cf, .slice ai 2 ci, .slice am 3 cm, .slice ae 2 ce] 26 (0, 0)) := by rw [t3.block _ hgL (by simp)]; exact hgV1
            obtain ⟨V4, hV4⟩ : ∃ V4, V4 = w3.setCell ⟨w1.heap.size, 2, none⟩ (.slice (some ⟨gg, 0, none⟩) 2 cap) := ⟨_, rfl⟩
            have T4 : Tch [w1.heap.size] V V4 := by rw [hV4]; exact ((tV1.then t3).nil).setCell (.inl (by simp)) _
            have T14 : Tch [w1.heap.size] V1 V4 := by rw [hV4]; exact t3.nil.setCell (.inl (by simp)) _
            have hg4 := box_set hgV3 2 (.slice (some ⟨gg, 0, none⟩) 2 cap)
            rw [← hV4] at hg4
            have ho4 : V4.ownsRow 0 41 4 (.slice (some ⟨gg, 0, none⟩) 2 cap) 2 [str (nameOf (wrap64 (kk + 1))), .int .i64 0, p0, .int .i64 2, str (nameOf (wrap64 (wrap64 (kk + 1) + ((0 : Nat) : Int) % 3))), .int .i64 1, p1, .int .i64 3] := by
              rw [hV4]
              exact ownsRow_tch hown ((Tch.refl [w1.heap.size] w3).setCell (.inl (by simp)) _) (fun k hk => by simp [Value.ownBlock] at hk; simp; omega)
            have cg4 : V4.cell? ⟨w1.heap.size, 2, none⟩ = some (.slice (some ⟨gg, 0, none⟩) 2 cap) := (cell_of_row _ _ 2 _ _ _ hg4).trans rfl
            have hVgg : V.heap.size ≤ gg := by omega
            have hggG : gg ≠ w1.heap.size := by omega
            have hz4 : gg < V4.heap.size := (World.ownsRow.lt ho4 gg rfl).2
            rw [← hV4]
            clear hV4 hown hgrow hat kc6 kf6 kc kf hsrc hown0 hgV3
            have cgg : V4.cell? ⟨gg, 1, none⟩ = some (.int .i64 0) := World.ownsRow.cellAt ho4 1 (by omega)
            have fgg : V4.frozen? ⟨gg, 1, none⟩ = false := World.ownsRow.frozenAt ho4 1
            have y4 : V4.cell? ⟨V.heap.size, 1, none⟩ = some (.int .i64 ya) := by
              rw [T14.cell (cell_lt hy1) (by simp; omega)]; exact hy1
            have ho4d : V4.drew.ownsRow 0 41 4 (.slice (some ⟨gg, 0, none⟩) 2 cap) 2 [str (nameOf (wrap64 (kk + 1))), .int .i64 0, p0, .int .i64 2, str (nameOf (wrap64 (wrap64 (kk + 1) + ((0 : Nat) : Int) % 3))), .int .i64 1, p1, .int .i64 3] := ownsRow_tch ho4 ((Tch.refl [] V4).drew) (by simp)
            go_still_tail 7, (by kernel_rfl)
            still_call ((hp4 _).mono fun _ _ h => ⟨h.1, h.2.symm⟩)
            repeat still_step
            refine wpStill_nil ?_
            go_wp2_with fail
            go_meet
            have T : Tch [w1.heap.size] V (V4.drew.setCell ⟨gg, 1, none⟩ (.int .i64 (ya % 4))) := T4.drew.setCell (.inr hVgg) _
            refine ⟨⟨nameOf kk, [1, 2, 3, 4], [⟨nameOf (wrap64 (kk + 1)), ya % 4, [1, 2], 2⟩, ⟨nameOf (wrap64 (wrap64 (kk + 1) + ((0 : Nat) : Int) % 3)), 1, [4, 3], 3⟩], (appI kk 0 c0 c1 c2).methods, [1, 2]⟩, _, _, _, _, _, heap_far hg4 (fun h => hggG h.symm) _ _, ⟨_, _, _, _, rfl, j1.tch T hsub, RImps.mk2 (src_of_owns (ho4d.stored 1 (.int .i64 (ya % 4))).1 _ (fun k hk => by simp [Value.ownBlock] at hk; exact hk ▸ hfar _ hgg)) (hq0.tch T hsub) (hq1.tch T hsub), j3.tch T hsub, j4.tch T hsub⟩, ImgGood.of (by simp [appI]) (by simp) (by simp [appI]) (by simp [appI]) (by simp [appI]), T⟩
          · rw [e8] at hpo
            clear e8
            go_wp2_with (first | (refine wpList_load_agg rfl 38 (.tmp 42) rfl (adr.add (m * 4)) rfl #[.int .i64 o, .int .i64 ya, .int .i64 yb, .int .i64 yc] _ hcr2 Tryd.underlying38 rfl (by kernel_rfl) ?_) | fail)
            refine (hpo _).mono ?_
            rintro e w2 ⟨rfl, rfl⟩
            rw [← hV1]
            clear hV1 hcr2
            go_wp2_with fail
            go_meet
            have T : Tch [w1.heap.size] V V1 := tV1.nil
            exact ⟨_, _, _, _, _, _, hgV1, hI2.tch T hsub, appI_good _ _ _ _ _, T⟩
          · rw [e8] at hpo
            clear e8
            go_wp2_with (first | (refine wpList_load_agg rfl 38 (.tmp 42) rfl (adr.add (m * 4)) rfl #[.int .i64 o, .int .i64 ya, .int .i64 yb, .int .i64 yc] _ hcr2 Tryd.underlying38 rfl (by kernel_rfl) ?_) | fail)
            refine (hpo _).mono ?_
            rintro e w2 ⟨rfl, rfl⟩
            rw [← hV1]
            clear hV1 hcr2
            go_wp2_with fail
            go_meet
            have T : Tch [w1.heap.size] V V1 := tV1.nil
            exact ⟨_, _, _, _, _, _, hgV1, hI2.tch T hsub, appI_good _ _ _ _ _, T⟩
          · rw [e8] at hpo
            clear e8
            go_wp2_with (first | (refine wpList_load_agg rfl 38 (.tmp 42) rfl (adr.add (m * 4)) rfl #[.int .i64 o, .int .i64 ya, .int .i64 yb, .int .i64 yc] _ hcr2 Tryd.underlying38 rfl (by kernel_rfl) ?_) | fail)
            refine (hpo _).mono ?_
            rintro e w2 ⟨rfl, rfl⟩
            rw [← hV1]
            clear hV1 hcr2
            go_wp2_with fail
            go_meet
            have T : Tch [w1.heap.size] V V1 := tV1.nil
            exact ⟨_, _, _, _, _, _, hgV1, hI2.tch T hsub, appI_good _ _ _ _ _, T⟩
        · go_wp2_with fail
          go_meet
          exact ⟨_, _, _, _, _, _, hgV, hI2, appI_good _ _ _ _ _, Tch.refl _ _⟩
      case rest =>
        obtain ⟨img, x0, x1, x2, x3, x4, hgc, hRc, hgood, Tc⟩ := hcut
        clear hI2 j1 j2 j3 j4 hgV hel
        obtain ⟨vf', vi', vm', ve', e5, r1, r2, r3, r4⟩ := id hRc
        obtain ⟨w3', w4', rfl⟩ := r1.form
        obtain ⟨w5', w6', rfl⟩ := r2.form
        obtain ⟨w7', w8', rfl⟩ := r3.form
        obtain ⟨w9', w10', rfl⟩ := r4.form
        simp only [List.cons.injEq, and_true] at e5
        obtain ⟨rfl, rfl, rfl, rfl, rfl⟩ := e5
        clear r1 r2 r3 r4
        unfold str at hgc hRc
        have k0 := (cell_of_row wc _ 0 _ _ _ hgc)
        have k1 := (cell_of_row wc _ 1 _ _ _ hgc)
        have k2 := (cell_of_row wc _ 2 _ _ _ hgc)
        have k3 := (cell_of_row wc _ 3 _ _ _ hgc)
        have k4 := (cell_of_row wc _ 4 _ _ _ hgc)
        simp at k0 k1 k2 k3 k4
        obtain ⟨css, hcl, hco, hci⟩ := hI.ex
        obtain ⟨ou, cu, rfl⟩ := ownsRow_form hco
        have z1 := t1.size
        have Twc : Tch [] wr wc := (t1.then tV).trans Tc (by simp) (fun i hi hx => by simp at hx; omega)
        have zc := Twc.size
        have hZ1 : ∀ (x : Array Value), (wc.alloc (.cells x 26)).ownsRow 0 26 5 (.slice ou l.length cu) l.length css.flatten := fun x => (ownsRow_tch hco Twc (by simp)).alloc _
        have hbnd : l.length + 1 ≤ 9223372036854775807 ∧ (l.length + 1) * 112 ≤ 140737488355328 := by omega
        go_wp2_with (at_builtin; refine wpList_append_any _ rfl (.tmp 95) (.tmp 97) 28 rfl 26 i0 (.agg #[.string ⟨#[]⟩, .slice none 0 0, .slice none 0 0, .slice none 0 0, .slice none 0 0]) 5 112 Tryd.underlying28 hi hz0 hz1 hz2 rfl (by decide) (.slice ou l.length cu) l.length css.flatten rfl (hZ1 _) [] _ 1 _ rfl (src_new wc _ [] _ 26 1 1 (Tch.refl [] _) (by simp)) rfl (by intro u hu; simp at hu; rcases hu with rfl | rfl | rfl | rfl | rfl <;> rfl) hbnd ?_; intro ao cap w9 hown hgrow hat)
        have T9 : Tch [] W w9 := ((hI.t.then Twc).alloc _).grown hgrow (fun g hg => .inr (hI.new g hg))
        have hown' : w9.ownsRow 0 26 5 (.slice ao (l ++ [img]).length cap) (l ++ [img]).length (css ++ [([.string ⟨img.name.toArray⟩, .slice w3' img.fields.length w4', .slice w5' img.imports.length w6', .slice w7' img.methods.length w8', .slice w9' img.exports.length w10'] : List Value)]).flatten := by
          simpa using hown
        go_roundw
        case rel =>
          have hlm := HLM.out
          refine ⟨m + 1, l ++ [img], by omega, by omega, by go_num, by simp; omega, ?_⟩
          have hat' : ∀ i ∈ (Value.slice ao (l.length + 1) cap).ownBlock.toList, i < wc.heap.size → i ∈ (Value.slice ou l.length cu).ownBlock.toList := fun i hi hlt => by
            rcases hat with e | e
            · rw [e] at hi; exact hi
            · rw [e] at hi; simp at hi; omega
          have Tc9 : Tch (Value.slice ou l.length cu).ownBlock.toList wc w9 := ((Tch.refl [] wc).alloc _).nil.grown hgrow (fun g hg => .inl (by simpa using hg))
          have Tr9 : Tch (Value.slice ou l.length cu).ownBlock.toList wr w9 := Twc.trans Tc9 (by simp) (fun i _ h => h)
          refine ⟨⟨css ++ [_], by simp [hcl], by simpa using hown', fun kx cs x h1 h2 => ?_⟩, fun i hi => ?_, fun g hg => ?_, T9⟩
          · by_cases hkx : kx < css.length
            · rw [List.getElem?_append_left hkx] at h1
              rw [List.getElem?_append_left (by omega)] at h2
              exact ((((hci kx cs x h1 h2).mono (L' := (Value.slice ou l.length cu).ownBlock.toList ++ (Value.slice ao (l.length + 1) cap).ownBlock.toList) (fun i hi hlt => by
                rcases List.mem_append.1 hi with h | h
                · exact h
                · exact hat' i h (by omega))).tch Tr9 (fun i hi _ => List.mem_append_left _ hi)).mono (fun i hi _ => List.mem_append_right _ hi))
            · rw [List.getElem?_append_right (by omega)] at h1
              rw [List.getElem?_append_right (by omega)] at h2
              have hk0 : kx - css.length = 0 := by
                have := (List.getElem?_eq_some_iff.1 h1).1
                simp at this
                omega
              rw [hk0] at h1
              rw [show kx - l.length = 0 by omega] at h2
              simp only [List.getElem?_cons_zero, Option.some.injEq] at h1 h2
              subst h1; subst h2
              exact ((hRc.mono (L' := (w1.heap.size :: (Value.slice ou l.length cu).ownBlock.toList) ++ (Value.slice ao (l.length + 1) cap).ownBlock.toList) (fun i hi hlt => by
                rcases List.mem_append.1 hi with h | h
                · exact h
                · exact List.mem_cons_of_mem _ (hat' i h hlt))).tch Tc9 (fun i hi _ => List.mem_append_left _ (List.mem_cons_of_mem _ hi))).mono (fun i hi _ => List.mem_append_right _ hi)
          · rcases List.mem_append.1 hi with h | h
            · exact hI.good i h
            · simp at h; subst h; exact hgood
          · rcases hat with e | e
            · exact hI.new g (e ▸ hg)
            · rw [e] at hg
              have := hI.t.size
              simp at hg
              omega
        case measure => simp [intOf]; omega
    · skip
      have hIm := hI.imgs
      have hgd : ∀ i ∈ l, ImgGood i := hI.good
      have ht := hI.t
      have hmx : ¬ m < l0.length ∨ (m < l0.length ∧ m = 4) := by omega
      obtain ⟨ou, cu, rfl⟩ := hIm.form
      clear hI hel hr hs0 hgo hm1 hm4
      rcases hmx with hmx | ⟨hmx, rfl⟩
      all_goals
        go_upto_if 101 with fail
        go_cut [2, 3, 4] (fun va vk vn wz => ∃ (a' k' : Int) (nm' : List UInt8), va = .int .i64 a' ∧ vk = .int .i64 k' ∧ vn = .string ⟨nm'.toArray⟩ ∧ wr = wz)
        case first =>
          by_cases hk5 : 0 < k.tmod 5
          · go_wp2_with fail
            refine (hand_Pick a 5 ha (by omega) (by omega) _).mono ?_
            rintro e w1 ⟨rfl, rfl⟩
            go_wp2_with fail
            refine (hand_Pick k 3 hk (by omega) (by omega) _).mono ?_
            rintro e w1 ⟨rfl, rfl⟩
            go_wp2_with fail
            refine (hand_Name _ _ (by unfold I6; omega)).mono ?_
            rintro e w1 ⟨rfl, rfl⟩
            go_wp2_with fail
            go_meet
            exact ⟨_, _, _, rfl, rfl, rfl, rfl⟩
          · go_wp2_with fail
            go_meet
            exact ⟨_, _, _, rfl, rfl, rfl, rfl⟩
        case rest =>
          obtain ⟨a', k', nm', rfl, rfl, rfl, rfl⟩ := hcut
          have hC1 := lk_resolve wr _ l hIm (by omega) hgd a' k'
          have hC2 := fun W t => lk_rresolve W _ l (hIm.tch t) (by omega) hgd a' k'
          have hC3 := fun W t => lk_known W ((hG.tch ht).tch t)
          have hC4 := fun W t => lk_find W _ l nm' (hIm.tch t) (by omega)
          have hC5 := fun W t => lk_rfind W _ l nm' (hIm.tch t) (by omega)
          unfold trip at hC1 hC2
          unfold str at hC4 hC5
          generalize resolveI l a' k' = RE at *
          generalize findI l nm' = FI at *
          obtain ⟨e1, e2, e3⟩ := RE
          simp only at hC1 hC2
          go_wp2_with fail
          refine hC1.mono ?_
          rintro e w1 ⟨rfl, t1⟩
          go_wp2_with fail
          refine (hC2 _ t1).mono ?_
          rintro e w2 ⟨rfl, t2⟩
          go_wp2_with fail
          refine (hC3 _ (t1.then t2)).mono ?_
          rintro e w3 ⟨rfl, t3⟩
          go_wp2_with fail
          refine (hC4 _ ((t1.then t2).then t3)).mono ?_
          rintro e w4 ⟨rfl, t4⟩
          go_wp2_with fail
          refine (hC5 _ (((t1.then t2).then t3).then t4)).mono ?_
          rintro e w5 ⟨rfl, t5⟩
          go_wp2_with fail
          go_ret
          exact ⟨rfl, ((((ht.then t1).then t2).then t3).then t4).then t5⟩
end Go.Proofs.YtkakoefdfjooeaaDoor
