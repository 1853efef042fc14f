/-
  STATEMENT: LinkKnown: chapter 11's example, and more: the walk. Conditions: none.
-/
import Derived.Test.YtkakoefdfjooeaaDoorApp
import Derived.Test.YtkakoefdfjooeaaDoorLnk2
namespace Go.Tcn
open Go.RowKit
set_option linter.unusedVariables false
set_option linter.unusedSimpArgs false
def ImgGood (i : Img) : Prop := i.imports.length ≤ 1000 ∧ i.exports.length ≤ 1000 ∧ i.methods.length ≤ 1000 ∧ (∀ x ∈ i.imports, x.params.length ≤ 1000) ∧ (∀ x ∈ i.methods, x.params.length ≤ 1000)
theorem RImgs.of {w : World} {v : Value} {css : List (List Value)} {l : List Img} (h1 : css.length = l.length) (h3 : Src w [] v l.length css.flatten) (h4 : ∀ (k : Nat) cs x, css[k]? = some cs → l[k]? = some x → RImg w [] cs x) : RImgs w v l := by
  refine ⟨⟨css, h1, fun cs hcs => ?_, h3, h4⟩⟩
  obtain ⟨k, hk, rfl⟩ := List.getElem_of_mem hcs
  obtain ⟨vf, vi, vm, ve, e, _⟩ := h4 k css[k] (l[k]'(by omega)) (by simp [hk]) (by simp [h1 ▸ hk])
  rw [e]; rfl
theorem appI_good (k : Int) (n : Nat) (c0 c1 c2 : List Ins) : ImgGood (appI k n c0 c1 c2) := by
  unfold ImgGood appI
  simp
/-- Three methods, cell by cell. -/
theorem RMths.three {w : World} {L : List Nat} {v : Value} {m0 m1 m2 : Mth} (h : RMths w L v [m0, m1, m2]) : ∃ p0 l0 c0 p1 l1 c1 p2 l2 c2, Src w L v 3 [p0, .int .i64 m0.result, l0, c0, p1, .int .i64 m1.result, l1, c1, p2, .int .i64 m2.result, l2, c2] ∧ RMth w L [p0, .int .i64 m0.result, l0, c0] m0 ∧ RMth w L [p1, .int .i64 m1.result, l1, c1] m1 ∧ RMth w L [p2, .int .i64 m2.result, l2, c2] m2 := by
  obtain ⟨css, h1, h2, h3, h4⟩ := h.ex
  match css, h1 with
  | [a, b, c], _ =>
    have ha := h4 0 a m0 rfl rfl
    have hb := h4 1 b m1 rfl rfl
    have hc := h4 2 c m2 rfl rfl
    obtain ⟨p0, l0, c0, rfl, a1, a2, a3⟩ := ha
    obtain ⟨p1, l1, c1, rfl, b1, b2, b3⟩ := hb
    obtain ⟨p2, l2, c2, rfl, d1, d2, d3⟩ := hc
    exact ⟨p0, l0, c0, p1, l1, c1, p2, l2, c2, h3, ⟨_, _, _, rfl, a1, a2, a3⟩, ⟨_, _, _, rfl, b1, b2, b3⟩, ⟨_, _, _, rfl, d1, d2, d3⟩⟩
theorem RMths.mk3 {w : World} {L : List Nat} {v : Value} {m0 m1 m2 : Mth} {a b c : List Value} (h : Src w L v 3 (a ++ b ++ c)) (ha : RMth w L a m0) (hb : RMth w L b m1) (hc : RMth w L c m2) : RMths w L v [m0, m1, m2] := by
  refine ⟨⟨[a, b, c], rfl, fun cs hcs => ?_, by simpa using h, fun k cs x e1 e2 => ?_⟩⟩
  · obtain ⟨_, _, _, rfl, _⟩ := ha
    obtain ⟨_, _, _, rfl, _⟩ := hb
    obtain ⟨_, _, _, rfl, _⟩ := hc
    simp at hcs
    rcases hcs with rfl | rfl | rfl <;> rfl
  · rcases k with _ | _ | _ | k
    · simp at e1 e2; subst e1; subst e2; exact ha
    · simp at e1 e2; subst e1; subst e2; exact hb
    · simp at e1 e2; subst e1; subst e2; exact hc
    · simp at e1
/-- Two imports, cell by cell. -/
theorem RImps.two {w : World} {L : List Nat} {v : Value} {m0 m1 : Imp} (h : RImps w L v [m0, m1]) : ∃ p0 p1, Src w L v 2 [str m0.name, .int .i64 m0.exp, p0, .int .i64 m0.result, str m1.name, .int .i64 m1.exp, p1, .int .i64 m1.result] ∧ RInts w L p0 m0.params ∧ RInts w L p1 m1.params := by
  obtain ⟨css, h1, h2, h3, h4⟩ := h.ex
  match css, h1 with
  | [a, b], _ =>
    have ha := h4 0 a m0 rfl rfl
    have hb := h4 1 b m1 rfl rfl
    obtain ⟨p0, rfl, a1⟩ := ha
    obtain ⟨p1, rfl, b1⟩ := hb
    exact ⟨p0, p1, h3, a1, b1⟩
theorem RImps.mk2 {w : World} {L : List Nat} {v : Value} {m0 m1 : Imp} {p0 p1 : Value} (h : Src w L v 2 [str m0.name, .int .i64 m0.exp, p0, .int .i64 m0.result, str m1.name, .int .i64 m1.exp, p1, .int .i64 m1.result]) (ha : RInts w L p0 m0.params) (hb : RInts w L p1 m1.params) : RImps w L v [m0, m1] := by
  refine ⟨⟨[[str m0.name, .int .i64 m0.exp, p0, .int .i64 m0.result], [str m1.name, .int .i64 m1.exp, p1, .int .i64 m1.result]], rfl, fun cs hcs => ?_, by simpa using h, fun k cs x e1 e2 => ?_⟩⟩
  · simp at hcs
    rcases hcs with rfl | rfl <;> rfl
  · rcases k with _ | _ | k
    · simp at e1 e2; subst e1; subst e2; exact ⟨_, rfl, ha⟩
    · simp at e1 e2; subst e1; subst e2; exact ⟨_, rfl, hb⟩
    · simp at e1
end Go.Tcn
namespace Go.Proofs.YtkakoefdfjooeaaDoor
open Go.RowKit Go.Tcn
set_option linter.unusedVariables false
set_option linter.unusedSimpArgs false

theorem info_mth : (Tryd.prog.info? 33).map (fun i => (i.zero, i.size, i.bytes)) = some (some (.agg #[.slice none 0 0, .int .i64 0, .slice none 0 0, .slice none 0 0]), 4, 80) := by kernel_rfl
theorem info_imp : (Tryd.prog.info? 41).map (fun i => (i.zero, i.size, i.bytes)) = some (some (.agg #[.string ⟨#[]⟩, .int .i64 0, .slice none 0 0, .int .i64 0]), 4, 56) := by kernel_rfl
theorem info_img : (Tryd.prog.info? 26).map (fun i => (i.zero, i.size, i.bytes)) = some (some (.agg #[.string ⟨#[]⟩, .slice none 0 0, .slice none 0 0, .slice none 0 0, .slice none 0 0]), 5, 112) := by kernel_rfl
theorem hand_App0 (w : World) (hG : Bins w 0) (k : Int) (hk : I6 k) (L0 : List Nat) (hL0 : ∀ i ∈ L0, i < w.heap.size) : Calls Tryd.prog 5 #[.int .i64 k, .slice none 0 0] w fun e w' => ∃ (af ai am ae : Option Addr) (cf ci cm ce : Nat) (c0 c1 c2 : List Ins), e = .returned (.agg #[.string ⟨(nameOf k).toArray⟩, .slice af 4 cf, .slice ai 2 ci, .slice am 3 cm, .slice ae 2 ce]) ∧ RInts w' L0 (.slice af 4 cf) [1, 2, 3, 4] ∧ RImps w' L0 (.slice ai 2 ci) (appI k 0 c0 c1 c2).imports ∧ RMths w' L0 (.slice am 3 cm) (appI k 0 c0 c1 c2).methods ∧ RInts w' L0 (.slice ae 2 ce) [1, 2] ∧ Tch [] w w' := by
  refine (hand_Applet0 w hG k hk L0 hL0).mono ?_
  rintro e w' ⟨cs, c0, c1, c2, rfl, ⟨vf, vi, vm, ve, e5, i1, i2, i3, i4⟩, _, _, _, t⟩
  obtain ⟨af, cf, rfl⟩ := i1.form
  obtain ⟨ai, ci, rfl⟩ := i2.form
  obtain ⟨am, cm, rfl⟩ := i3.form
  obtain ⟨ae, ce, rfl⟩ := i4.form
  exact ⟨af, ai, am, ae, cf, ci, cm, ce, c0, c1, c2, by congr 2; exact Array.toList_inj.1 e5, i1, i2, i3, i4, t⟩
theorem img_of {w : World} {k : Int} {c0 c1 c2 : List Ins} {af ai am ae : Option Addr} {cf ci cm ce : Nat} (i1 : RInts w [] (.slice af 4 cf) [1, 2, 3, 4]) (i2 : RImps w [] (.slice ai 2 ci) (appI k 0 c0 c1 c2).imports) (i3 : RMths w [] (.slice am 3 cm) (appI k 0 c0 c1 c2).methods) (i4 : RInts w [] (.slice ae 2 ce) [1, 2]) : RImg w [] [.string ⟨(nameOf k).toArray⟩, .slice af 4 cf, .slice ai 2 ci, .slice am 3 cm, .slice ae 2 ce] (appI k 0 c0 c1 c2) := ⟨_, _, _, _, rfl, i1, i2, i3, i4⟩
theorem two_imgs {V : World} {v : Value} {x0 x1 : Img} {l0 l1 : List Value} (h : Src V [] v 2 (l0 ++ l1)) (h0 : RImg V [] l0 x0) (h1 : RImg V [] l1 x1) : RImgs V v [x0, x1] := by
  refine RImgs.of (css := [l0, l1]) rfl (by simpa using h) (fun k cs x hc hx => ?_)
  rcases k with _ | _ | k
  · simp at hc hx; subst hc; subst hx; exact h0
  · simp at hc hx; subst hc; subst hx; exact h1
  · simp at hc
set_option maxRecDepth 100000 in
set_option maxHeartbeats 4000000 in
theorem lk_known (w : World) (hG : Bins w 0) : Calls Tryd.prog 7 #[] w fun e w' => e = .returned (.bool true) ∧ Tch [] w w' := by
  go_enter Tryd.func7, Tryd.ntmps7
  go_wp2_with fail
  refine (hand_App0 _ hG 0 (by unfold I6; omega) [] (by simp)).mono ?_
  rintro e w1 ⟨af, ai, am, ae, cf, ci, cm, ce, c0, c1, c2, rfl, i1, i2, i3, i4, t1⟩
  go_wp2_with fail
  refine (hand_App0 _ (hG.tch t1) 1 (by unfold I6; omega) [] (by simp)).mono ?_
  rintro e w2 ⟨af', ai', am', ae', cf', ci', cm', ce', d0, d1, d2, rfl, j1, j2, j3, j4, t2⟩
  obtain ⟨V, hV⟩ : ∃ V, V = w2.alloc (.cells #[.string ⟨(nameOf 0).toArray⟩, .slice af 4 cf, .slice ai 2 ci, .slice am 3 cm, .slice ae 2 ce, .string ⟨(nameOf 1).toArray⟩, .slice af' 4 cf', .slice ai' 2 ci', .slice am' 3 cm', .slice ae' 2 ce'] 26) := ⟨_, rfl⟩
  have tV : Tch [] w2 V := by rw [hV]; exact (Tch.refl [] w2).alloc _
  have t2V := t2.then tV
  have hR : RImgs V (.slice (some ⟨w2.heap.size, 0, none⟩) 2 2) [appI 0 0 c0 c1 c2, appI 1 0 d0 d1 d2] := by
    refine two_imgs (l0 := [.string ⟨(nameOf 0).toArray⟩, .slice af 4 cf, .slice ai 2 ci, .slice am 3 cm, .slice ae 2 ce]) (l1 := [.string ⟨(nameOf 1).toArray⟩, .slice af' 4 cf', .slice ai' 2 ci', .slice am' 3 cm', .slice ae' 2 ce']) ?_ (img_of (i1.tch t2V (by simp)) (i2.tch t2V (by simp)) (i3.tch t2V (by simp)) (i4.tch t2V (by simp))) (img_of (j1.tch tV (by simp)) (j2.tch tV (by simp)) (j3.tch tV (by simp)) (j4.tch tV (by simp)))
    rw [hV]
    exact src_new w2 _ [] _ _ 2 2 (Tch.refl [] _) (by simp)
  have hgood : ∀ i ∈ [appI 0 0 c0 c1 c2, appI 1 0 d0 d1 d2], ImgGood i := by
    intro i hi
    simp at hi
    rcases hi with rfl | rfl <;> exact appI_good _ _ _ _ _
  have TV : Tch [] w V := t1.then t2V
  have r1 : resolveI [appI 0 0 c0 c1 c2, appI 1 0 d0 d1 d2] 0 2 = (0, 0, false) := rfl
  have r2 : resolveI [appI 0 0 c0 c1 c2, appI 1 0 d0 d1 d2] 0 0 = (1, 1, true) := by simp [resolveI, nth, appI, findI, findFrom, nameOf, wrap64]
  have hC1 := lk_resolve V _ _ hR (by simp) hgood 0 2
  rw [r1] at hC1
  unfold trip at hC1
  simp only at hC1
  go_upto_region 2 with fail
  rw [← hV]
  clear hV i1 i2 i3 i4 j1 j2 j3 j4 tV t2V t1 t2
  go_wp2_with fail
  refine hC1.mono ?_
  rintro e w3 ⟨rfl, t3⟩
  have hC2 := lk_resolve w3 _ _ (hR.tch t3) (by simp) hgood 0 0
  rw [r2] at hC2
  unfold trip at hC2
  simp only at hC2
  go_wp2_with fail
  refine hC2.mono ?_
  rintro e w4 ⟨rfl, t4⟩
  go_wp2_with fail
  go_ret
  exact ⟨rfl, (TV.then t3).then t4⟩
set_option maxRecDepth 100000 in
set_option maxHeartbeats 4000000 in
theorem lk_LinkKnown (w : World) (hG : Bins w 0) : Calls Tryd.prog 3 #[] w fun e w' => e = .returned (.bool true) ∧ Tch [] w w' := by
  go_enter Tryd.func3, Tryd.ntmps3
  go_wp2_with fail
  refine (hand_App0 _ hG 0 (by unfold I6; omega) [] (by simp)).mono ?_
  rintro e w1 ⟨af, ai, am, ae, cf, ci, cm, ce, c0, c1, c2, rfl, i1, i2, i3, i4, t1⟩
  go_wp2_with fail
  refine (hand_App0 _ (hG.tch t1) 1 (by unfold I6; omega) [] (by simp)).mono ?_
  rintro e w2 ⟨af', ai', am', ae', cf', ci', cm', ce', d0, d1, d2, rfl, j1, j2, j3, j4, t2⟩
  obtain ⟨V, hV⟩ : ∃ V, V = w2.alloc (.cells #[.string ⟨(nameOf 0).toArray⟩, .slice af 4 cf, .slice ai 2 ci, .slice am 3 cm, .slice ae 2 ce, .string ⟨(nameOf 1).toArray⟩, .slice af' 4 cf', .slice ai' 2 ci', .slice am' 3 cm', .slice ae' 2 ce'] 26) := ⟨_, rfl⟩
  have tV : Tch [] w2 V := by rw [hV]; exact (Tch.refl [] w2).alloc _
  have t2V := t2.then tV
  have hR : RImgs V (.slice (some ⟨w2.heap.size, 0, none⟩) 2 2) [appI 0 0 c0 c1 c2, appI 1 0 d0 d1 d2] := by
    refine two_imgs (l0 := [.string ⟨(nameOf 0).toArray⟩, .slice af 4 cf, .slice ai 2 ci, .slice am 3 cm, .slice ae 2 ce]) (l1 := [.string ⟨(nameOf 1).toArray⟩, .slice af' 4 cf', .slice ai' 2 ci', .slice am' 3 cm', .slice ae' 2 ce']) ?_ (img_of (i1.tch t2V (by simp)) (i2.tch t2V (by simp)) (i3.tch t2V (by simp)) (i4.tch t2V (by simp))) (img_of (j1.tch tV (by simp)) (j2.tch tV (by simp)) (j3.tch tV (by simp)) (j4.tch tV (by simp)))
    rw [hV]
    exact src_new w2 _ [] _ _ 2 2 (Tch.refl [] _) (by simp)
  have hgood : ∀ i ∈ [appI 0 0 c0 c1 c2, appI 1 0 d0 d1 d2], ImgGood i := by
    intro i hi
    simp at hi
    rcases hi with rfl | rfl <;> exact appI_good _ _ _ _ _
  have TV : Tch [] w V := t1.then t2V
  have hOne : RImgs V (.slice (some ⟨w2.heap.size, 0, none⟩) 1 2) [appI 0 0 c0 c1 c2] := by
    refine RImgs.of (css := [[.string ⟨(nameOf 0).toArray⟩, .slice af 4 cf, .slice ai 2 ci, .slice am 3 cm, .slice ae 2 ce]]) rfl ?_ (fun k cs x hc hx => ?_)
    · rw [hV]
      refine src_block (heap_alloc_new w2 _) (by simp) 1 2 (by decide) _ (fun j u hj => ?_)
      rcases j with _ | _ | _ | _ | _ | j
      · exact hj
      · exact hj
      · exact hj
      · exact hj
      · exact hj
      · simp at hj
    · rcases k with _ | k
      · simp at hc hx; subst hc; subst hx; exact img_of (i1.tch t2V (by simp)) (i2.tch t2V (by simp)) (i3.tch t2V (by simp)) (i4.tch t2V (by simp))
      · simp at hc
  have hL : V.ownsRow 0 26 5 (.slice (some ⟨w2.heap.size, 0, none⟩) 2 2) 2 [.string ⟨(nameOf 0).toArray⟩, .slice af 4 cf, .slice ai 2 ci, .slice am 3 cm, .slice ae 2 ce, .string ⟨(nameOf 1).toArray⟩, .slice af' 4 cf', .slice ai' 2 ci', .slice am' 3 cm', .slice ae' 2 ce'] := by
    rw [hV]
    exact World.ownsRow_lit w2 #[.string ⟨(nameOf 0).toArray⟩, .slice af 4 cf, .slice ai 2 ci, .slice am 3 cm, .slice ae 2 ce, .string ⟨(nameOf 1).toArray⟩, .slice af' 4 cf', .slice ai' 2 ci', .slice am' 3 cm', .slice ae' 2 ce'] 2 (Nat.zero_le _) (by decide) rfl
  have hLs : w2.heap.size < V.heap.size := by rw [hV]; simp
  have hw1 : w1.heap.size ≤ w2.heap.size := t2.size
  have k1 := (i1.mono (L' := [w2.heap.size]) (fun i hi hlt => by simp at hi; omega)).tch t2V (by simp)
  have k2 := (i2.mono (L' := [w2.heap.size]) (fun i hi hlt => by simp at hi; omega)).tch t2V (by simp)
  have k3 := (i3.mono (L' := [w2.heap.size]) (fun i hi hlt => by simp at hi; omega)).tch t2V (by simp)
  have k4 := (i4.mono (L' := [w2.heap.size]) (fun i hi hlt => by simp at hi; omega)).tch t2V (by simp)
  have q1 := (j1.mono (L' := [w2.heap.size]) (fun i hi hlt => by simp at hi; omega)).tch tV (by simp)
  have q2 := (j2.mono (L' := [w2.heap.size]) (fun i hi hlt => by simp at hi; omega)).tch tV (by simp)
  have q3 := (j3.mono (L' := [w2.heap.size]) (fun i hi hlt => by simp at hi; omega)).tch tV (by simp)
  have q4 := (j4.mono (L' := [w2.heap.size]) (fun i hi hlt => by simp at hi; omega)).tch tV (by simp)
  clear i1 i2 i3 i4 j1 j2 j3 j4 tV t2V t2
  have r1 : resolveI [appI 0 0 c0 c1 c2] 0 0 = (0, 0, false) := by simp [resolveI, nth, appI, findI, findFrom, nameOf, wrap64]
  have r2 : resolveI [appI 0 0 c0 c1 c2, appI 1 0 d0 d1 d2] 5 0 = (0, 0, false) := rfl
  have r3 : resolveI [appI 0 0 c0 c1 c2, appI 1 0 d0 d1 d2] 0 (-1) = (0, 0, false) := rfl
  have hC1 := lk_resolve V _ _ hOne (by simp) (fun i hi => hgood i (by simp at hi ⊢; exact .inl hi)) 0 0
  have hC2 := fun W t => lk_resolve W _ _ (hR.tch t) (by simp) hgood 5 0
  have hC3 := fun W t => lk_resolve W _ _ (hR.tch t) (by simp) hgood 0 (-1)
  rw [r1] at hC1
  rw [r2] at hC2
  rw [r3] at hC3
  unfold trip at hC1 hC2 hC3
  simp only at hC1 hC2 hC3
  go_upto_region 2 with fail
  rw [← hV]
  clear hV
  go_wp2_with fail
  refine hC1.mono ?_
  rintro e w3 ⟨rfl, t3⟩
  go_wp2_with fail
  refine (hC2 _ t3).mono ?_
  rintro e w4 ⟨rfl, t4⟩
  go_wp2_with fail
  refine (hC3 _ (t3.then t4)).mono ?_
  rintro e w5 ⟨rfl, t5⟩
  have T5 := (t3.then t4).then t5
  clear hC1 hC2 hC3 hOne
  obtain ⟨p0, l0, x0, p1, l1, x1, p2, l2, x2, hS, m0, m1, m2⟩ := RMths.three q3
  obtain ⟨_, _, _, e0, a1, a2, a3⟩ := id m0
  obtain ⟨_, _, _, e1, b1, b2, b3⟩ := id m1
  obtain ⟨_, _, _, e2, d1', d2', d3'⟩ := id m2
  simp only [List.cons.injEq, and_true] at e0 e1 e2
  obtain ⟨rfl, _, rfl, rfl⟩ := e0
  obtain ⟨rfl, _, rfl, rfl⟩ := e1
  obtain ⟨rfl, _, rfl, rfl⟩ := e2
  simp only at hS m0 m1 m2 a1 a2 a3 b1 b2 b3 d1' d2' d3'
  have o1 : ∀ {v : Value} {n : Nat}, (∃ a c, v = .slice a n c) → v.oneCell' = true := fun h => by obtain ⟨a, c, rfl⟩ := h; rfl
  have h1c : ∀ u ∈ [p0, .int .i64 0, l0, x0, p1, .int .i64 2, l1, x1, p2, .int .i64 3, l2, x2], u.oneCell' = true := by
    intro u hu
    simp only [List.mem_cons, List.mem_nil_iff, or_false] at hu
    rcases hu with rfl | rfl | rfl | rfl | rfl | rfl | rfl | rfl | rfl | rfl | rfl | rfl
    · exact o1 a1.form
    · rfl
    · exact o1 a2.form
    · exact o1 a3.form
    · exact o1 b1.form
    · rfl
    · exact o1 b2.form
    · exact o1 b3.form
    · exact o1 d1'.form
    · rfl
    · exact o1 d2'.form
    · exact o1 d3'.form
  obtain ⟨i0, hi, hz0, hz1, hz2⟩ := info_parts info_mth
  have tE : Tch [] w5 (w5.alloc (.cells #[] 33)) := (Tch.refl [] w5).alloc _
  have hown0 : (w5.alloc (.cells #[] 33)).ownsRow 0 33 4 (.slice (some ⟨w5.heap.size, 0, none⟩) 0 0) 0 [] := World.ownsRow_lit w5 #[] 0 (Nat.zero_le _) (by decide) rfl
  have hsrc : Src (w5.alloc (.cells #[] 33)) [] (.slice am' 3 cm') 3 [p0, .int .i64 0, l0, x0, p1, .int .i64 2, l1, x1, p2, .int .i64 3, l2, x2] := ((hS.tch T5 (by simp)).tch tE (by simp)).mono (by simp)
  have hbnd : 0 + 3 ≤ 9223372036854775807 ∧ (0 + 3) * 80 ≤ 140737488355328 := by omega
  have hL5 := ownsRow_tch hL (T5.then tE) (by simp)
  have kc : (w5.alloc (.cells #[] 33)).cell? ⟨w2.heap.size, 8, none⟩ = some (.slice am' 3 cm') := World.ownsRow.cellAt hL5 8 (by omega)
  have kf : (w5.alloc (.cells #[] 33)).frozen? ⟨w2.heap.size, 8, none⟩ = false := World.ownsRow.frozenAt hL5 8
  have hL5s : w2.heap.size < w5.heap.size := Nat.lt_of_lt_of_le hLs T5.size
  have hLE : w2.heap.size < (w5.alloc (.cells #[] 33)).heap.size := by simp; omega
  have hneE : some w2.heap.size ≠ (Value.slice (some ⟨w5.heap.size, 0, none⟩) 0 0).ownBlock := by simp [Value.ownBlock]; omega
  go_wp2_with (at_builtin; refine wpList_append_any _ rfl (.tmp 37) (.tmp 41) 24 rfl 33 i0 (.agg #[.slice none 0 0, .int .i64 0, .slice none 0 0, .slice none 0 0]) 4 80 Tryd.underlying24 hi hz0 hz1 hz2 rfl (by decide) (.slice (some ⟨w5.heap.size, 0, none⟩) 0 0) 0 [] rfl hown0 [] (.slice am' 3 cm') 3 [p0, .int .i64 0, l0, x0, p1, .int .i64 2, l1, x1, p2, .int .i64 3, l2, x2] rfl hsrc rfl h1c hbnd ?_; intro ao cap w6 hown hgrow hat; simp only [Nat.zero_add, List.nil_append] at hown hat ⊢; obtain ⟨g, capg, eg, _, _⟩ := World.ownsRow.form hown (by simp); simp only [Value.slice.injEq] at eg; obtain ⟨rfl, _, rfl⟩ := eg; have hgL : g ≠ w2.heap.size := (by rcases hat with e | e <;> simp [Value.ownBlock] at e <;> omega); have kc6 := (hgrow.cell_far ⟨w2.heap.size, 8, none⟩ hLE hneE).trans kc; have kf6 := (hgrow.frozen_far ⟨w2.heap.size, 8, none⟩ hLE hneE).trans kf; have hgL' : ¬ w2.heap.size = g := (fun h => hgL h.symm); have gc6 : w6.cell? ⟨g, 5, none⟩ = some (.int .i64 2) := World.ownsRow.cellAt hown 5 (by omega); have gf6 : w6.frozen? ⟨g, 5, none⟩ = false := World.ownsRow.frozenAt hown 5)
  have hg5 : w5.heap.size ≤ g := by
    rcases hat with e | e <;> simp [Value.ownBlock] at e <;> omega
  have t6 : Tch [] w5 w6 := tE.grown hgrow (fun k hk => by simp [Value.ownBlock] at hk; omega)
  obtain ⟨V7, hV7⟩ : ∃ V7, V7 = (w6.setCell ⟨w2.heap.size, 8, none⟩ (.slice (some ⟨g, 0, none⟩) 3 cap)).setCell ⟨g, 5, none⟩ (.int .i64 1) := ⟨_, rfl⟩
  have t7a : Tch [w2.heap.size] w6 (w6.setCell ⟨w2.heap.size, 8, none⟩ (.slice (some ⟨g, 0, none⟩) 3 cap)) := (Tch.refl _ w6).setCell (.inl (by simp)) _
  have t7 : Tch [w2.heap.size, g] w6 V7 := by rw [hV7]; exact (((Tch.refl _ w6).setCell (.inl (by simp)) _).setCell (.inl (by simp)) _)
  have hLV : V7.ownsRow 0 26 5 (.slice (some ⟨w2.heap.size, 0, none⟩) 2 2) 2 [.string ⟨(nameOf 0).toArray⟩, .slice af 4 cf, .slice ai 2 ci, .slice am 3 cm, .slice ae 2 ce, .string ⟨(nameOf 1).toArray⟩, .slice af' 4 cf', .slice ai' 2 ci', .slice (some ⟨g, 0, none⟩) 3 cap, .slice ae' 2 ce'] := by
    have h1 := ((ownsRow_tch hL (T5.then t6) (by simp)).stored 8 (.slice (some ⟨g, 0, none⟩) 3 cap)).1
    have h2 := ownsRow_tch h1 ((Tch.refl [g] _).setCell (p := ⟨g, 5, none⟩) (.inl (by simp)) (.int .i64 1)) (fun k hk => by simp [Value.ownBlock] at hk; simp; omega)
    rw [hV7]
    exact h2
  have hgV : V7.ownsRow 0 33 4 (.slice (some ⟨g, 0, none⟩) 3 cap) 3 [p0, .int .i64 0, l0, x0, p1, .int .i64 1, l1, x1, p2, .int .i64 3, l2, x2] := by
    have h1 := ownsRow_tch hown t7a (fun k hk => by simp [Value.ownBlock] at hk; simp; omega)
    rw [hV7]
    exact (h1.stored 5 (.int .i64 1)).1
  have hw5 : w2.heap.size < w5.heap.size := hL5s
  have mv : ∀ {L : List Nat}, (∀ i ∈ [w2.heap.size, g], i < w5.heap.size → i ∈ [w2.heap.size]) := fun {L} i hi hlt => by simp at hi ⊢; omega
  have n1 := (((k1.tch T5 (by simp)).mono (mv (L := []))).tch t6 (by simp)).tch t7 (fun i hi _ => hi)
  have n2 := (((k2.tch T5 (by simp)).mono (mv (L := []))).tch t6 (by simp)).tch t7 (fun i hi _ => hi)
  have n3 := (((k3.tch T5 (by simp)).mono (mv (L := []))).tch t6 (by simp)).tch t7 (fun i hi _ => hi)
  have n4 := (((k4.tch T5 (by simp)).mono (mv (L := []))).tch t6 (by simp)).tch t7 (fun i hi _ => hi)
  have s1 := (((q1.tch T5 (by simp)).mono (mv (L := []))).tch t6 (by simp)).tch t7 (fun i hi _ => hi)
  have s2 := (((q2.tch T5 (by simp)).mono (mv (L := []))).tch t6 (by simp)).tch t7 (fun i hi _ => hi)
  have s4 := (((q4.tch T5 (by simp)).mono (mv (L := []))).tch t6 (by simp)).tch t7 (fun i hi _ => hi)
  have u0 := (((m0.tch T5 (by simp)).mono (mv (L := []))).tch t6 (by simp)).tch t7 (fun i hi _ => hi)
  have u2 := (((m2.tch T5 (by simp)).mono (mv (L := []))).tch t6 (by simp)).tch t7 (fun i hi _ => hi)
  have ub1 := (((b1.tch T5 (by simp)).mono (mv (L := []))).tch t6 (by simp)).tch t7 (fun i hi _ => hi)
  have ub2 := (((b2.tch T5 (by simp)).mono (mv (L := []))).tch t6 (by simp)).tch t7 (fun i hi _ => hi)
  have ub3 := (((b3.tch T5 (by simp)).mono (mv (L := []))).tch t6 (by simp)).tch t7 (fun i hi _ => hi)
  have hMs : RMths V7 [] (.slice (some ⟨g, 0, none⟩) 3 cap) [⟨[], 0, [1, 2, 3, 4], d0⟩, ⟨[1, 2], 1, [1, 2, 3, 4], d1⟩, ⟨[4, 3], 3, [1, 2], d2⟩] :=
    RMths.mk3 (a := [p0, .int .i64 0, l0, x0]) (b := [p1, .int .i64 1, l1, x1]) (c := [p2, .int .i64 3, l2, x2]) (src_of_owns hgV [] (by simp)) u0.thin ⟨_, _, _, rfl, ub1.thin, ub2.thin, ub3.thin⟩ u2.thin
  have hR7 : RImgs V7 (.slice (some ⟨w2.heap.size, 0, none⟩) 2 2) [appI 0 0 c0 c1 c2, ⟨nameOf 1, [1, 2, 3, 4], (appI 1 0 d0 d1 d2).imports, [⟨[], 0, [1, 2, 3, 4], d0⟩, ⟨[1, 2], 1, [1, 2, 3, 4], d1⟩, ⟨[4, 3], 3, [1, 2], d2⟩], [1, 2]⟩] :=
    two_imgs (l0 := [.string ⟨(nameOf 0).toArray⟩, .slice af 4 cf, .slice ai 2 ci, .slice am 3 cm, .slice ae 2 ce]) (l1 := [.string ⟨(nameOf 1).toArray⟩, .slice af' 4 cf', .slice ai' 2 ci', .slice (some ⟨g, 0, none⟩) 3 cap, .slice ae' 2 ce']) (src_of_owns hLV [] (by simp)) (img_of n1.thin n2.thin n3.thin n4.thin) ⟨_, _, _, _, rfl, s1.thin, s2.thin, hMs, s4.thin⟩
  have hgood7 : ∀ i ∈ [appI 0 0 c0 c1 c2, ⟨nameOf 1, [1, 2, 3, 4], (appI 1 0 d0 d1 d2).imports, [⟨[], 0, [1, 2, 3, 4], d0⟩, ⟨[1, 2], 1, [1, 2, 3, 4], d1⟩, ⟨[4, 3], 3, [1, 2], d2⟩], [1, 2]⟩], ImgGood i := by
    intro i hi
    simp at hi
    rcases hi with rfl | rfl
    · exact appI_good _ _ _ _ _
    · unfold ImgGood appI; simp
  have T7 : Tch [] w V7 := (TV.then (T5.then t6)).trans t7 (by simp) (fun i hi hx => by
    have z1 := t1.size
    have z2 := TV.size
    have z5 := T5.size
    simp at hx
    omega)
  have r4 : resolveI [appI 0 0 c0 c1 c2, ⟨nameOf 1, [1, 2, 3, 4], (appI 1 0 d0 d1 d2).imports, [⟨[], 0, [1, 2, 3, 4], d0⟩, ⟨[1, 2], 1, [1, 2, 3, 4], d1⟩, ⟨[4, 3], 3, [1, 2], d2⟩], [1, 2]⟩] 0 0 = (0, 0, false) := by simp [resolveI, nth, appI, findI, findFrom, nameOf, wrap64]
  have r5 : findI [appI 0 0 c0 c1 c2, ⟨nameOf 1, [1, 2, 3, 4], (appI 1 0 d0 d1 d2).imports, [⟨[], 0, [1, 2, 3, 4], d0⟩, ⟨[1, 2], 1, [1, 2, 3, 4], d1⟩, ⟨[4, 3], 3, [1, 2], d2⟩], [1, 2]⟩] [98, 195, 169, 116, 97] = 1 := by simp [appI, findI, findFrom, nameOf]
  have r6 : findI [appI 0 0 c0 c1 c2, ⟨nameOf 1, [1, 2, 3, 4], (appI 1 0 d0 d1 d2).imports, [⟨[], 0, [1, 2, 3, 4], d0⟩, ⟨[1, 2], 1, [1, 2, 3, 4], d1⟩, ⟨[4, 3], 3, [1, 2], d2⟩], [1, 2]⟩] [122, 122] = -1 := by simp [appI, findI, findFrom, nameOf]
  rw [← hV7]
  have hC4 := lk_resolve V7 _ _ hR7 (by simp) hgood7 0 0
  rw [r4] at hC4
  unfold trip at hC4
  simp only at hC4
  have hC5 := fun W t => lk_find W _ _ [98, 195, 169, 116, 97] (hR7.tch t) (by simp)
  have hC6 := fun W t => lk_find W _ _ [122, 122] (hR7.tch t) (by simp)
  have hC7 := fun W => lk_find W (.slice none 0 0) [] [] ⟨[], rfl, by simp, ⟨.inl ⟨rfl, rfl, rfl⟩⟩, by simp⟩ (by simp)
  rw [r5] at hC5
  rw [r6] at hC6
  unfold str at hC5 hC6 hC7
  refine hC4.mono ?_
  rintro e w8 ⟨rfl, t8⟩
  clear hV7 hgV hLV n1 n2 n3 n4 s1 s2 s4 u0 u2 ub1 ub2 ub3 hMs hgood7 r4 r5 r6 hC4 k1 k2 k3 k4 q1 q2 q3 q4 m0 m1 m2 a1 a2 a3 b1 b2 b3 d1' d2' d3' hS h1c hown hgrow hat kc6 kf6 gc6 gf6 kc kf hsrc hown0 hL5 hL hR hgood
  have hKn := lk_known w8 (hG.tch (T7.then t8))
  go_wp2_with fail
  refine hKn.mono ?_
  rintro e w9 ⟨rfl, t9⟩
  go_wp2_with fail
  refine (hC5 _ (t8.then t9)).mono ?_
  rintro e w10 ⟨rfl, t10⟩
  go_wp2_with fail
  refine (hC6 _ ((t8.then t9).then t10)).mono ?_
  rintro e w11 ⟨rfl, t11⟩
  go_wp2_with fail
  refine (hC7 _).mono ?_
  rintro e w12 ⟨rfl, t12⟩
  go_wp2_with fail
  go_ret
  exact ⟨rfl, ((((T7.then t8).then t9).then t10).then t11).then t12⟩
end Go.Proofs.YtkakoefdfjooeaaDoor
