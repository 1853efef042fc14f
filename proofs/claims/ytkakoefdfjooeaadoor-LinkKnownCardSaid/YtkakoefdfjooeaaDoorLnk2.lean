/-
  CONTRACTS: link.Resolve and taciturnref8.Resolve: whom an import calls. Conditions: none.
-/
import Derived.Test.YtkakoefdfjooeaaDoorLnk
import Derived.Test.YtkakoefdfjooeaaDoorQui
namespace Go.Tcn
open Go.RowKit
set_option linter.unusedVariables false
set_option linter.unusedSimpArgs false
def nth {α : Type} (l : List α) (k : Int) : Option α := if k < 0 then none else l[k.toNat]?
theorem nth_some {α : Type} {l : List α} {k : Int} {x : α} (h : nth l k = some x) : ∃ n : Nat, k = n ∧ n < l.length ∧ l[n]? = some x := by
  unfold nth at h
  split at h
  · cases h
  · have := (List.getElem?_eq_some_iff.1 h).1
    exact ⟨k.toNat, by omega, this, h⟩
theorem nth_none {α : Type} {l : List α} {k : Int} (h : nth l k = none) : k < 0 ∨ (l.length : Int) ≤ k := by
  unfold nth at h
  split at h
  · omega
  · have := List.getElem?_eq_none_iff.1 h
    omega
/-- Whom an import calls: which applet, which of its methods; or nobody. -/
def resolveI (l : List Img) (a k : Int) : Int × Int × Bool :=
  match nth l a with
  | none => (0, 0, false)
  | some i => match nth i.imports k with
    | none => (0, 0, false)
    | some x => match nth l (findI l x.name) with
      | none => (0, 0, false)
      | some j => match nth j.exports x.exp with
        | none => (0, 0, false)
        | some m => match nth j.methods m with
          | none => (0, 0, false)
          | some y => if y.params = x.params ∧ y.result = x.result then (findI l x.name, m, true) else (0, 0, false)
def trip (r : Int × Int × Bool) : Value := .tuple #[.int .i64 r.1, .int .i64 r.2.1, .bool r.2.2]
theorem resolveI_none1 {l : List Img} {a k : Int} (h : nth l a = none) : resolveI l a k = (0, 0, false) := by unfold resolveI; rw [h]
/-- An import of a list, as it lies. -/
theorem RImps.at {w : World} {L : List Nat} {ao : Option Addr} {m c : Nat} {l : List Imp} (h : RImps w L (.slice ao m c) l) {k : Nat} (hk : k < l.length) :
    ∃ ad vp, ao = some ad ∧ ad.block < w.heap.size ∧ RInts w L vp l[k].params ∧ (∀ (j : Nat) u, #[str l[k].name, .int .i64 l[k].exp, vp, .int .i64 l[k].result].toList[j]? = some u → w.cell? ((ad.add (k * 4)).add j) = some u) := by
  obtain ⟨ad, cs, rfl, a1, a2, a3, ⟨vp, rfl, b1⟩, a5⟩ := RL.at h hk (by omega)
  exact ⟨ad, vp, rfl, a1, b1, fun j u hj => by rw [Addr_add_add]; exact a5 j u (by simpa using hj)⟩
theorem RMths.at {w : World} {L : List Nat} {ao : Option Addr} {m c : Nat} {l : List Mth} (h : RMths w L (.slice ao m c) l) {k : Nat} (hk : k < l.length) :
    ∃ ad vp vl vc, ao = some ad ∧ ad.block < w.heap.size ∧ RInts w L vp l[k].params ∧ RInts w L vl l[k].locals ∧ RCode w L vc l[k].code ∧ (∀ (j : Nat) u, #[vp, .int .i64 l[k].result, vl, vc].toList[j]? = some u → w.cell? ((ad.add (k * 4)).add j) = some u) := by
  obtain ⟨ad, cs, rfl, a1, a2, a3, ⟨vp, vl, vc, rfl, b1, b2, b3⟩, a5⟩ := RL.at h hk (by omega)
  exact ⟨ad, vp, vl, vc, rfl, a1, b1, b2, b3, fun j u hj => by rw [Addr_add_add]; exact a5 j u (by simpa using hj)⟩
theorem RImps.form {w : World} {L : List Nat} {v : Value} {l : List Imp} (h : RImps w L v l) : ∃ ao c, v = .slice ao l.length c := by
  obtain ⟨css, h1, h2, h3, h4⟩ := h.ex
  exact h3.form
theorem RMths.form {w : World} {L : List Nat} {v : Value} {l : List Mth} (h : RMths w L v l) : ∃ ao c, v = .slice ao l.length c := by
  obtain ⟨css, h1, h2, h3, h4⟩ := h.ex
  exact h3.form
end Go.Tcn
namespace Go.Proofs.YtkakoefdfjooeaaDoor
open Go.RowKit Go.Tcn
set_option linter.unusedVariables false
set_option linter.unusedSimpArgs false

set_option maxRecDepth 100000 in
set_option maxHeartbeats 4000000 in
theorem lk_resolve (w : World) (v : Value) (l : List Img) (h : RImgs w v l) (hm : l.length ≤ 1000) (hml : ∀ i ∈ l, i.imports.length ≤ 1000 ∧ i.exports.length ≤ 1000 ∧ i.methods.length ≤ 1000 ∧ (∀ x ∈ i.imports, x.params.length ≤ 1000) ∧ (∀ x ∈ i.methods, x.params.length ≤ 1000)) (a k : Int) :
    Calls Tryd.prog 6 #[v, .int .i64 a, .int .i64 k] w fun e w' => e = .returned (trip (resolveI l a k)) ∧ Tch [] w w' := by
  obtain ⟨a0, c0, rfl⟩ := h.form
  cases e1 : nth l a with
  | none =>
    have hn := nth_none e1
    have hr : resolveI l a k = (0, 0, false) := resolveI_none1 e1
    rw [hr]
    clear hr e1
    rcases hn with ha | ha
    · have hd : decide (a < 0) = true := decide_eq_true ha
      go_enter Tryd.func6, Tryd.ntmps6
      go_wp2_with fail
      go_ret3
      exact ⟨rfl, Tch.refl _ _⟩
    · have hd : decide (a < 0) = false := decide_eq_false (by omega)
      have hd2 : decide ((l.length : Int) ≤ a) = true := decide_eq_true ha
      go_enter Tryd.func6, Tryd.ntmps6
      go_wp2_with fail
      go_ret3
      exact ⟨rfl, Tch.refl _ _⟩
  | some i =>
    obtain ⟨n, rfl, hnl, hni⟩ := nth_some e1
    obtain ⟨ad, vf, vi, vm, ve, rfl, hadl, _, hI, _, _, hc⟩ := h.at hnl
    have hib := hml i (List.mem_of_getElem? hni)
    obtain rfl : l[n] = i := by rw [List.getElem?_eq_getElem hnl] at hni; exact Option.some.inj hni
    obtain ⟨ai, ci, rfl⟩ := hI.form
    have q2 : w.cell? ⟨(ad.add (n * 5)).block, (ad.add (n * 5)).off + 2, none⟩ = some (.slice ai l[n].imports.length ci) := hc 2 _ rfl
    clear hc
    have hr0 : ∀ z, nth l[n].imports k = none → resolveI l n k = z → z = (0, 0, false) := fun z h1 h2 => by rw [← h2]; unfold resolveI; rw [e1]; simp only; rw [h1]
    have hrx : ∀ x, nth l[n].imports k = some x → resolveI l n k = match nth l (findI l x.name) with
      | none => (0, 0, false)
      | some j => match nth j.exports x.exp with
        | none => (0, 0, false)
        | some m => match nth j.methods m with
          | none => (0, 0, false)
          | some y => if y.params = x.params ∧ y.result = x.result then (findI l x.name, m, true) else (0, 0, false) := fun x h1 => by unfold resolveI; rw [e1]; simp only; rw [h1]
    generalize hRE : resolveI l (n : Int) k = RE at *
    clear hRE e1 hni
    generalize l[n].imports = il at *
    have hnl' : decide ((l.length : Int) ≤ (n : Int)) = false := decide_eq_false (by omega)
    have hn0 : decide ((n : Int) < 0) = false := decide_eq_false (by omega)
    cases e2 : nth il k with
    | none =>
      have hr : RE = (0, 0, false) := hr0 RE e2 rfl
      subst hr
      have hn := nth_none e2
      clear e2 hr0 hrx
      rcases hn with ha | ha
      · have hd : decide (k < 0) = true := decide_eq_true ha
        go_enter Tryd.func6, Tryd.ntmps6
        go_wp2_with fail
        go_ret3
        exact ⟨rfl, Tch.refl _ _⟩
      · have hd : decide (k < 0) = false := decide_eq_false (by omega)
        have hd2 : decide ((il.length : Int) ≤ k) = true := decide_eq_true ha
        go_enter Tryd.func6, Tryd.ntmps6
        go_wp2_with fail
        go_ret3
        exact ⟨rfl, Tch.refl _ _⟩
    | some x =>
      have hr := hrx x e2
      obtain ⟨m, rfl, hml2, hmi⟩ := nth_some e2
      obtain rfl : il[m] = x := by rw [List.getElem?_eq_getElem hml2] at hmi; exact Option.some.inj hmi
      have hxp := hib.2.2.2.1 il[m] (List.getElem_mem hml2)
      obtain ⟨adi, vp, rfl, hadil, hpp, hci⟩ := hI.at hml2
      obtain ⟨ap, cp, rfl⟩ := hpp.form
      clear hr0 hrx e2 hmi hI
      generalize il[m] = x at *
      have HR := Lib.hid hr; clear hr
      unfold str at hci
      have hm0 : decide ((m : Int) < 0) = false := decide_eq_false (by omega)
      have hm1 : decide ((il.length : Int) ≤ (m : Int)) = false := decide_eq_false (by omega)
      have hm2 : (m : Int) < (il.length : Int) := by omega
      have hn2 : (n : Int) < (l.length : Int) := by omega
      go_enter Tryd.func6, Tryd.ntmps6
      go_wp2_with (first | (refine wpList_load_agg rfl 41 (.tmp 39) rfl (adi.add (m * 4)) rfl #[.string ⟨x.name.toArray⟩, .int .i64 x.exp, .slice ap x.params.length cp, .int .i64 x.result] _ hci Tryd.underlying41 rfl (by kernel_rfl) ?_) | fail)
      have tV : Tch [] w (w.alloc (.cells #[.string ⟨x.name.toArray⟩, .int .i64 x.exp, .slice ap x.params.length cp, .int .i64 x.result] 41)) := (Tch.refl [] w).alloc _
      have hbV : (w.alloc (.cells #[.string ⟨x.name.toArray⟩, .int .i64 x.exp, .slice ap x.params.length cp, .int .i64 x.result] 41)).heap[w.heap.size]? = some (.cells #[.string ⟨x.name.toArray⟩, .int .i64 x.exp, .slice ap x.params.length cp, .int .i64 x.result] 41 (0, 0)) := heap_alloc_new w _
      refine (lk_find _ _ l x.name (h.tch tV) (by omega)).mono ?_
      rintro e w1 ⟨rfl, t1⟩
      have x1 : w1.cell? ⟨w.heap.size, 1, none⟩ = some (.int .i64 x.exp) := (t1.cell (by simp) (by simp)).trans ((cell_of_row _ _ 1 _ _ _ hbV).trans rfl)
      have x2 : w1.cell? ⟨w.heap.size, 2, none⟩ = some (.slice ap x.params.length cp) := (t1.cell (by simp) (by simp)).trans ((cell_of_row _ _ 2 _ _ _ hbV).trans rfl)
      have x3 : w1.cell? ⟨w.heap.size, 3, none⟩ = some (.int .i64 x.result) := (t1.cell (by simp) (by simp)).trans ((cell_of_row _ _ 3 _ _ _ hbV).trans rfl)
      have t2 := tV.then t1
      have h1 := h.tch t2
      have hp1 := hpp.tch t2 (by simp)
      have hrg := findI_range x.name l
      have u1 : w1.drew.cell? ⟨w.heap.size, 1, none⟩ = some (.int .i64 x.exp) := x1
      clear hci hbV q2 tV t1 hpp
      generalize findI l x.name = t at *
      generalize x.exp = xe at *
      generalize x.result = xr at *
      cases e3 : nth l t with
      | none =>
        have hn := nth_none e3
        have hr := HR.out
        rw [e3] at hr
        have HR2 := Lib.hid hr; clear hr e3
        have ht1 : t = -1 := by omega
        subst ht1
        go_wp2_with fail
        go_region
        all_goals go_wp2
        all_goals go_ret3
        all_goals exact ⟨by rw [HR2.out]; rfl, t2.drew⟩
      | some j =>
        obtain ⟨p, rfl, hpl, hpi⟩ := nth_some e3
        have hr := HR.out
        rw [e3] at hr
        obtain rfl : l[p] = j := by rw [List.getElem?_eq_getElem hpl] at hpi; exact Option.some.inj hpi
        obtain ⟨adp, vf', vi', vm', ve', eadp, hadp, _, _, hMs, hEs, hcp⟩ := h1.at hpl
        obtain rfl : ad = adp := Option.some.inj eadp
        have hjb := hml l[p] (List.getElem_mem hpl)
        obtain ⟨am, cm, rfl⟩ := hMs.form
        obtain ⟨ae, ce, rfl⟩ := hEs.form
        have qA : w1.drew.cell? ⟨(ad.add (p * 5)).block, (ad.add (p * 5)).off + 4, none⟩ = some (.slice ae l[p].exports.length ce) := hcp 4 _ rfl
        have qB : w1.drew.cell? ⟨(ad.add (p * 5)).block, (ad.add (p * 5)).off + 3, none⟩ = some (.slice am l[p].methods.length cm) := hcp 3 _ rfl
        have hp2 : (p : Int) < (l.length : Int) := by omega
        have hp0 : decide ((p : Int) < 0) = false := decide_eq_false (by omega)
        clear hcp e3 hpi eadp
        simp only at hr
        generalize l[p].exports = el at *
        generalize l[p].methods = ml at *
        cases e4 : nth el xe with
        | none =>
          have hn := nth_none e4
          rw [e4] at hr
          have HR2 := Lib.hid hr; clear hr e4
          rcases hn with hn | hn
          · have hd : decide (xe < 0) = true := decide_eq_true hn
            go_wp2_with fail
            go_region
            all_goals go_wp2
            all_goals go_ret3
            all_goals exact ⟨by rw [HR2.out]; rfl, t2.drew⟩
          · have hd : decide (xe < 0) = false := decide_eq_false (by omega)
            have hd2 : decide ((el.length : Int) ≤ xe) = true := decide_eq_true hn
            go_wp2_with fail
            go_region
            all_goals go_wp2
            all_goals go_ret3
            all_goals exact ⟨by rw [HR2.out]; rfl, t2.drew⟩
        | some mm =>
          obtain ⟨q, rfl, hql, hqi⟩ := nth_some e4
          rw [e4] at hr
          simp only at hr
          obtain rfl : el[q] = mm := by rw [List.getElem?_eq_getElem hql] at hqi; exact Option.some.inj hqi
          obtain ⟨ade, rfl, _, _, hce⟩ := Src.at hEs (j := q) (by simpa using hql)
          have qE : w1.drew.drew.cell? (ade.add q) = some (.int .i64 el[q]) := by simpa [ints] using hce
          have uu1 : w1.drew.drew.cell? ⟨w.heap.size, 1, none⟩ = some (.int .i64 (q : Int)) := x1
          have qAA : w1.drew.drew.cell? ⟨(ad.add (p * 5)).block, (ad.add (p * 5)).off + 4, none⟩ = some (.slice (some ade) el.length ce) := qA
          have qBB : w1.drew.drew.cell? ⟨(ad.add (p * 5)).block, (ad.add (p * 5)).off + 3, none⟩ = some (.slice am ml.length cm) := qB
          have hq0 : decide ((q : Int) < 0) = false := decide_eq_false (by omega)
          have hq1 : decide ((el.length : Int) ≤ (q : Int)) = false := decide_eq_false (by omega)
          have hq2 : (q : Int) < (el.length : Int) := by omega
          clear e4 hqi hce hEs
          generalize el[q] = mm at *
          cases e5 : nth ml mm with
          | none =>
            have hn := nth_none e5
            rw [e5] at hr
            have HR2 := Lib.hid hr; clear hr e5
            rcases hn with hn | hn
            · have hd : decide (mm < 0) = true := decide_eq_true hn
              go_wp2_with fail
              go_region
              all_goals go_wp2
              all_goals go_region
              all_goals go_wp2
              all_goals go_ret3
              all_goals exact ⟨by rw [HR2.out]; rfl, t2.drew.drew⟩
            · have hd : decide (mm < 0) = false := decide_eq_false (by omega)
              have hd2 : decide ((ml.length : Int) ≤ mm) = true := decide_eq_true hn
              go_wp2_with fail
              go_region
              all_goals go_wp2
              all_goals go_region
              all_goals go_wp2
              all_goals go_ret3
              all_goals exact ⟨by rw [HR2.out]; rfl, t2.drew.drew⟩
          | some y =>
            obtain ⟨r, rfl, hrl, hri⟩ := nth_some e5
            rw [e5] at hr
            simp only at hr
            obtain rfl : ml[r] = y := by rw [List.getElem?_eq_getElem hrl] at hri; exact Option.some.inj hri
            have hyp := hjb.2.2.2.2 ml[r] (List.getElem_mem hrl)
            obtain ⟨adm, vpm, vlm, vcm, rfl, hadm, hpm, hlm, hkm, hcm⟩ := hMs.at hrl
            obtain ⟨alm, clm, rfl⟩ := hlm.form
            obtain ⟨akm, ckm, rfl⟩ := hkm.form
            obtain ⟨apm, cpm, rfl⟩ := hpm.form
            clear e5 hri hMs hjb hib
            clear hlm hkm
            generalize ml[r] = y at *
            have HR2 := Lib.hid hr; clear hr
            have hcm2 : ∀ (j : Nat) u, #[.slice apm y.params.length cpm, .int .i64 y.result, .slice alm y.locals.length clm, .slice akm y.code.length ckm].toList[j]? = some u → w1.drew.drew.cell? ((adm.add (r * 4)).add j) = some u := hcm
            have hr0 : decide ((r : Int) < 0) = false := decide_eq_false (by omega)
            have hr1 : decide ((ml.length : Int) ≤ (r : Int)) = false := decide_eq_false (by omega)
            have hr2 : (r : Int) < (ml.length : Int) := by omega
            clear hcm
            go_wp2_with fail
            go_region
            all_goals go_wp2
            all_goals go_region
            all_goals (go_upto_region 11 with (first | (refine wpList_load_agg rfl 33 (.tmp 90) rfl (adm.add (r * 4)) rfl #[.slice apm y.params.length cpm, .int .i64 y.result, .slice alm y.locals.length clm, .slice akm y.code.length ckm] _ hcm2 Tryd.underlying33 rfl (by kernel_rfl) ?_) | fail))
            obtain ⟨V2, hV2⟩ : ∃ V, V = (w1.alloc (.cells #[.slice apm y.params.length cpm, .int .i64 y.result, .slice alm y.locals.length clm, .slice akm y.code.length ckm] 33)).drew.drew := ⟨_, rfl⟩
            have t4 : Tch [] w1 V2 := by rw [hV2]; exact ((Tch.refl [] w1).alloc _).drew.drew
            have hbV : V2.heap[w1.heap.size]? = some (.cells #[.slice apm y.params.length cpm, .int .i64 y.result, .slice alm y.locals.length clm, .slice akm y.code.length ckm] 33 (0, 0)) := by rw [hV2]; exact heap_alloc_new w1 _
            have y0 : V2.cell? ⟨w1.heap.size, 0, none⟩ = some (.slice apm y.params.length cpm) := (cell_of_row _ _ 0 _ _ _ hbV).trans rfl
            have y1 : V2.cell? ⟨w1.heap.size, 1, none⟩ = some (.int .i64 y.result) := (cell_of_row _ _ 1 _ _ _ hbV).trans rfl
            have z2 := (t4.cell (cell_lt x2) (by simp)).trans x2
            have z3 := (t4.cell (cell_lt x3) (by simp)).trans x3
            have hpm2 := hpm.tch t4 (by simp)
            have hp2' := hp1.tch t4 (by simp)
            have t6 := t2.then t4
            rw [← hV2]
            clear hV2 hbV hcm2 x1 x2 x3 u1 uu1 qA qB qAA qBB qE hpm hp1 t4
            go_wp2_with fail
            refine (lk_equal V2 _ _ y.params x.params hpm2 hp2' (by omega) (by omega)).mono ?_
            rintro e w2 ⟨rfl, t5⟩
            have z3' := (t5.cell (cell_lt z3) (by simp)).trans z3
            have y1' := (t5.cell (cell_lt y1) (by simp)).trans y1
            by_cases hq : y.params = x.params
            · by_cases hs : y.result = xr
              · have hRE : RE = ((p : Int), (r : Int), true) := by rw [HR2.out, if_pos ⟨hq, hs⟩]
                rw [decide_eq_true hq]
                have hb : (y.result != xr) = false := by simp [hs]
                clear hq HR2
                go_wp2_with fail
                go_ret3
                exact ⟨by rw [hRE]; rfl, t6.then t5⟩
              · have hRE : RE = (0, 0, false) := by rw [HR2.out, if_neg (fun h => hs h.2)]
                rw [decide_eq_true hq]
                have hb : (y.result != xr) = true := by simp [hs]
                clear hq HR2
                go_wp2_with fail
                go_ret3
                exact ⟨by rw [hRE]; rfl, t6.then t5⟩
            · have hRE : RE = (0, 0, false) := by rw [HR2.out, if_neg (fun h => hq h.1)]
              rw [decide_eq_false hq]
              clear hq HR2
              go_wp2_with fail
              go_ret3
              exact ⟨by rw [hRE]; rfl, t6.then t5⟩

set_option maxRecDepth 100000 in
set_option maxHeartbeats 4000000 in
theorem lk_rresolve (w : World) (v : Value) (l : List Img) (h : RImgs w v l) (hm : l.length ≤ 1000) (hml : ∀ i ∈ l, i.imports.length ≤ 1000 ∧ i.exports.length ≤ 1000 ∧ i.methods.length ≤ 1000 ∧ (∀ x ∈ i.imports, x.params.length ≤ 1000) ∧ (∀ x ∈ i.methods, x.params.length ≤ 1000)) (a k : Int) :
    Calls Tryd.prog 11 #[v, .int .i64 a, .int .i64 k] w fun e w' => e = .returned (trip (resolveI l a k)) ∧ Tch [] w w' := by
  obtain ⟨a0, c0, rfl⟩ := h.form
  cases e1 : nth l a with
  | none =>
    have hn := nth_none e1
    have hr : resolveI l a k = (0, 0, false) := resolveI_none1 e1
    rw [hr]
    clear hr e1
    rcases hn with ha | ha
    · have hd : decide (a < 0) = true := decide_eq_true ha
      go_enter Tryd.func11, Tryd.ntmps11
      go_wp2_with fail
      go_ret3
      exact ⟨rfl, Tch.refl _ _⟩
    · have hd : decide (a < 0) = false := decide_eq_false (by omega)
      have hd2 : decide ((l.length : Int) ≤ a) = true := decide_eq_true ha
      go_enter Tryd.func11, Tryd.ntmps11
      go_wp2_with fail
      go_ret3
      exact ⟨rfl, Tch.refl _ _⟩
  | some i =>
    obtain ⟨n, rfl, hnl, hni⟩ := nth_some e1
    obtain ⟨ad, vf, vi, vm, ve, rfl, hadl, _, hI, _, _, hc⟩ := h.at hnl
    have hib := hml i (List.mem_of_getElem? hni)
    obtain rfl : l[n] = i := by rw [List.getElem?_eq_getElem hnl] at hni; exact Option.some.inj hni
    obtain ⟨ai, ci, rfl⟩ := hI.form
    have q2 : w.cell? ⟨(ad.add (n * 5)).block, (ad.add (n * 5)).off + 2, none⟩ = some (.slice ai l[n].imports.length ci) := hc 2 _ rfl
    clear hc
    have hr0 : ∀ z, nth l[n].imports k = none → resolveI l n k = z → z = (0, 0, false) := fun z h1 h2 => by rw [← h2]; unfold resolveI; rw [e1]; simp only; rw [h1]
    have hrx : ∀ x, nth l[n].imports k = some x → resolveI l n k = match nth l (findI l x.name) with
      | none => (0, 0, false)
      | some j => match nth j.exports x.exp with
        | none => (0, 0, false)
        | some m => match nth j.methods m with
          | none => (0, 0, false)
          | some y => if y.params = x.params ∧ y.result = x.result then (findI l x.name, m, true) else (0, 0, false) := fun x h1 => by unfold resolveI; rw [e1]; simp only; rw [h1]
    generalize hRE : resolveI l (n : Int) k = RE at *
    clear hRE e1 hni
    generalize l[n].imports = il at *
    have hnl' : decide ((l.length : Int) ≤ (n : Int)) = false := decide_eq_false (by omega)
    have hn0 : decide ((n : Int) < 0) = false := decide_eq_false (by omega)
    cases e2 : nth il k with
    | none =>
      have hr : RE = (0, 0, false) := hr0 RE e2 rfl
      subst hr
      have hn := nth_none e2
      clear e2 hr0 hrx
      rcases hn with ha | ha
      · have hd : decide (k < 0) = true := decide_eq_true ha
        go_enter Tryd.func11, Tryd.ntmps11
        go_wp2_with fail
        go_ret3
        exact ⟨rfl, Tch.refl _ _⟩
      · have hd : decide (k < 0) = false := decide_eq_false (by omega)
        have hd2 : decide ((il.length : Int) ≤ k) = true := decide_eq_true ha
        go_enter Tryd.func11, Tryd.ntmps11
        go_wp2_with fail
        go_ret3
        exact ⟨rfl, Tch.refl _ _⟩
    | some x =>
      have hr := hrx x e2
      obtain ⟨m, rfl, hml2, hmi⟩ := nth_some e2
      obtain rfl : il[m] = x := by rw [List.getElem?_eq_getElem hml2] at hmi; exact Option.some.inj hmi
      have hxp := hib.2.2.2.1 il[m] (List.getElem_mem hml2)
      obtain ⟨adi, vp, rfl, hadil, hpp, hci⟩ := hI.at hml2
      obtain ⟨ap, cp, rfl⟩ := hpp.form
      clear hr0 hrx e2 hmi hI
      generalize il[m] = x at *
      have HR := Lib.hid hr; clear hr
      unfold str at hci
      have hm0 : decide ((m : Int) < 0) = false := decide_eq_false (by omega)
      have hm1 : decide ((il.length : Int) ≤ (m : Int)) = false := decide_eq_false (by omega)
      have hm2 : (m : Int) < (il.length : Int) := by omega
      have hn2 : (n : Int) < (l.length : Int) := by omega
      go_enter Tryd.func11, Tryd.ntmps11
      go_wp2_with (first | (refine wpList_load_agg rfl 41 (.tmp 41) rfl (adi.add (m * 4)) rfl #[.string ⟨x.name.toArray⟩, .int .i64 x.exp, .slice ap x.params.length cp, .int .i64 x.result] _ hci Tryd.underlying41 rfl (by kernel_rfl) ?_) | fail)
      have tV : Tch [] w (w.alloc (.cells #[.string ⟨x.name.toArray⟩, .int .i64 x.exp, .slice ap x.params.length cp, .int .i64 x.result] 41)) := (Tch.refl [] w).alloc _
      have hbV : (w.alloc (.cells #[.string ⟨x.name.toArray⟩, .int .i64 x.exp, .slice ap x.params.length cp, .int .i64 x.result] 41)).heap[w.heap.size]? = some (.cells #[.string ⟨x.name.toArray⟩, .int .i64 x.exp, .slice ap x.params.length cp, .int .i64 x.result] 41 (0, 0)) := heap_alloc_new w _
      refine (lk_rfind _ _ l x.name (h.tch tV) (by omega)).mono ?_
      rintro e w1 ⟨rfl, t1⟩
      have x1 : w1.cell? ⟨w.heap.size, 1, none⟩ = some (.int .i64 x.exp) := (t1.cell (by simp) (by simp)).trans ((cell_of_row _ _ 1 _ _ _ hbV).trans rfl)
      have x2 : w1.cell? ⟨w.heap.size, 2, none⟩ = some (.slice ap x.params.length cp) := (t1.cell (by simp) (by simp)).trans ((cell_of_row _ _ 2 _ _ _ hbV).trans rfl)
      have x3 : w1.cell? ⟨w.heap.size, 3, none⟩ = some (.int .i64 x.result) := (t1.cell (by simp) (by simp)).trans ((cell_of_row _ _ 3 _ _ _ hbV).trans rfl)
      have t2 := tV.then t1
      have h1 := h.tch t2
      have hp1 := hpp.tch t2 (by simp)
      have hrg := findI_range x.name l
      have u1 : w1.drew.cell? ⟨w.heap.size, 1, none⟩ = some (.int .i64 x.exp) := x1
      clear hci hbV q2 tV t1 hpp
      generalize findI l x.name = t at *
      generalize x.exp = xe at *
      generalize x.result = xr at *
      cases e3 : nth l t with
      | none =>
        have hn := nth_none e3
        have hr := HR.out
        rw [e3] at hr
        have HR2 := Lib.hid hr; clear hr e3
        have ht1 : t = -1 := by omega
        subst ht1
        go_wp2_with fail
        go_region
        all_goals go_wp2
        all_goals go_ret3
        all_goals exact ⟨by rw [HR2.out]; rfl, t2.drew⟩
      | some j =>
        obtain ⟨p, rfl, hpl, hpi⟩ := nth_some e3
        have hr := HR.out
        rw [e3] at hr
        obtain rfl : l[p] = j := by rw [List.getElem?_eq_getElem hpl] at hpi; exact Option.some.inj hpi
        obtain ⟨adp, vf', vi', vm', ve', eadp, hadp, _, _, hMs, hEs, hcp⟩ := h1.at hpl
        obtain rfl : ad = adp := Option.some.inj eadp
        have hjb := hml l[p] (List.getElem_mem hpl)
        obtain ⟨am, cm, rfl⟩ := hMs.form
        obtain ⟨ae, ce, rfl⟩ := hEs.form
        have qA : w1.drew.cell? ⟨(ad.add (p * 5)).block, (ad.add (p * 5)).off + 4, none⟩ = some (.slice ae l[p].exports.length ce) := hcp 4 _ rfl
        have qB : w1.drew.cell? ⟨(ad.add (p * 5)).block, (ad.add (p * 5)).off + 3, none⟩ = some (.slice am l[p].methods.length cm) := hcp 3 _ rfl
        have hp2 : (p : Int) < (l.length : Int) := by omega
        have hp0 : decide ((p : Int) < 0) = false := decide_eq_false (by omega)
        clear hcp e3 hpi eadp
        simp only at hr
        generalize l[p].exports = el at *
        generalize l[p].methods = ml at *
        cases e4 : nth el xe with
        | none =>
          have hn := nth_none e4
          rw [e4] at hr
          have HR2 := Lib.hid hr; clear hr e4
          rcases hn with hn | hn
          · have hd : decide (xe < 0) = true := decide_eq_true hn
            go_wp2_with fail
            go_region
            all_goals go_wp2
            all_goals go_ret3
            all_goals exact ⟨by rw [HR2.out]; rfl, t2.drew⟩
          · have hd : decide (xe < 0) = false := decide_eq_false (by omega)
            have hd2 : decide ((el.length : Int) ≤ xe) = true := decide_eq_true hn
            go_wp2_with fail
            go_region
            all_goals go_wp2
            all_goals go_ret3
            all_goals exact ⟨by rw [HR2.out]; rfl, t2.drew⟩
        | some mm =>
          obtain ⟨q, rfl, hql, hqi⟩ := nth_some e4
          rw [e4] at hr
          simp only at hr
          obtain rfl : el[q] = mm := by rw [List.getElem?_eq_getElem hql] at hqi; exact Option.some.inj hqi
          obtain ⟨ade, rfl, _, _, hce⟩ := Src.at hEs (j := q) (by simpa using hql)
          have qE : w1.drew.drew.cell? (ade.add q) = some (.int .i64 el[q]) := by simpa [ints] using hce
          have uu1 : w1.drew.drew.cell? ⟨w.heap.size, 1, none⟩ = some (.int .i64 (q : Int)) := x1
          have qAA : w1.drew.drew.cell? ⟨(ad.add (p * 5)).block, (ad.add (p * 5)).off + 4, none⟩ = some (.slice (some ade) el.length ce) := qA
          have qBB : w1.drew.drew.cell? ⟨(ad.add (p * 5)).block, (ad.add (p * 5)).off + 3, none⟩ = some (.slice am ml.length cm) := qB
          have hq0 : decide ((q : Int) < 0) = false := decide_eq_false (by omega)
          have hq1 : decide ((el.length : Int) ≤ (q : Int)) = false := decide_eq_false (by omega)
          have hq2 : (q : Int) < (el.length : Int) := by omega
          clear e4 hqi hce hEs
          generalize el[q] = mm at *
          cases e5 : nth ml mm with
          | none =>
            have hn := nth_none e5
            rw [e5] at hr
            have HR2 := Lib.hid hr; clear hr e5
            rcases hn with hn | hn
            · have hd : decide (mm < 0) = true := decide_eq_true hn
              go_wp2_with fail
              go_region
              all_goals go_wp2
              all_goals go_region
              all_goals go_wp2
              all_goals go_ret3
              all_goals exact ⟨by rw [HR2.out]; rfl, t2.drew.drew⟩
            · have hd : decide (mm < 0) = false := decide_eq_false (by omega)
              have hd2 : decide ((ml.length : Int) ≤ mm) = true := decide_eq_true hn
              go_wp2_with fail
              go_region
              all_goals go_wp2
              all_goals go_region
              all_goals go_wp2
              all_goals go_ret3
              all_goals exact ⟨by rw [HR2.out]; rfl, t2.drew.drew⟩
          | some y =>
            obtain ⟨r, rfl, hrl, hri⟩ := nth_some e5
            rw [e5] at hr
            simp only at hr
            obtain rfl : ml[r] = y := by rw [List.getElem?_eq_getElem hrl] at hri; exact Option.some.inj hri
            have hyp := hjb.2.2.2.2 ml[r] (List.getElem_mem hrl)
            obtain ⟨adm, vpm, vlm, vcm, rfl, hadm, hpm, hlm, hkm, hcm⟩ := hMs.at hrl
            obtain ⟨alm, clm, rfl⟩ := hlm.form
            obtain ⟨akm, ckm, rfl⟩ := hkm.form
            obtain ⟨apm, cpm, rfl⟩ := hpm.form
            clear e5 hri hMs hjb hib
            clear hlm hkm
            generalize ml[r] = y at *
            have HR2 := Lib.hid hr; clear hr
            have hcm2 : ∀ (j : Nat) u, #[.slice apm y.params.length cpm, .int .i64 y.result, .slice alm y.locals.length clm, .slice akm y.code.length ckm].toList[j]? = some u → w1.drew.drew.cell? ((adm.add (r * 4)).add j) = some u := hcm
            have hr0 : decide ((r : Int) < 0) = false := decide_eq_false (by omega)
            have hr1 : decide ((ml.length : Int) ≤ (r : Int)) = false := decide_eq_false (by omega)
            have hr2 : (r : Int) < (ml.length : Int) := by omega
            clear hcm
            go_wp2_with fail
            go_region
            all_goals go_wp2
            all_goals go_region
            all_goals (go_upto_region 11 with (first | (refine wpList_load_agg rfl 33 (.tmp 92) rfl (adm.add (r * 4)) rfl #[.slice apm y.params.length cpm, .int .i64 y.result, .slice alm y.locals.length clm, .slice akm y.code.length ckm] _ hcm2 Tryd.underlying33 rfl (by kernel_rfl) ?_) | fail))
            obtain ⟨V2, hV2⟩ : ∃ V, V = (w1.alloc (.cells #[.slice apm y.params.length cpm, .int .i64 y.result, .slice alm y.locals.length clm, .slice akm y.code.length ckm] 33)).drew.drew := ⟨_, rfl⟩
            have t4 : Tch [] w1 V2 := by rw [hV2]; exact ((Tch.refl [] w1).alloc _).drew.drew
            have hbV : V2.heap[w1.heap.size]? = some (.cells #[.slice apm y.params.length cpm, .int .i64 y.result, .slice alm y.locals.length clm, .slice akm y.code.length ckm] 33 (0, 0)) := by rw [hV2]; exact heap_alloc_new w1 _
            have y0 : V2.cell? ⟨w1.heap.size, 0, none⟩ = some (.slice apm y.params.length cpm) := (cell_of_row _ _ 0 _ _ _ hbV).trans rfl
            have y1 : V2.cell? ⟨w1.heap.size, 1, none⟩ = some (.int .i64 y.result) := (cell_of_row _ _ 1 _ _ _ hbV).trans rfl
            have z2 := (t4.cell (cell_lt x2) (by simp)).trans x2
            have z3 := (t4.cell (cell_lt x3) (by simp)).trans x3
            have hpm2 := hpm.tch t4 (by simp)
            have hp2' := hp1.tch t4 (by simp)
            have t6 := t2.then t4
            rw [← hV2]
            clear hV2 hbV hcm2 x1 x2 x3 u1 uu1 qA qB qAA qBB qE hpm hp1 t4
            by_cases hs : y.result = xr
            · have hb : (y.result != xr) = false := by simp [hs]
              by_cases hq : y.params = x.params
              · have hRE : RE = ((p : Int), (r : Int), true) := by rw [HR2.out, if_pos ⟨hq, hs⟩]
                have HQ := Lib.hid hq
                clear hq HR2 hs
                go_wp2_with fail
                refine (lk_same V2 _ _ y.params x.params hpm2 hp2' (by omega) (by omega)).mono ?_
                rintro e w2 ⟨rfl, t5⟩
                rw [decide_eq_true HQ.out]
                go_wp2_with fail
                go_ret3
                exact ⟨by rw [hRE]; rfl, t6.then t5⟩
              · have hRE : RE = (0, 0, false) := by rw [HR2.out, if_neg (fun h => hq h.1)]
                have HQ := Lib.hid hq
                clear hq HR2 hs
                go_wp2_with fail
                refine (lk_same V2 _ _ y.params x.params hpm2 hp2' (by omega) (by omega)).mono ?_
                rintro e w2 ⟨rfl, t5⟩
                rw [decide_eq_false HQ.out]
                go_wp2_with fail
                go_ret3
                exact ⟨by rw [hRE]; rfl, t6.then t5⟩
            · have hRE : RE = (0, 0, false) := by rw [HR2.out, if_neg (fun h => hs h.2)]
              have hb : (y.result != xr) = true := by simp [hs]
              clear HR2
              go_wp2_with fail
              go_ret3
              exact ⟨by rw [hRE]; rfl, t6⟩
end Go.Proofs.YtkakoefdfjooeaaDoor
