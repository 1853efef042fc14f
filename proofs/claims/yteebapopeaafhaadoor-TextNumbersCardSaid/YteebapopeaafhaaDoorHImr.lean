/-
  CONTRACTS: image.Right: which applets may be. Conditions: utf8's tables as they are laid; sizes of 64 bits.
-/
import Derived.Test.YteebapopeaafhaaDoorHIma
namespace Go.Tcn
open Go.RowKit
set_option linter.unusedVariables false
set_option linter.unusedSimpArgs false
/-- Five cells of a block. -/
structure B5 (w : World) (g : Nat) (x0 x1 x2 x3 x4 : Value) : Prop where
  c0 : w.cell? ⟨g, 0, none⟩ = some x0
  c1 : w.cell? ⟨g, 1, none⟩ = some x1
  c2 : w.cell? ⟨g, 2, none⟩ = some x2
  c3 : w.cell? ⟨g, 3, none⟩ = some x3
  c4 : w.cell? ⟨g, 4, none⟩ = some x4
theorem B5.tch {w w' : World} {g : Nat} {x0 x1 x2 x3 x4 : Value} (h : B5 w g x0 x1 x2 x3 x4) (t : Tch [] w w') : B5 w' g x0 x1 x2 x3 x4 :=
  ⟨by rw [t.cell (cell_lt h.c0) (by simp)]; exact h.c0, by rw [t.cell (cell_lt h.c1) (by simp)]; exact h.c1, by rw [t.cell (cell_lt h.c2) (by simp)]; exact h.c2, by rw [t.cell (cell_lt h.c3) (by simp)]; exact h.c3, by rw [t.cell (cell_lt h.c4) (by simp)]; exact h.c4⟩
theorem B5.new (w : World) (x0 x1 x2 x3 x4 : Value) (T : TypeId) : B5 (w.alloc (.cells #[x0, x1, x2, x3, x4] T)) w.heap.size x0 x1 x2 x3 x4 := ⟨by simp [go_sem], by simp [go_sem], by simp [go_sem], by simp [go_sem], by simp [go_sem]⟩
end Go.Tcn
namespace Go.Proofs.YteebapopeaafhaaDoor
open Go.RowKit Go.Tcn
set_option linter.unusedVariables false
set_option linter.unusedSimpArgs false
set_option maxRecDepth 100000 in
set_option maxHeartbeats 4000000 in
theorem im_R1 (w : World) (g : Nat) (am : Option Addr) (n cm : Nat) (hg : w.cell? ⟨g, 3, none⟩ = some (.slice am n cm)) (x : Int) :
    Calls Tryd.prog 45 #[.int .i64 x, .pointer (some ⟨g, 0, none⟩)] w fun e w' => e = .returned (.bool (expB n x)) ∧ w = w' := by
  have hx : expB n x = (decide (0 ≤ x) && decide (x < (n : Int))) := by unfold expB; exact Bool.decide_and _ _
  by_cases h0 : 0 ≤ x
  · have d0 : decide (0 ≤ x) = true := decide_eq_true h0
    have HX := Lib.hid hx; clear hx
    go_enter Tryd.func45, Tryd.ntmps45
    go_wp2_with fail
    go_ret
    exact ⟨by rw [HX.out, d0]; rfl, rfl⟩
  · have d0 : decide (0 ≤ x) = false := decide_eq_false h0
    have HX := Lib.hid hx; clear hx
    go_enter Tryd.func45, Tryd.ntmps45
    go_wp2_with fail
    go_ret
    exact ⟨by rw [HX.out, d0]; rfl, rfl⟩
set_option maxRecDepth 100000 in
set_option maxHeartbeats 4000000 in
theorem im_all_int_1 (w : World) (b g : Nat) (am : Option Addr) (n cm : Nat) (hg : w.cell? ⟨g, 3, none⟩ = some (.slice am n cm)) (x : Int) (hb : w.cell? ⟨b, 0, none⟩ = some (.func (.func 45) #[] #[.pointer (some ⟨g, 0, none⟩)])) :
    Calls Tryd.prog 78 #[.int .i64 x, .pointer (some ⟨b, 0, none⟩)] w fun e w' => e = .returned (.bool (!expB n x)) ∧ w = w' := by
  go_enter Tryd.func78, Tryd.ntmps78
  go_wp2_with fail
  refine (im_R1 _ g am n cm hg x).mono ?_
  rintro e w1 ⟨rfl, rfl⟩
  go_wp2_with fail
  go_ret
  exact ⟨rfl, rfl⟩
set_option maxRecDepth 100000 in
set_option maxHeartbeats 4000000 in
theorem im_idx_int (w : World) (b g : Nat) (am : Option Addr) (n cm : Nat) (hg : w.cell? ⟨g, 3, none⟩ = some (.slice am n cm)) (v : Value) (l : List Int) (h : RInts w [] v l) (hm : l.length ≤ 9223372036854775807) (hb : w.cell? ⟨b, 0, none⟩ = some (.func (.func 45) #[] #[.pointer (some ⟨g, 0, none⟩)])) :
    Calls Tryd.prog 94 #[v, .func (.func 78) #[] #[.pointer (some ⟨b, 0, none⟩)]] w fun e w' => e = .returned (.int .i64 (badF (expB n) l 0)) ∧ w = w' := by
  obtain ⟨a0, c0, rfl⟩ := Src.form h
  go_enter Tryd.func94, Tryd.ntmps94
  go_wp2_with fail
  go_loopw [8] (fun i wz => ∃ k : Nat, k ≤ l.length ∧ i = .int .i64 k ∧ badF (expB n) l 0 = badF (expB n) (l.drop k) k ∧ w = wz) (fun i _ => l.length - (intOf i).toNat)
  case atStart => exact ⟨0, by omega, rfl, rfl, rfl⟩
  case round =>
    obtain ⟨k, hk1, rfl, hf, rfl⟩ := hrel
    by_cases hk : k < l.length
    · obtain ⟨ad, rfl, _, _, hq⟩ := Src.at h (j := k) (by simpa using hk)
      have hq0 : w.cell? (ad.add k) = some (.int .i64 l[k]) := by simpa [ints] using hq
      have hfd := badF_drop (expB n) l k hk
      clear hq
      generalize l[k] = x at *
      rw [hfd] at hf
      have HF := Lib.hid hf; clear hf hfd
      have hone := im_all_int_1 w b g am n cm hg x hb
      go_wp2_with fail
      refine hone.mono ?_
      rintro e w1 ⟨rfl, rfl⟩
      cases he : expB n x
      · go_wp2_with fail
        (first | go_ret | go_ret2 | go_end0)
        exact ⟨by rw [HF.out, if_pos he]; rfl, rfl⟩
      · go_wp2_with fail
        go_roundw
        case rel => exact ⟨k + 1, by omega, by go_num, by rw [HF.out, if_neg (by simp [he])], by first | rfl | trivial⟩
        case measure => simp [intOf]; omega
    · have hn : badF (expB n) l 0 = -1 := by rw [hf, List.drop_eq_nil_of_le (by omega)]; rfl
      clear hf
      go_wp2_with fail
      (first | go_ret | go_ret2 | go_end0)
      exact ⟨by rw [hn]; rfl, rfl⟩
set_option maxRecDepth 100000 in
set_option maxHeartbeats 4000000 in
theorem im_con_int (w : World) (b g : Nat) (am : Option Addr) (n cm : Nat) (hg : w.cell? ⟨g, 3, none⟩ = some (.slice am n cm)) (v : Value) (l : List Int) (h : RInts w [] v l) (hm : l.length ≤ 9223372036854775807) (hb : w.cell? ⟨b, 0, none⟩ = some (.func (.func 45) #[] #[.pointer (some ⟨g, 0, none⟩)])) :
    Calls Tryd.prog 68 #[v, .func (.func 78) #[] #[.pointer (some ⟨b, 0, none⟩)]] w fun e w' => e = .returned (.bool (!l.all (expB n))) ∧ w = w' := by
  have hI := im_idx_int w b g am n cm hg v l h hm hb
  go_enter Tryd.func68, Tryd.ntmps68
  go_wp2_with fail
  refine hI.mono ?_
  rintro e w1 ⟨rfl, rfl⟩
  have hd := badF_all (expB n) l 0
  generalize badF (expB n) l 0 = bb at *
  have HD := Lib.hid hd; clear hd
  go_wp2_with fail
  go_ret
  exact ⟨by rw [← HD.out]; rfl, rfl⟩
set_option maxRecDepth 100000 in
set_option maxHeartbeats 4000000 in
theorem im_all_int (w : World) (g : Nat) (am : Option Addr) (n cm : Nat) (hg : w.cell? ⟨g, 3, none⟩ = some (.slice am n cm)) (v : Value) (l : List Int) (h : RInts w [] v l) (hm : l.length ≤ 9223372036854775807) :
    Calls Tryd.prog 44 #[v, .func (.func 45) #[] #[.pointer (some ⟨g, 0, none⟩)]] w fun e w' => e = .returned (.bool (l.all (expB n))) ∧ Tch [] w w' := by
  have hmf : ∀ (fn : Fn) (first cap : Array Value) (w : World), (Instr.makeFunc fn first cap).run Tryd.prog w = .ok (.func fn first cap) w := fun _ _ _ _ => rfl
  obtain ⟨V, hVd⟩ : ∃ V, V = w.alloc (.cells #[.func (.func 45) #[] #[.pointer (some ⟨g, 0, none⟩)]] 78) := ⟨_, rfl⟩
  have tA : Tch [] w V := by rw [hVd]; exact (Tch.refl [] w).alloc _
  have hb : V.cell? ⟨w.heap.size, 0, none⟩ = some (.func (.func 45) #[] #[.pointer (some ⟨g, 0, none⟩)]) := by rw [hVd]; simp [go_sem]
  have hg' : V.cell? ⟨g, 3, none⟩ = some (.slice am n cm) := by rw [tA.cell (cell_lt hg) (by simp)]; exact hg
  have hC := im_con_int V w.heap.size g am n cm hg' v l (h.tch tA (by simp)) hm hb
  go_enter Tryd.func44, Tryd.ntmps44
  go_upto_region 1 with fail
  rw [← hVd]
  clear hVd
  go_wp2_with fail
  refine hC.mono ?_
  rintro e w1 ⟨rfl, rfl⟩
  cases he : l.all (expB n)
  · go_wp2_with fail
    go_ret
    exact ⟨by rw [he]; rfl, tA⟩
  · go_wp2_with fail
    go_ret
    exact ⟨by rw [he]; rfl, tA⟩

set_option maxRecDepth 100000 in
set_option maxHeartbeats 8000000 in
theorem im_Right (w : World) (i : Img) (vf vi vm ve : Value) (hf : RInts w [] vf i.fields) (hi : RImps w [] vi i.imports) (hm : RMths w [] vm i.methods) (he : RInts w [] ve i.exports) (hz : ImgZ i) (hV : ∀ nm w', nm.length ≤ 16 → Tch [] w w' → Calls Tryd.prog 66 #[.string ⟨nm.toArray⟩] w' fun e w'' => e = .returned (.bool (Lib.validD nm)) ∧ Tch [] w' w'') :
    Calls Tryd.prog 19 #[.agg #[.string ⟨i.name.toArray⟩, vf, vi, vm, ve]] w fun e w' => e = .returned (.bool (imgB i)) ∧ Tch [] w w' := by
  obtain ⟨z1, z2, z3, z4, z5, z6⟩ := hz
  obtain ⟨af, cf, rfl⟩ := Src.form hf
  obtain ⟨ai, ci, rfl⟩ := RImps.form hi
  obtain ⟨am, cm, rfl⟩ := RMths.form hm
  obtain ⟨ae, ce, rfl⟩ := Src.form he
  have hmf : ∀ (fn : Fn) (first cap : Array Value) (w : World), (Instr.makeFunc fn first cap).run Tryd.prog w = .ok (.func fn first cap) w := fun _ _ _ _ => rfl
  obtain ⟨V, hVd⟩ : ∃ V, V = w.alloc (.cells #[.string ⟨i.name.toArray⟩, .slice af i.fields.length cf, .slice ai i.imports.length ci, .slice am i.methods.length cm, .slice ae i.exports.length ce] 29) := ⟨_, rfl⟩
  have tV : Tch [] w V := by rw [hVd]; exact (Tch.refl [] w).alloc _
  have hB : ∀ W, Tch [] V W → B5 W w.heap.size (.string ⟨i.name.toArray⟩) (.slice af i.fields.length cf) (.slice ai i.imports.length ci) (.slice am i.methods.length cm) (.slice ae i.exports.length ce) := fun W t => by
    refine B5.tch ?_ t
    rw [hVd]; exact B5.new _ _ _ _ _ _ _
  have kN := fun W (t : Tch [] V W) => im_IsName W i.name (fun h16 w' t' => hV _ w' h16 ((tV.then t).then t'))
  have kF := fun W (t : Tch [] V W) => im_kinds W _ i.fields (hf.tch (tV.then t) (by simp)) z1 8
  have kI := fun W (t : Tch [] V W) => im_all_imp W _ i.imports (hi.tch (tV.then t) (by simp)) z2 z3 (fun nm w' h16 t' => hV nm w' h16 ((tV.then t).then t'))
  have kM := fun W (t : Tch [] V W) => im_all_mth W _ i.methods (hm.tch (tV.then t) (by simp)) z4 z5
  have kE := fun W (t : Tch [] V W) => im_all_int W w.heap.size am i.methods.length cm (hB W t).c3 _ i.exports (he.tch (tV.then t) (by simp)) z6
  have hib : imgB i = (nameB i.name && kindsB i.fields 8 && decide (i.imports.length ≤ 4) && i.imports.all impB && decide (1 ≤ i.methods.length ∧ i.methods.length ≤ 8) && i.methods.all mthB && firstB i.methods && decide (i.exports.length ≤ 4) && i.exports.all (expB i.methods.length)) := rfl
  have hfm : 0 < i.methods.length → ∃ ad p0 q0 c0 r0, am = some ad ∧ ad.block < w.heap.size ∧ firstB i.methods = (decide (p0 = 0) && decide (r0 = 0)) ∧ (∀ W, Tch [] V W → W.cell? ad = some (.slice q0 p0 c0) ∧ W.cell? ⟨ad.block, ad.off + 1, none⟩ = some (.int .i64 r0)) := fun h0 => by
    obtain ⟨ad, vp, vl, vc, e, hlt, ip, il, ic, hcc⟩ := RMths.at hm h0
    obtain ⟨q0, c0, rfl⟩ := Src.form ip
    refine ⟨ad, (i.methods[0]).params.length, q0, c0, (i.methods[0]).result, e, hlt, ?_, fun W t => ?_⟩
    · generalize hms : i.methods = ms at *
      cases ms with
      | nil => simp at h0
      | cons m ms => rfl
    · have tW := tV.then t
      have e0 := hcc 0 _ rfl
      have e1 := hcc 1 _ rfl
      rw [Nat.zero_mul, Addr_add_zero] at e0 e1
      rw [Addr_add_zero] at e0
      have ea : ad.add 1 = ⟨ad.block, ad.off + 1, none⟩ := by simp [Addr.add]
      rw [ea] at e1
      exact ⟨by rw [tW.cell hlt (by simp)]; exact e0, by rw [tW.cell (p := ⟨ad.block, ad.off + 1, none⟩) hlt (by simp)]; exact e1⟩
  clear hf hi hm he
  go_enter Tryd.func19, Tryd.ntmps19
  go_upto_region 1 with fail
  rw [← hVd]
  clear hVd hV
  have HIB := Lib.hid hib; clear hib
  obtain ⟨b0, b1, b2, b3, b4⟩ := hB V (Tch.refl _ _)
  go_wp2_with fail
  refine (kN V (Tch.refl _ _)).mono ?_
  rintro e w1 ⟨rfl, t1⟩
  clear b0 b1 b2 b3 b4 kN
  obtain ⟨b0, b1, b2, b3, b4⟩ := hB w1 t1
  cases hn : nameB i.name
  · go_wp2_with fail
    go_ret
    exact ⟨by rw [HIB.out, hn]; rfl, tV.then t1⟩
  go_wp2_with fail
  refine (kF w1 t1).mono ?_
  rintro e w2 ⟨rfl, rfl⟩
  cases hkf : kindsB i.fields 8
  · go_wp2_with fail
    go_ret
    exact ⟨by rw [HIB.out, hn, hkf]; rfl, tV.then t1⟩
  by_cases hl4 : i.imports.length ≤ 4
  · have d4 : decide ((4 : Int) < (i.imports.length : Int)) = false := decide_eq_false (by omega)
    have D4 := Lib.hid (decide_eq_true hl4)
    go_wp2_with fail
    refine (kI w1 t1).mono ?_
    rintro e w2 ⟨rfl, t2⟩
    have t12 := t1.then t2
    clear b0 b1 b2 b3 b4 kI kF
    obtain ⟨b0, b1, b2, b3, b4⟩ := hB w2 t12
    cases hai : i.imports.all impB
    · go_wp2_with fail
      go_ret
      exact ⟨by rw [HIB.out, hn, hkf, D4.out, hai]; rfl, tV.then t12⟩
    clear t2
    by_cases hl8 : 1 ≤ i.methods.length ∧ i.methods.length ≤ 8
    · have D8 := Lib.hid (decide_eq_true hl8)
      obtain ⟨ad, p0, q0, c0, r0, rfl, hadl, hfb, hcc⟩ := hfm (by omega)
      have d5 : decide ((i.methods.length : Int) < 1) = false := decide_eq_false (by omega)
      have d6 : decide ((8 : Int) < (i.methods.length : Int)) = false := decide_eq_false (by omega)
      have HFB := Lib.hid hfb; clear hfb hfm
      go_wp2_with fail
      refine (kM w2 t12).mono ?_
      rintro e w3 ⟨rfl, t3⟩
      have t13 := t12.then t3
      clear b0 b1 b2 b3 b4 kM
      obtain ⟨b0, b1, b2, b3, b4⟩ := hB w3 t13
      cases ham : i.methods.all mthB
      · go_wp2_with fail
        go_ret
        exact ⟨by rw [HIB.out, hn, hkf, D4.out, hai, D8.out, ham]; rfl, tV.then t13⟩
      obtain ⟨m0, m1⟩ := hcc w3 t13
      clear hcc
      by_cases hp0 : p0 = 0
      · subst hp0
        by_cases hr0 : r0 = 0
        · subst hr0
          have hb1 : firstB i.methods = true := by rw [HFB.out]; rfl
          have HB := Lib.hid hb1; clear hb1 HFB
          by_cases hle : i.exports.length ≤ 4
          · have D9 := Lib.hid (decide_eq_true hle)
            have d7 : decide ((i.exports.length : Int) ≤ 4) = true := decide_eq_true (by omega)
            go_wp2_with fail
            refine (kE w3 t13).mono ?_
            rintro e w4 ⟨rfl, t4⟩
            go_wp2_with fail
            go_ret
            exact ⟨by rw [HIB.out, hn, hkf, D4.out, hai, D8.out, ham, HB.out, D9.out]; simp, tV.then (t13.then t4)⟩
          · have D9 := Lib.hid (decide_eq_false hle)
            have d7 : decide ((i.exports.length : Int) ≤ 4) = false := decide_eq_false (by omega)
            go_wp2_with fail
            go_ret
            exact ⟨by rw [HIB.out, hn, hkf, D4.out, hai, D8.out, ham, HB.out, D9.out]; rfl, tV.then t13⟩
        · have hr1 : (r0 == 0) = false := beq_eq_false_iff_ne.2 hr0
          have hb1 : firstB i.methods = false := by rw [HFB.out]; simp [hr0]
          have HB := Lib.hid hb1; clear hb1 HFB
          go_wp2_with fail
          go_ret
          exact ⟨by rw [HIB.out, hn, hkf, D4.out, hai, D8.out, ham, HB.out]; rfl, tV.then t13⟩
      · have hb1 : firstB i.methods = false := by rw [HFB.out]; simp [hp0]
        have HB := Lib.hid hb1; clear hb1 HFB
        have d7 : decide ((0 : Int) < (p0 : Int)) = true := decide_eq_true (by omega)
        go_wp2_with fail
        go_ret
        exact ⟨by rw [HIB.out, hn, hkf, D4.out, hai, D8.out, ham, HB.out]; rfl, tV.then t13⟩
    · have D8 := Lib.hid (decide_eq_false hl8)
      have hcs : decide ((i.methods.length : Int) < 1) = true ∨ (decide ((i.methods.length : Int) < 1) = false ∧ decide ((8 : Int) < (i.methods.length : Int)) = true) := by
        simp only [decide_eq_true_eq, decide_eq_false_iff_not]; omega
      rcases hcs with d5 | ⟨d5, d6⟩
      · go_wp2_with fail
        go_ret
        exact ⟨by rw [HIB.out, hn, hkf, D4.out, hai, D8.out]; rfl, tV.then t12⟩
      · go_wp2_with fail
        go_ret
        exact ⟨by rw [HIB.out, hn, hkf, D4.out, hai, D8.out]; rfl, tV.then t12⟩
  · have d4 : decide ((4 : Int) < (i.imports.length : Int)) = true := decide_eq_true (by omega)
    have D4 := Lib.hid (decide_eq_false hl4)
    go_wp2_with fail
    go_ret
    exact ⟨by rw [HIB.out, hn, hkf, D4.out]; rfl, tV.then t1⟩
end Go.Proofs.YteebapopeaafhaaDoor
