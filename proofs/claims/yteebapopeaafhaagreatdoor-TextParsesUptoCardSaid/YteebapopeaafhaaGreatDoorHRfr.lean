/-
  CONTRACTS: kinds, Right, list of the reference of chapter 4. Conditions: sizes of 64 bits; utf8's tables as they are laid.
-/
import Derived.Test.YteebapopeaafhaaGreatDoorHImr
import Derived.Test.YteebapopeaafhaaGreatDoorHImx
namespace Go.Tcn
open Go.RowKit
set_option linter.unusedVariables false
set_option linter.unusedSimpArgs false
theorem all_take {α : Type} (p : α → Bool) (l : List α) (k : Nat) (hk : k < l.length) : (l.take (k + 1)).all p = ((l.take k).all p && p l[k]) := by
  rw [← List.take_append_getElem hk, List.all_append]; simp
theorem all_no {α : Type} (p : α → Bool) (l : List α) (k : Nat) (hk : k < l.length) (h : p l[k] = false) : l.all p = false := by
  rw [List.all_eq_false]
  exact ⟨l[k], List.getElem_mem hk, by simp [h]⟩
theorem all_end {α : Type} (p : α → Bool) (l : List α) (k : Nat) (hk : ¬ k < l.length) (h : (l.take k).all p = true) : l.all p = true := by
  rw [List.take_of_length_le (by omega)] at h; exact h
end Go.Tcn
namespace Go.Proofs.YteebapopeaafhaaGreatDoor
open Go.RowKit Go.Tcn
set_option linter.unusedVariables false
set_option linter.unusedSimpArgs false
set_option maxRecDepth 100000 in
set_option maxHeartbeats 4000000 in
theorem rf_kinds (w : World) (v : Value) (l : List Int) (h : RInts w [] v l) (hm : l.length ≤ 9223372036854775807) (most : Int) :
    Calls Tryz.prog 54 #[v, .int .i64 most] w fun e w' => e = .returned (.bool (kindsB l most)) ∧ w = w' := by
  obtain ⟨a0, c0, rfl⟩ := h.form
  have hkb : kindsB l most = (decide ((l.length : Int) ≤ most) && l.all kindB) := rfl
  have HK := Lib.hid hkb; clear hkb
  go_enter Tryz.func54, Tryz.ntmps54
  go_wp2_with fail
  go_loopw [5] (fun i wz => ∃ k : Nat, k ≤ l.length ∧ i = .int .i64 k ∧ (l.take k).all kindB = true ∧ w = wz) (fun i _ => l.length - (intOf i).toNat)
  case atStart => exact ⟨0, by omega, rfl, rfl, rfl⟩
  case round =>
    obtain ⟨k, hk1, rfl, hf, rfl⟩ := hrel
    by_cases hk : k < l.length
    · obtain ⟨ad, rfl, _, _, hq⟩ := Src.at h (j := k) (by simpa using hk)
      have hq0 : w.cell? (ad.add k) = some (.int .i64 l[k]) := by simpa [ints] using hq
      have hts := all_take kindB l k hk
      have hno : kindB l[k] = false → kindsB l most = false := fun e => by rw [HK.out, all_no kindB l k hk e]; simp
      clear hq
      generalize l[k] = x at *
      rw [hf] at hts
      have HT := Lib.hid hts
      have HN := Lib.hid hno
      clear hts hno hf
      by_cases h1 : x < 1
      · have HB := Lib.hid (HN.out (by simp [kindB]; omega))
        go_wp2_with fail
        go_ret
        exact ⟨by rw [HB.out]; try rfl, rfl⟩
      by_cases h2 : 4 < x
      · have HB := Lib.hid (HN.out (by simp [kindB]; omega))
        go_wp2_with fail
        go_ret
        exact ⟨by rw [HB.out]; try rfl, rfl⟩
      have HB := Lib.hid (show kindB x = true by simp [kindB]; omega)
      go_wp2_with fail
      go_roundw
      case rel => exact ⟨k + 1, by omega, by go_num, by rw [HT.out, HB.out]; rfl, by first | rfl | trivial⟩
      case measure => simp [intOf]; omega
    · have HA := Lib.hid (all_end kindB l k hk hf)
      clear hf
      go_wp2_with fail
      go_ret
      exact ⟨by rw [HK.out, HA.out]; simp, rfl⟩
set_option maxRecDepth 100000 in
set_option maxHeartbeats 8000000 in
theorem rf_Right (w : World) (i : Img) (vf vi vm ve : Value) (hf : RInts w [] vf i.fields) (hi : RImps w [] vi i.imports) (hm : RMths w [] vm i.methods) (he : RInts w [] ve i.exports) (hz : ImgZ i) (hV : ∀ nm w', nm.length ≤ 16 → Tch [] w w' → Calls Tryz.prog 78 #[.string ⟨nm.toArray⟩] w' fun e w'' => e = .returned (.bool (Lib.validD nm)) ∧ Tch [] w' w'') :
    Calls Tryz.prog 22 #[.agg #[.string ⟨i.name.toArray⟩, vf, vi, vm, ve]] w fun e w' => e = .returned (.bool (imgB i)) ∧ Tch [] w w' := by
  obtain ⟨z1, z2, z3, z4, z5, z6⟩ := hz
  obtain ⟨af, cf, rfl⟩ := Src.form hf
  obtain ⟨ai, ci, rfl⟩ := RImps.form hi
  obtain ⟨am, cm, rfl⟩ := RMths.form hm
  obtain ⟨ae, ce, rfl⟩ := Src.form he
  obtain ⟨V, hVd⟩ : ∃ V, V = w.alloc (.cells #[.string ⟨i.name.toArray⟩, .slice af i.fields.length cf, .slice ai i.imports.length ci, .slice am i.methods.length cm, .slice ae i.exports.length ce] 30) := ⟨_, rfl⟩
  have tV : Tch [] w V := by rw [hVd]; exact (Tch.refl [] w).alloc _
  have hB : ∀ W, Tch [] V W → B5 W w.heap.size (.string ⟨i.name.toArray⟩) (.slice af i.fields.length cf) (.slice ai i.imports.length ci) (.slice am i.methods.length cm) (.slice ae i.exports.length ce) := fun W t => by
    refine B5.tch ?_ t
    rw [hVd]; exact B5.new _ _ _ _ _ _ _
  have kN := fun W (t : Tch [] V W) nm => ref_IsName W nm (fun h16 w' t' => hV _ w' h16 ((tV.then t).then t'))
  have kF := fun W (t : Tch [] V W) => rf_kinds W _ i.fields (hf.tch (tV.then t) (by simp)) z1 8
  have hIx := fun (W : World) (t : Tch [] V W) k (hk : k < i.imports.length) => RImps.at (hi.tch (tV.then t) (by simp)) hk
  have hMx := fun (W : World) (t : Tch [] V W) k (hk : k < i.methods.length) => RMths.at (hm.tch (tV.then t) (by simp)) hk
  have hEx := fun (W : World) (t : Tch [] V W) k (hk : k < i.exports.length) => Src.at (he.tch (tV.then t) (by simp)) (j := k) (by simpa using hk)
  have hib : imgB i = (nameB i.name && kindsB i.fields 8 && decide (i.imports.length ≤ 4) && i.imports.all impB && decide (1 ≤ i.methods.length ∧ i.methods.length ≤ 8) && i.methods.all mthB && firstB i.methods && decide (i.exports.length ≤ 4) && i.exports.all (expB i.methods.length)) := rfl
  have hfm : 0 < i.methods.length → ∃ ad p0 q0 c0 r0, am = some ad ∧ ad.block < w.heap.size ∧ firstB i.methods = (decide (p0 = 0) && decide (r0 = 0)) ∧ (∀ W, Tch [] V W → W.cell? ad = some (.slice q0 p0 c0) ∧ W.cell? ⟨ad.block, ad.off + 1, none⟩ = some (.int .i64 r0)) := fun h0 => by
    obtain ⟨ad, vp, vl, vc, e, hlt, ip, il, ic, hcc⟩ := RMths.at hm h0
    obtain ⟨q0, c0, rfl⟩ := Src.form ip
    refine ⟨ad, (i.methods[0]).params.length, q0, c0, (i.methods[0]).result, e, hlt, ?_, fun W t => ?_⟩
    · generalize hms : i.methods = ms at *
      cases ms with
      | nil => simp at h0
      | cons m ms => rfl
    · have tW := tV.then t
      have e0 := hcc 0 _ rfl
      have e1 := hcc 1 _ rfl
      rw [Nat.zero_mul, Addr_add_zero] at e0 e1
      rw [Addr_add_zero] at e0
      have ea : ad.add 1 = ⟨ad.block, ad.off + 1, none⟩ := by simp [Addr.add]
      rw [ea] at e1
      exact ⟨by rw [tW.cell hlt (by simp)]; exact e0, by rw [tW.cell (p := ⟨ad.block, ad.off + 1, none⟩) hlt (by simp)]; exact e1⟩
  clear hf hi hm he
  go_enter Tryz.func22, Tryz.ntmps22
  go_upto_region 1 with fail
  rw [← hVd]
  clear hVd hV
  have HIB := Lib.hid hib; clear hib
  obtain ⟨b0, b1, b2, b3, b4⟩ := hB V (Tch.refl _ _)
  go_wp2_with fail
  refine (kN V (Tch.refl _ _) _).mono ?_
  rintro e w1 ⟨rfl, t1⟩
  clear b0 b1 b2 b3 b4
  obtain ⟨b0, b1, b2, b3, b4⟩ := hB w1 t1
  cases hn : nameB i.name
  · go_wp2_with fail
    go_ret
    exact ⟨by rw [HIB.out, hn]; simp, tV.then t1⟩
  go_wp2_with fail
  refine (kF w1 t1).mono ?_
  rintro e w2 ⟨rfl, rfl⟩
  clear kF
  cases hkf : kindsB i.fields 8
  · go_wp2_with fail
    go_ret
    exact ⟨by rw [HIB.out, hkf]; simp, tV.then t1⟩
  by_cases hl4n : ¬ i.imports.length ≤ 4
  · have hl4 := hl4n
    have d4 : decide ((4 : Int) < (i.imports.length : Int)) = true := decide_eq_true (by omega)
    have D4 := Lib.hid (decide_eq_false hl4)
    go_wp2_with fail
    go_ret
    exact ⟨by rw [HIB.out, D4.out]; simp, tV.then t1⟩
  have hl4 : i.imports.length ≤ 4 := by omega
  have d4 : decide ((4 : Int) < (i.imports.length : Int)) = false := decide_eq_false (by omega)
  by_cases hm1n : ¬ 1 ≤ i.methods.length
  · have hm1 := hm1n
    have d5 : decide ((i.methods.length : Int) < 1) = true := decide_eq_true (by omega)
    have D5 := Lib.hid (show decide (1 ≤ i.methods.length ∧ i.methods.length ≤ 8) = false from decide_eq_false (by omega))
    go_wp2_with fail
    go_ret
    exact ⟨by rw [HIB.out, D5.out]; simp, tV.then t1⟩
  have hm1 : 1 ≤ i.methods.length := by omega
  have d5 : decide ((i.methods.length : Int) < 1) = false := decide_eq_false (by omega)
  by_cases hm8n : ¬ i.methods.length ≤ 8
  · have hm8 := hm8n
    have d6 : decide ((8 : Int) < (i.methods.length : Int)) = true := decide_eq_true (by omega)
    have D5 := Lib.hid (show decide (1 ≤ i.methods.length ∧ i.methods.length ≤ 8) = false from decide_eq_false (by omega))
    go_wp2_with fail
    go_ret
    exact ⟨by rw [HIB.out, D5.out]; simp, tV.then t1⟩
  have hm8 : i.methods.length ≤ 8 := by omega
  have d6 : decide ((8 : Int) < (i.methods.length : Int)) = false := decide_eq_false (by omega)
  by_cases hlen : ¬ i.exports.length ≤ 4
  · have hle := hlen
    have d7 : decide ((4 : Int) < (i.exports.length : Int)) = true := decide_eq_true (by omega)
    have D7 := Lib.hid (decide_eq_false hle)
    go_wp2_with fail
    go_ret
    exact ⟨by rw [HIB.out, D7.out]; simp, tV.then t1⟩
  have hle : i.exports.length ≤ 4 := by omega
  have d7 : decide ((4 : Int) < (i.exports.length : Int)) = false := decide_eq_false (by omega)
  have D4 := Lib.hid (decide_eq_true hl4)
  have D5 := Lib.hid (show decide (1 ≤ i.methods.length ∧ i.methods.length ≤ 8) = true from decide_eq_true (by omega))
  have D7 := Lib.hid (decide_eq_true hle)
  have HN := Lib.hid hn; clear hn
  have HKF := Lib.hid hkf; clear hkf
  go_wp2_with fail
  clear b0 b1 b2 b3 b4 d4 d5 d6 d7
  go_loopw [3] (fun iv wz => ∃ k : Nat, k ≤ i.imports.length ∧ iv = .int .i64 k ∧ (i.imports.take k).all impB = true ∧ Tch [] V wz) (fun iv _ => i.imports.length - (intOf iv).toNat)
  case atStart => exact ⟨0, by omega, rfl, rfl, t1⟩
  case round =>
    obtain ⟨k, hk1, rfl, htk, ht⟩ := hrel
    clear t1
    obtain ⟨b0, b1, b2, b3, b4⟩ := hB wr ht
    by_cases hk : k < i.imports.length
    · obtain ⟨ad, vp, hax, hadl, hip, hcx⟩ := hIx wr ht k hk
      subst hax
      have hts := all_take impB i.imports k hk
      rw [htk] at hts
      have hno : impB i.imports[k] = false → imgB i = false := fun e => by rw [HIB.out, all_no impB _ k hk e]; simp
      have zx := z3 _ (List.getElem_mem hk)
      clear hIx hMx hEx hfm
      generalize i.imports[k] = x at *
      obtain ⟨ap, cp, rfl⟩ := Src.form hip
      have hcx1 : ∀ (j : Nat) u, (#[.string ⟨x.name.toArray⟩, .int .i64 x.exp, .slice ap x.params.length cp, .int .i64 x.result] : Array Value).toList[j]? = some u → wr.cell? ((ad.add (k * 4)).add j) = some u := hcx
      have hxb : impB x = (nameB x.name && decide (0 ≤ x.exp ∧ x.exp < 4) && kindsB x.params 4 && resB x.result) := rfl
      have HT := Lib.hid hts
      have HXB := Lib.hid hxb
      clear hts htk hcx hxb
      go_upto_region 7 with (first | (refine wpList_load_agg rfl 51 (.tmp 53) rfl (ad.add (k * 4)) rfl #[.string ⟨x.name.toArray⟩, .int .i64 x.exp, .slice ap x.params.length cp, .int .i64 x.result] _ hcx1 Tryz.underlying51 rfl (by kernel_rfl) ?_) | fail)
      obtain ⟨V1, hV1⟩ : ∃ W, W = wr.alloc (.cells #[.string ⟨x.name.toArray⟩, .int .i64 x.exp, .slice ap x.params.length cp, .int .i64 x.result] 51) := ⟨_, rfl⟩
      have q1 : Tch [] wr V1 := by rw [hV1]; exact (Tch.refl [] wr).alloc _
      have hA1 : Bq V1 wr.heap.size (.string ⟨x.name.toArray⟩) (.int .i64 x.exp) (.slice ap x.params.length cp) (.int .i64 x.result) := by rw [hV1]; exact Bq.new wr _ _ _ _ _
      rw [← hV1]
      clear hV1 hcx1 b0 b1 b2 b3 b4
      have T1 := ht.then q1
      obtain ⟨x0, x1, x2, x3⟩ := id hA1
      go_wp2_with fail
      refine (kN V1 T1 _).mono ?_
      rintro e w3 ⟨rfl, t3⟩
      clear x0 x1 x2 x3
      obtain ⟨x0, x1, x2, x3⟩ := hA1.tch t3 (by simp)
      cases hxn : nameB x.name
      · have HF := Lib.hid (hno (by rw [HXB.out, hxn]; simp))
        clear hno
        go_wp2_with fail
        go_ret
        exact ⟨by rw [HF.out]; try rfl, tV.then (T1.then t3)⟩
      have HXN := Lib.hid hxn; clear hxn
      by_cases e0 : x.exp < 0
      · have HE := Lib.hid (show decide (0 ≤ x.exp ∧ x.exp < 4) = false from decide_eq_false (by omega))
        have HF := Lib.hid (hno (by rw [HXB.out, HE.out]; simp))
        clear hno
        go_wp2_with fail
        go_ret
        exact ⟨by rw [HF.out]; try rfl, tV.then (T1.then t3)⟩
      by_cases e4 : 4 ≤ x.exp
      · have HE := Lib.hid (show decide (0 ≤ x.exp ∧ x.exp < 4) = false from decide_eq_false (by omega))
        have HF := Lib.hid (hno (by rw [HXB.out, HE.out]; simp))
        clear hno
        go_wp2_with fail
        go_ret
        exact ⟨by rw [HF.out]; try rfl, tV.then (T1.then t3)⟩
      have HE := Lib.hid (show decide (0 ≤ x.exp ∧ x.exp < 4) = true from decide_eq_true (by omega))
      have hKP := rf_kinds w3 _ x.params (hip.tch (q1.then t3) (by simp)) zx 4
      go_wp2_with fail
      refine hKP.mono ?_
      rintro e w4 ⟨rfl, rfl⟩
      clear hKP
      cases hxp : kindsB x.params 4
      · have HF := Lib.hid (hno (by rw [HXB.out, hxp]; simp))
        clear hno
        go_wp2_with fail
        go_ret
        exact ⟨by rw [HF.out]; try rfl, tV.then (T1.then t3)⟩
      have HXP := Lib.hid hxp; clear hxp
      by_cases r0 : x.result < 0
      · have HR := Lib.hid (show resB x.result = false from decide_eq_false (by omega))
        have HF := Lib.hid (hno (by rw [HXB.out, HR.out]; simp))
        clear hno
        go_wp2_with fail
        go_ret
        exact ⟨by rw [HF.out]; try rfl, tV.then (T1.then t3)⟩
      by_cases r4 : 4 < x.result
      · have HR := Lib.hid (show resB x.result = false from decide_eq_false (by omega))
        have HF := Lib.hid (hno (by rw [HXB.out, HR.out]; simp))
        clear hno
        go_wp2_with fail
        go_ret
        exact ⟨by rw [HF.out]; try rfl, tV.then (T1.then t3)⟩
      have HR := Lib.hid (show resB x.result = true from decide_eq_true (by omega))
      have HXX := Lib.hid (show impB x = true by rw [HXB.out, HXN.out, HE.out, HXP.out, HR.out]; rfl)
      clear hno
      go_wp2_with fail
      go_roundw
      case rel => exact ⟨k + 1, by omega, by go_num, by rw [HT.out, HXX.out]; rfl, T1.then t3⟩
      case measure => simp [intOf]; omega
    · have HAI := Lib.hid (all_end impB _ k hk htk)
      clear htk hIx
      go_wp2_with fail
      clear b0 b1 b2 b3 b4
      go_loopw [5] (fun iv wz => ∃ k : Nat, k ≤ i.methods.length ∧ iv = .int .i64 k ∧ (i.methods.take k).all mthB = true ∧ Tch [] V wz) (fun iv _ => i.methods.length - (intOf iv).toNat)
      case atStart => exact ⟨0, by omega, rfl, rfl, ht⟩
      case round =>
        clear ht hk1 hk
        obtain ⟨k, hk1, rfl, htk, ht⟩ := hrel
        obtain ⟨b0, b1, b2, b3, b4⟩ := hB wr ht
        by_cases hk : k < i.methods.length
        · obtain ⟨ad, vp, vl, vc, hax, hadl, hip, hil, hic, hcx⟩ := hMx wr ht k hk
          subst hax
          have hts := all_take mthB i.methods k hk
          rw [htk] at hts
          have hno : mthB i.methods[k] = false → imgB i = false := fun e => by rw [HIB.out, all_no mthB _ k hk e]; simp
          have zx := z5 _ (List.getElem_mem hk)
          clear hMx hEx hfm
          generalize i.methods[k] = x at *
          obtain ⟨zx1, zx2, zx3, zx4⟩ := zx
          obtain ⟨ap, cp, rfl⟩ := Src.form hip
          obtain ⟨al, cl, rfl⟩ := Src.form hil
          obtain ⟨ak, ck, rfl⟩ := RCode.form hic
          have hcx1 : ∀ (j : Nat) u, (#[.slice ap x.params.length cp, .int .i64 x.result, .slice al x.locals.length cl, .slice ak x.code.length ck] : Array Value).toList[j]? = some u → wr.cell? ((ad.add (k * 4)).add j) = some u := hcx
          have hxb : mthB x = (kindsB x.params 4 && resB x.result && kindsB x.locals (10 - x.params.length) && decide (1 ≤ x.code.length ∧ x.code.length ≤ 120) && x.code.all insB) := rfl
          have HT := Lib.hid hts
          have HXB := Lib.hid hxb
          clear hts htk hcx hxb
          go_upto_region 13 with (first | (refine wpList_load_agg rfl 55 (.tmp 95) rfl (ad.add (k * 4)) rfl #[.slice ap x.params.length cp, .int .i64 x.result, .slice al x.locals.length cl, .slice ak x.code.length ck] _ hcx1 Tryz.underlying55 rfl (by kernel_rfl) ?_) | fail)
          obtain ⟨V1, hV1⟩ : ∃ W, W = wr.alloc (.cells #[.slice ap x.params.length cp, .int .i64 x.result, .slice al x.locals.length cl, .slice ak x.code.length ck] 55) := ⟨_, rfl⟩
          have q1 : Tch [] wr V1 := by rw [hV1]; exact (Tch.refl [] wr).alloc _
          have hA1 : Bq V1 wr.heap.size (.slice ap x.params.length cp) (.int .i64 x.result) (.slice al x.locals.length cl) (.slice ak x.code.length ck) := by rw [hV1]; exact Bq.new wr _ _ _ _ _
          rw [← hV1]
          clear hV1 hcx1 b0 b1 b2 b3 b4
          have T1 := ht.then q1
          have hKP := rf_kinds V1 _ x.params (hip.tch q1 (by simp)) zx1 4
          have hKL := rf_kinds V1 _ x.locals (hil.tch q1 (by simp)) zx2 (10 - x.params.length)
          have hCx := fun (W : World) (t : Tch [] V1 W) j (hj : j < x.code.length) => RCode.at (hic.tch (q1.then t) (by simp)) hj
          have hAx := fun W (t : Tch [] V1 W) => hA1.tch t (by simp)
          obtain ⟨x0, x1, x2, x3⟩ := id hA1
          clear hip hil hic hA1
          go_wp2_with fail
          refine hKP.mono ?_
          rintro e w3 ⟨rfl, rfl⟩
          clear hKP
          cases hxp : kindsB x.params 4
          · have HF := Lib.hid (hno (by rw [HXB.out, hxp]; simp))
            clear hno
            go_wp2_with fail
            go_ret
            exact ⟨by rw [HF.out]; try rfl, tV.then T1⟩
          have hp4 : x.params.length ≤ 4 := by have := (kindsB_le hxp).1; omega
          have ew : wrap64 (10 - (x.params.length : Int)) = 10 - (x.params.length : Int) := IntWalk.wrap64_in _ (by omega)
          have HXP := Lib.hid hxp; clear hxp
          by_cases r0 : x.result < 0
          · have HR := Lib.hid (show resB x.result = false from decide_eq_false (by omega))
            have HF := Lib.hid (hno (by rw [HXB.out, HR.out]; simp))
            clear hno
            go_wp2_with fail
            go_ret
            exact ⟨by rw [HF.out]; try rfl, tV.then T1⟩
          by_cases r4 : 4 < x.result
          · have HR := Lib.hid (show resB x.result = false from decide_eq_false (by omega))
            have HF := Lib.hid (hno (by rw [HXB.out, HR.out]; simp))
            clear hno
            go_wp2_with fail
            go_ret
            exact ⟨by rw [HF.out]; try rfl, tV.then T1⟩
          have HR := Lib.hid (show resB x.result = true from decide_eq_true (by omega))
          go_wp2_with fail
          refine hKL.mono ?_
          rintro e w4 ⟨rfl, rfl⟩
          clear hKL ew
          cases hxl : kindsB x.locals (10 - x.params.length)
          · have HF := Lib.hid (hno (by rw [HXB.out, hxl]; simp))
            clear hno
            go_wp2_with fail
            go_ret
            exact ⟨by rw [HF.out]; try rfl, tV.then T1⟩
          have HXL := Lib.hid hxl; clear hxl
          by_cases c1 : (x.code.length : Int) < 1
          · have HC := Lib.hid (show decide (1 ≤ x.code.length ∧ x.code.length ≤ 120) = false from decide_eq_false (by omega))
            have HF := Lib.hid (hno (by rw [HXB.out, HC.out]; simp))
            clear hno
            go_wp2_with fail
            go_ret
            exact ⟨by rw [HF.out]; try rfl, tV.then T1⟩
          by_cases c2 : 120 < (x.code.length : Int)
          · have HC := Lib.hid (show decide (1 ≤ x.code.length ∧ x.code.length ≤ 120) = false from decide_eq_false (by omega))
            have HF := Lib.hid (hno (by rw [HXB.out, HC.out]; simp))
            clear hno
            go_wp2_with fail
            go_ret
            exact ⟨by rw [HF.out]; try rfl, tV.then T1⟩
          have HC := Lib.hid (show decide (1 ≤ x.code.length ∧ x.code.length ≤ 120) = true from decide_eq_true (by omega))
          go_wp2_with fail
          clear x0 x1 x2 x3
          go_loopw [7] (fun iv wz => ∃ j : Nat, j ≤ x.code.length ∧ iv = .int .i64 j ∧ (x.code.take j).all insB = true ∧ Tch [] V1 wz) (fun iv _ => x.code.length - (intOf iv).toNat)
          case atStart => exact ⟨0, by omega, rfl, rfl, Tch.refl _ _⟩
          case round =>
            obtain ⟨j, hj1, rfl, htj, t3⟩ := hrel
            obtain ⟨x0, x1, x2, x3⟩ := hAx wr t3
            by_cases hj : j < x.code.length
            · obtain ⟨ed, hex, _, hcy⟩ := hCx wr t3 j hj
              subst hex
              have hty := all_take insB x.code j hj
              rw [htj] at hty
              have hnoy : insB x.code[j] = false → imgB i = false := fun e => hno (by rw [HXB.out, all_no insB _ j hj e]; simp)
              clear hCx hno
              generalize x.code[j] = y at *
              have HTY := Lib.hid hty
              have HNY := Lib.hid hnoy
              clear hty htj hnoy
              go_wp2_with (first | (refine wpList_load_agg rfl 57 (.tmp 143) rfl (ed.add (j * 3)) rfl #[.int .i64 y.op, .int .i64 y.a, .int .i64 y.b] _ hcy Tryz.underlying57 rfl (by kernel_rfl) ?_) | fail)
              refine (ref_Right y.op y.a y.b _).mono ?_
              rintro e w5 ⟨rfl, t5⟩
              clear hcy
              have hyb : insB y = rightI y.op y.a y.b := rfl
              cases hyr : rightI y.op y.a y.b
              · have HF := Lib.hid (HNY.out (by rw [hyb, hyr]))
                clear hyb
                go_wp2_with fail
                go_ret
                exact ⟨by rw [HF.out]; try rfl, tV.then (T1.then (t3.then t5))⟩
              · have HYB := Lib.hid (show insB y = true by rw [hyb, hyr])
                clear hyb
                go_wp2_with fail
                go_roundw
                case rel => exact ⟨j + 1, by omega, by go_num, by rw [HTY.out, HYB.out]; rfl, t3.then t5⟩
                case measure => simp [intOf]; omega
            · have HAC := Lib.hid (all_end insB _ j hj htj)
              clear htj
              have HXX := Lib.hid (show mthB x = true by rw [HXB.out, HXP.out, HR.out, HXL.out, HC.out, HAC.out]; rfl)
              clear hno hCx
              go_wp2_with fail
              go_roundw
              case rel => exact ⟨k + 1, by omega, by go_num, by rw [HT.out, HXX.out]; rfl, T1.then t3⟩
              case measure => simp [intOf]; omega
        · have HAM := Lib.hid (all_end mthB _ k hk htk)
          clear htk hMx
          go_wp2_with fail
          clear b0 b1 b2 b3 b4
          go_loopw [8] (fun iv wz => ∃ k : Nat, k ≤ i.exports.length ∧ iv = .int .i64 k ∧ (i.exports.take k).all (expB i.methods.length) = true ∧ Tch [] V wz) (fun iv _ => i.exports.length - (intOf iv).toNat)
          case atStart => exact ⟨0, by omega, rfl, rfl, ht⟩
          case round =>
            clear ht hk1 hk
            obtain ⟨k, hk1, rfl, htk, ht⟩ := hrel
            by_cases hk : k < i.exports.length
            · obtain ⟨ad, hax, hadl, _, hq⟩ := hEx wr.drew ht.drew k hk
              subst hax
              have hq0 : wr.drew.cell? (ad.add k) = some (.int .i64 i.exports[k]) := by simpa [ints] using hq
              have hts := all_take (expB i.methods.length) i.exports k hk
              rw [htk] at hts
              have hno : expB i.methods.length i.exports[k] = false → imgB i = false := fun e => by rw [HIB.out, all_no (expB i.methods.length) _ k hk e]; simp
              clear hEx hq hfm
              generalize i.exports[k] = x at *
              have HT := Lib.hid hts
              have HNO := Lib.hid hno
              clear hts htk hno
              obtain ⟨b0, b1, b2, b3, b4⟩ := hB wr ht
              obtain ⟨d0, d1, d2, d3, d4⟩ := hB wr.drew ht.drew
              by_cases x0 : x < 0
              · have dx0 : decide (x < 0) = true := decide_eq_true x0
                have HF := Lib.hid (HNO.out (decide_eq_false (by omega)))
                go_wp2_with fail
                go_region
                all_goals go_wp2
                all_goals (first | go_ret | go_ret2 | go_end0)
                all_goals exact ⟨by rw [HF.out]; try rfl, tV.then ht.drew⟩
              have dx0 : decide (x < 0) = false := decide_eq_false x0
              by_cases x1 : (i.methods.length : Int) ≤ x
              · have dx1 : decide ((i.methods.length : Int) ≤ x) = true := decide_eq_true x1
                have HF := Lib.hid (HNO.out (decide_eq_false (by omega)))
                go_wp2_with fail
                go_region
                all_goals go_wp2
                all_goals (first | go_ret | go_ret2 | go_end0)
                all_goals exact ⟨by rw [HF.out]; try rfl, tV.then ht.drew⟩
              have dx1 : decide ((i.methods.length : Int) ≤ x) = false := decide_eq_false x1
              have HX := Lib.hid (show expB i.methods.length x = true from decide_eq_true (by omega))
              go_wp2_with fail
              go_region
              all_goals go_wp2
              all_goals go_roundw
              all_goals (first | (case rel => exact ⟨k + 1, by omega, by go_num, by rw [HT.out, HX.out]; rfl, ht.drew⟩) | (case measure => simp [intOf]; omega))
            · have HAE := Lib.hid (all_end (expB i.methods.length) _ k hk htk)
              clear htk hEx
              obtain ⟨b0, b1, b2, b3, b4⟩ := hB wr ht
              obtain ⟨ad, p0, q0, c0, r0, rfl, hadl, hfb, hcc⟩ := hfm (by omega)
              obtain ⟨m0, m1⟩ := hcc wr ht
              have HFB := Lib.hid hfb; clear hfb hfm hcc
              have HI := Lib.hid (show imgB i = firstB i.methods by rw [HIB.out, HN.out, HKF.out, D4.out, HAI.out, D5.out, HAM.out, D7.out, HAE.out]; simp)
              by_cases hp0 : p0 = 0
              · subst hp0
                go_wp2_with fail
                go_ret
                exact ⟨by rw [HI.out, HFB.out]; simp; rfl, tV.then ht⟩
              · have hp1 : ((p0 : Int) == 0) = false := beq_eq_false_iff_ne.2 (by omega)
                go_wp2_with fail
                go_ret
                exact ⟨by rw [HI.out, HFB.out]; simp [hp0], tV.then ht⟩
end Go.Proofs.YteebapopeaafhaaGreatDoor
