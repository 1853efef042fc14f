/-
  CONTRACTS: the document's words and Print. Conditions: utf8's tables as they are laid.
-/
import Derived.Test.YteebapopeaafhaaGreatDoorHDpL
import Derived.Test.YteebapopeaafhaaGreatDoorHTnK
import Derived.Test.YteebapopeaafhaaGreatDoorHRfr
import Derived.Deep.RegionHeld3
namespace Go.Tcn
open Go Go.RowKit
set_option linter.unusedVariables false
set_option linter.unusedSimpArgs false
/-- A walk's state: the image's box. -/
structure DSt (I : TypeId) (w wz : World) (q : Nat) (cs : Array Value) : Prop where
  t : Tch [] w wz
  box : wz.heap[q]? = some (.cells cs I (0, 0))
theorem DSt.tch {I : TypeId} {w wz wy : World} {q : Nat} {cs : Array Value} (h : DSt I w wz q cs) (t : Tch [] wz wy) : DSt I w wy q cs :=
  ⟨h.t.then t, (t.block q (heap_lt h.box) (by simp)).trans h.box⟩
end Go.Tcn
namespace Go.Proofs.YteebapopeaafhaaGreatDoor
open Go.RowKit Go.Tcn
set_option linter.unusedVariables false
set_option linter.unusedSimpArgs false
set_option maxRecDepth 100000 in
set_option maxHeartbeats 4000000 in
theorem rf_words (w : World) (a0 : Option Addr) (c0 : Nat) (l : List Int) (h : RInts w [] (.slice a0 l.length c0) l) (hl : l.length ≤ 1000) :
    Calls Tryz.prog 24 #[.slice a0 l.length c0] w fun e w' => e = .returned (.string ⟨(spW (l.map kindNm)).toArray⟩) ∧ w = w' := by
  go_enter Tryz.func24, Tryz.ntmps24
  go_wp2_with fail
  go_loopw [3, 4] (fun s i wz => ∃ k : Nat, k ≤ l.length ∧ s = .string ⟨(spW ((l.take k).map kindNm)).toArray⟩ ∧ i = .int .i64 k ∧ w = wz) (fun _ i _ => l.length - (intOf i).toNat)
  case atStart => exact ⟨0, by omega, rfl, rfl, rfl⟩
  case round =>
    obtain ⟨k, hk1, rfl, rfl, rfl⟩ := hrel
    by_cases hk : k < l.length
    · obtain ⟨ad, rfl, _, _, hq⟩ := Src.at h (j := k) (by simpa using hk)
      have hq0 : w.cell? (ad.add k) = some (.int .i64 l[k]) := by simpa [ints] using hq
      clear hq
      have htk : l.take (k + 1) = l.take k ++ [l[k]] := (List.take_append_getElem hk).symm
      have HT := Lib.hid (show spW ((l.take (k + 1)).map kindNm) = spW ((l.take k).map kindNm) ++ [32] ++ kindNm l[k] by rw [htk, List.map_append]; exact sp_one _ _)
      clear htk
      have hsl := sp_len (l.take k)
      have hnl := kindNm_le l[k]
      rw [List.length_take] at hsl
      generalize l[k] = x at *
      generalize spW ((l.take k).map kindNm) = tx at *
      have g1 : ¬ 9223372036854775807 < tx.length + 1 := by omega
      have g2 : ¬ 9223372036854775807 < tx.length + 1 + (kindNm x).length := by omega
      clear hnl hsl
      go_wp2_with fail
      refine (rf_KindName w x).mono ?_
      rintro e w1 ⟨rfl, rfl⟩
      generalize kindNm x = nm at *
      go_wp2_with fail
      go_roundw
      case rel => exact ⟨k + 1, by omega, congrArg Value.string (by rw [HT.out, ← str_app, ← str_app]), by go_num, by first | rfl | trivial⟩
      case measure => simp [intOf]; omega
    · have hke : l.take k = l := List.take_of_length_le (by omega)
      rw [hke]
      clear hke
      go_wp2_with fail
      go_ret
      exact ⟨rfl, rfl⟩
set_option maxRecDepth 100000 in
set_option maxHeartbeats 8000000 in
theorem rf_Print (w : World) (i : Img) (vf vi vm ve : Value) (hf : RInts w [] vf i.fields) (hi : RImps w [] vi i.imports) (hm : RMths w [] vm i.methods) (he : RInts w [] ve i.exports) (hz : ImgZ i) (hV : ValC w) :
    Calls Tryz.prog 8 #[.agg #[.string ⟨i.name.toArray⟩, vf, vi, vm, ve]] w fun e w' => e = .returned (prRes i) ∧ (imgB i = true → (printW i).length ≤ 1000000) ∧ Tch [] w w' := by
  obtain ⟨af, cf, rfl⟩ := Src.form hf
  obtain ⟨ai, ci, rfl⟩ := RImps.form hi
  obtain ⟨am, cm, rfl⟩ := RMths.form hm
  obtain ⟨ae, ce, rfl⟩ := Src.form he
  have hR := fun W (t : Tch [] w W) => rf_Right W i _ _ _ _ (hf.tch t (by simp)) (hi.tch t (by simp)) (hm.tch t (by simp)) (he.tch t (by simp)) hz (fun nm w' h16 t' => hV nm w' h16 (t.then t'))
  obtain ⟨W, hW⟩ : ∃ W, W = w.alloc (.cells #[.string ⟨i.name.toArray⟩, .slice af i.fields.length cf, .slice ai i.imports.length ci, .slice am i.methods.length cm, .slice ae i.exports.length ce] 30) := ⟨_, rfl⟩
  have tW : Tch [] w W := by rw [hW]; exact (Tch.refl [] w).alloc _
  have hc : W.heap[w.heap.size]? = some (.cells #[.string ⟨i.name.toArray⟩, .slice af i.fields.length cf, .slice ai i.imports.length ci, .slice am i.methods.length cm, .slice ae i.exports.length ce] 30 (0, 0)) := by rw [hW]; exact heap_alloc_new _ _
  obtain ⟨q, hq⟩ : ∃ q, q = w.heap.size := ⟨_, rfl⟩
  rw [← hq] at hc
  obtain ⟨x0, x1, x2, x3, x4, _⟩ := cells5 hc
  go_enter Tryz.func8, Tryz.ntmps8
  go_upto_region 1 with fail
  rw [← hW, ← hq]
  clear hW hq
  go_wp2_with fail
  refine (hR W tW).mono ?_
  rintro e w1 ⟨rfl, t1⟩
  cases hib : imgB i
  · clear x0 x1 x2 x3 x4
    have HN := Lib.hid (And.intro (prRes_no hib) hib)
    clear hib hR
    go_wp2_with fail
    go_ret2
    exact ⟨by rw [HN.out.1]; rfl, fun h => absurd (HN.out.2.symm.trans h) (by decide), tW.then t1⟩
  · have HB := Lib.hid hib
    have hS0 : DSt 30 w w1 q #[.string ⟨i.name.toArray⟩, .slice af i.fields.length cf, .slice ai i.imports.length ci, .slice am i.methods.length cm, .slice ae i.exports.length ce] :=
      (DSt.mk tW hc).tch t1
    clear x0 x1 x2 x3 x4 hR hib t1 tW hc
    obtain ⟨x0, x1, x2, x3, x4, _⟩ := cells5 hS0.box
    obtain ⟨⟨n1, n2⟩, ⟨q1, _⟩, ⟨q2, q2i⟩, ⟨⟨_, q3⟩, q3m⟩, q4, q4e⟩ := imgB_le HB.out
    have g1 : ¬ 9223372036854775807 < 7 + i.name.length := by omega
    have g2 : ¬ 9223372036854775807 < 7 + i.name.length + 1 := by omega
    go_upto_region 5 with fail
    have HS0 := Lib.hid (ln_head i.name)
    have hl0 : (textOf [joinW [kApplet, i.name]]).length ≤ 700 := by rw [← HS0.out]; simp; omega
    generalize hL0 : [joinW [kApplet, i.name]] = L0 at *
    have HL0 := Lib.hid hL0
    clear hL0 g1 g2 x0 x1 x2 x3 x4
    go_loopw [4, 5] (fun s iv wz => ∃ k : Nat, k ≤ i.fields.length ∧ iv = .int .i64 k ∧ s = .string ⟨(textOf (L0 ++ (i.fields.take k).map fun y => joinW [kField, kindNm y])).toArray⟩ ∧ DSt 30 w wz q #[.string ⟨i.name.toArray⟩, .slice af i.fields.length cf, .slice ai i.imports.length ci, .slice am i.methods.length cm, .slice ae i.exports.length ce] ∧ (textOf (L0 ++ (i.fields.take k).map fun y => joinW [kField, kindNm y])).length ≤ 700 * (1 + k)) (fun _ iv _ => i.fields.length - (intOf iv).toNat)
    case atStart => exact ⟨0, by omega, rfl, congrArg Value.string (by rw [show L0 ++ (i.fields.take 0).map (fun y => joinW [kField, kindNm y]) = L0 by simp, ← HS0.out, ← str_app, ← str_app]), hS0, by simpa using hl0⟩
    case round =>
      obtain ⟨k, hk1, rfl, rfl, hS, hl⟩ := hrel
      clear hS0 hl0 HS0
      obtain ⟨x0, x1, x2, x3, x4, _⟩ := cells5 hS.box
      by_cases hk : k < i.fields.length
      · obtain ⟨ad, rfl, _, _, hqc⟩ := Src.at (hf.tch hS.t (by simp)) (j := k) (by simpa using hk)
        have hq0 : wr.cell? (ad.add k) = some (.int .i64 i.fields[k]) := by simpa [ints] using hqc
        clear hqc
        have htk : i.fields.take (k + 1) = i.fields.take k ++ [i.fields[k]] := (List.take_append_getElem hk).symm
        have HT := Lib.hid htk
        clear htk
        generalize i.fields[k] = y at *
        generalize htx : textOf (L0 ++ (i.fields.take k).map fun y => joinW [kField, kindNm y]) = tx at *
        have HE := Lib.hid (show textOf (L0 ++ (i.fields.take (k + 1)).map fun y => joinW [kField, kindNm y]) = tx ++ [102, 105, 101, 108, 100, 32] ++ kindNm y ++ [10] by rw [ln_field, HT.out, List.map_append, ← List.append_assoc, ← htx]; exact textOf_one _ _)
        have hnl := kindNm_le y
        clear HT htx
        obtain ⟨nm, hnm⟩ : ∃ nm, kindNm y = nm := ⟨_, rfl⟩
        have hKN := rf_KindName wr y
        rw [hnm] at HE hnl hKN
        clear hnm
        have g1 : ¬ 9223372036854775807 < tx.length + 6 := by omega
        have g2 : ¬ 9223372036854775807 < tx.length + 6 + nm.length := by omega
        have g3 : ¬ 9223372036854775807 < tx.length + 6 + nm.length + 1 := by omega
        go_wp2_with fail
        refine hKN.mono ?_
        rintro e w5 ⟨rfl, rfl⟩
        clear hKN g1
        go_wp2_with fail
        go_roundw
        case rel => exact ⟨k + 1, by omega, by go_num, congrArg Value.string (by rw [HE.out, ← str_app, ← str_app, ← str_app]), hS, by rw [HE.out]; simp only [List.length_append, List.length_cons, List.length_nil]; omega⟩
        case measure => simp [intOf]; omega
      · have hke : i.fields.take k = i.fields := List.take_of_length_le (by omega)
        rw [hke] at hl ⊢
        replace hl : (textOf (L0 ++ i.fields.map fun y => joinW [kField, kindNm y])).length ≤ 6300 := by omega
        clear hke
        generalize hL1 : L0 ++ (i.fields.map fun y => joinW [kField, kindNm y]) = L1 at *
        have HL1 := Lib.hid hL1
        clear hL1
        go_upto_region 9 with fail
        clear x0 x1 x2 x3 x4
        go_loopw [4, 6] (fun s iv wz => ∃ k : Nat, k ≤ i.imports.length ∧ iv = .int .i64 k ∧ s = .string ⟨(textOf (L1 ++ (i.imports.take k).map fun y => joinW (impWs y))).toArray⟩ ∧ DSt 30 w wz q #[.string ⟨i.name.toArray⟩, .slice af i.fields.length cf, .slice ai i.imports.length ci, .slice am i.methods.length cm, .slice ae i.exports.length ce] ∧ (textOf (L1 ++ (i.imports.take k).map fun y => joinW (impWs y))).length ≤ 6300 + 700 * k) (fun _ iv _ => i.imports.length - (intOf iv).toNat)
        case atStart => exact ⟨0, by omega, rfl, by simp, hS, by simpa using hl⟩
        case round =>
          clear hS hl
          obtain ⟨k, hk1, rfl, rfl, hS, hl⟩ := hrel
          obtain ⟨x0, x1, x2, x3, x4, _⟩ := cells5 hS.box
          by_cases hk : k < i.imports.length
          · obtain ⟨ad, cs, rfl, a1, a2, a3, ⟨vp, rfl, hvp⟩, a5⟩ := RL.at (hi.tch hS.t (by simp)) hk (by omega)
            have hxb := q2i _ (List.getElem_mem hk)
            have htk : i.imports.take (k + 1) = i.imports.take k ++ [i.imports[k]] := (List.take_append_getElem hk).symm
            have HT := Lib.hid htk
            clear htk
            generalize i.imports[k] = x at *
            obtain ⟨ap, cp, rfl⟩ := Src.form hvp
            have hcx : ∀ (j : Nat) u, (#[.string ⟨x.name.toArray⟩, .int .i64 x.exp, .slice ap x.params.length cp, .int .i64 x.result] : Array Value).toList[j]? = some u → wr.cell? ((ad.add (k * 4)).add j) = some u := fun j u hj => by rw [Addr_add_add]; exact a5 j u hj
            generalize htx : textOf (L1 ++ (i.imports.take k).map fun y => joinW (impWs y)) = tx at *
            simp only [impB, Bool.and_eq_true, decide_eq_true_eq] at hxb
            obtain ⟨⟨⟨hxn, hxe⟩, hxp⟩, hxr⟩ := hxb
            have hxn2 : x.name.length ≤ 16 := by unfold nameB at hxn; simp at hxn; omega
            have hxp2 : x.params.length ≤ 4 := by unfold kindsB at hxp; simp at hxp; omega
            have hxe2 : I6 x.exp := ⟨by omega, by omega⟩
            have hpl : (x.params.map kindNm).length = x.params.length := by simp
            have HE := Lib.hid (show textOf (L1 ++ (i.imports.take (k + 1)).map fun y => joinW (impWs y)) = tx ++ [105, 109, 112, 111, 114, 116, 32] ++ x.name ++ [32] ++ Lib.itoa x.exp ++ [32] ++ kindNm x.result ++ spW (x.params.map kindNm) ++ [10] by rw [ln_import, HT.out, List.map_append, ← List.append_assoc, ← htx]; exact textOf_one _ _)
            clear HT hxn hxp hxr a5 htx hpl
            obtain ⟨V, hVd⟩ : ∃ V, V = wr.alloc (.cells #[.string ⟨x.name.toArray⟩, .int .i64 x.exp, .slice ap x.params.length cp, .int .i64 x.result] 51) := ⟨_, rfl⟩
            have tV : Tch [] wr V := by rw [hVd]; exact (Tch.refl [] wr).alloc _
            have hg : V.heap[wr.heap.size]? = some (.cells #[.string ⟨x.name.toArray⟩, .int .i64 x.exp, .slice ap x.params.length cp, .int .i64 x.result] 51 (0, 0)) := by rw [hVd]; exact heap_alloc_new _ _
            go_upto_region 12 with (first | (refine wpList_load_agg rfl 51 (.tmp 47) rfl (ad.add (k * 4)) rfl #[.string ⟨x.name.toArray⟩, .int .i64 x.exp, .slice ap x.params.length cp, .int .i64 x.result] _ hcx Tryz.underlying51 rfl (by kernel_rfl) ?_) | fail)
            rw [← hVd]
            clear hVd hcx
            generalize wr.heap.size = g at *
            have hSV := hS.tch tV
            have hpV := fun W (t : Tch [] V W) => rf_words W ap cp x.params ((hvp.tch tV (by simp)).tch t (by simp)) (by omega)
            have hSall : ∀ w', Tch [] V w' → w'.cell? ⟨g, 0, none⟩ = some (.string ⟨x.name.toArray⟩) ∧ w'.cell? ⟨g, 1, none⟩ = some (.int .i64 x.exp) ∧ w'.cell? ⟨g, 2, none⟩ = some (.slice ap x.params.length cp) ∧ w'.cell? ⟨g, 3, none⟩ = some (.int .i64 x.result) := fun W t => by
              have hh := (t.block g (heap_lt hg) (by simp)).trans hg
              exact ⟨by simp [World.cell?, hh], by simp [World.cell?, hh], by simp [World.cell?, hh], by simp [World.cell?, hh]⟩
            have hki := kindNm_le x.result
            have hdi := itoa_len32 x.exp hxe2
            have hwi := sp_len x.params
            have hDg := fun W => rf_Digits W x.exp hxe2
            have hKN := fun W => rf_KindName W x.result
            generalize spW (x.params.map kindNm) = sw at *
            generalize Lib.itoa x.exp = dg at *
            generalize kindNm x.result = nm at *
            have g1 : ¬ 9223372036854775807 < tx.length + 7 := by omega
            have g2 : ¬ 9223372036854775807 < tx.length + 7 + x.name.length := by omega
            have g3 : ¬ 9223372036854775807 < tx.length + 7 + x.name.length + 1 := by omega
            have g4 : ¬ 9223372036854775807 < tx.length + 7 + x.name.length + 1 + dg.length := by omega
            have g5 : ¬ 9223372036854775807 < tx.length + 7 + x.name.length + 1 + dg.length + 1 := by omega
            have g6 : ¬ 9223372036854775807 < tx.length + 7 + x.name.length + 1 + dg.length + 1 + nm.length := by omega
            have g7 : ¬ 9223372036854775807 < tx.length + 7 + x.name.length + 1 + dg.length + 1 + nm.length + sw.length := by omega
            have g8 : ¬ 9223372036854775807 < tx.length + 7 + x.name.length + 1 + dg.length + 1 + nm.length + sw.length + 1 := by omega
            clear hvp hg hxe2 hxe x0 x1 x2 x3 x4 tV hS
            go_region_held3 (fun w' => w'.cell? ⟨g, 0, none⟩ = some (.string ⟨x.name.toArray⟩) ∧ w'.cell? ⟨g, 1, none⟩ = some (.int .i64 x.exp) ∧ w'.cell? ⟨g, 2, none⟩ = some (.slice ap x.params.length cp) ∧ w'.cell? ⟨g, 3, none⟩ = some (.int .i64 x.result)) (first | assumption | exact hSall _ ((Tch.refl [] V).drew) | exact hSall _ t5)
              (first | (go_at_call 23; refine (hDg _).mono ?_; rintro e w5 ⟨rfl, t5'⟩; have t5 : Tch [] V w5 := (((Tch.refl [] V).drew).then t5')) | (go_at_call 19; refine (hKN _).mono ?_; rintro e w6 ⟨rfl, rfl⟩) | (go_at_call 24; first | (refine (hpV _ t5).mono ?_; rintro e w7 ⟨rfl, rfl⟩) | (refine (hpV _ ((Tch.refl [] V).drew)).mono ?_; rintro e w7 ⟨rfl, rfl⟩)))
            all_goals
              go_wp2_with fail
              go_roundw
              case rel => exact ⟨k + 1, by omega, by go_num, congrArg Value.string (by rw [HE.out, ← str_app, ← str_app, ← str_app, ← str_app, ← str_app, ← str_app, ← str_app, ← str_app]), hSV.tch t5, by rw [HE.out]; simp only [List.length_append, List.length_cons, List.length_nil]; omega⟩
              case measure => simp [intOf]; omega
          · have hke : i.imports.take k = i.imports := List.take_of_length_le (by omega)
            rw [hke] at hl ⊢
            replace hl : (textOf (L1 ++ i.imports.map fun y => joinW (impWs y))).length ≤ 9100 := by omega
            clear hke
            generalize hL2 : L1 ++ (i.imports.map fun y => joinW (impWs y)) = L2 at *
            have HL2 := Lib.hid hL2
            clear hL2
            go_upto_region 14 with fail
            clear x0 x1 x2 x3 x4
            go_loopw [4, 8] (fun s iv wz => ∃ k : Nat, k ≤ i.methods.length ∧ iv = .int .i64 k ∧ s = .string ⟨(textOf (L2 ++ (i.methods.take k).flatMap mthLs)).toArray⟩ ∧ DSt 30 w wz q #[.string ⟨i.name.toArray⟩, .slice af i.fields.length cf, .slice ai i.imports.length ci, .slice am i.methods.length cm, .slice ae i.exports.length ce] ∧ (textOf (L2 ++ (i.methods.take k).flatMap mthLs)).length ≤ 9100 + 87000 * k) (fun _ iv _ => i.methods.length - (intOf iv).toNat)
            case atStart => exact ⟨0, by omega, rfl, by simp, hS, by simpa using hl⟩
            case round =>
              clear hS hl
              obtain ⟨k, hk1, rfl, rfl, hS, hl⟩ := hrel
              obtain ⟨x0, x1, x2, x3, x4, _⟩ := cells5 hS.box
              by_cases hk : k < i.methods.length
              · obtain ⟨ad, cs, rfl, a1, a2, a3, ⟨vp, vl, vc, rfl, hvp, hvl, hvc⟩, a5⟩ := RL.at (hm.tch hS.t (by simp)) hk (by omega)
                have hmb := q3m _ (List.getElem_mem hk)
                have htk : i.methods.take (k + 1) = i.methods.take k ++ [i.methods[k]] := (List.take_append_getElem hk).symm
                have HT := Lib.hid htk
                clear htk
                generalize i.methods[k] = m at *
                obtain ⟨ap, cp, rfl⟩ := Src.form hvp
                obtain ⟨al, cl, rfl⟩ := Src.form hvl
                obtain ⟨ac, cc, rfl⟩ := RCode.form hvc
                have hcx : ∀ (j : Nat) u, (#[.slice ap m.params.length cp, .int .i64 m.result, .slice al m.locals.length cl, .slice ac m.code.length cc] : Array Value).toList[j]? = some u → wr.cell? ((ad.add (k * 4)).add j) = some u := fun j u hj => by rw [Addr_add_add]; exact a5 j u hj
                have HTL : Hid (L2 ++ (i.methods.take (k + 1)).flatMap mthLs = (L2 ++ (i.methods.take k).flatMap mthLs) ++ mthLs m) := Lib.hid (by rw [HT.out]; simp)
                generalize L2 ++ (i.methods.take k).flatMap mthLs = L3 at *
                clear HT a5
                simp only [mthB, Bool.and_eq_true, decide_eq_true_eq] at hmb
                obtain ⟨⟨⟨⟨hmp, hmr⟩, hml⟩, hmc⟩, hmi⟩ := hmb
                have hmp2 : m.params.length ≤ 4 := by unfold kindsB at hmp; simp at hmp; omega
                have hml2 : m.locals.length ≤ 10 := by unfold kindsB at hml; simp at hml; omega
                have hmi2 : ∀ x ∈ m.code, insB x = true := List.all_eq_true.1 hmi
                clear hmp hmr hml hmi
                obtain ⟨V, hVd⟩ : ∃ V, V = wr.alloc (.cells #[.slice ap m.params.length cp, .int .i64 m.result, .slice al m.locals.length cl, .slice ac m.code.length cc] 55) := ⟨_, rfl⟩
                have tV : Tch [] wr V := by rw [hVd]; exact (Tch.refl [] wr).alloc _
                have hg : V.heap[wr.heap.size]? = some (.cells #[.slice ap m.params.length cp, .int .i64 m.result, .slice al m.locals.length cl, .slice ac m.code.length cc] 55 (0, 0)) := by rw [hVd]; exact heap_alloc_new _ _
                go_upto_region 17 with (first | (refine wpList_load_agg rfl 55 (.tmp 79) rfl (ad.add (k * 4)) rfl #[.slice ap m.params.length cp, .int .i64 m.result, .slice al m.locals.length cl, .slice ac m.code.length cc] _ hcx Tryz.underlying55 rfl (by kernel_rfl) ?_) | fail)
                rw [← hVd]
                clear hVd hcx
                generalize wr.heap.size = g at *
                have hSV := hS.tch tV
                have hpV := fun W (t : Tch [] V W) => rf_words W ap cp m.params ((hvp.tch tV (by simp)).tch t (by simp)) (by omega)
                have hlV := fun W (t : Tch [] V W) => rf_words W al cl m.locals ((hvl.tch tV (by simp)).tch t (by simp)) (by omega)
                have hSall : ∀ w', Tch [] V w' → w'.cell? ⟨g, 0, none⟩ = some (.slice ap m.params.length cp) ∧ w'.cell? ⟨g, 1, none⟩ = some (.int .i64 m.result) ∧ w'.cell? ⟨g, 2, none⟩ = some (.slice al m.locals.length cl) ∧ w'.cell? ⟨g, 3, none⟩ = some (.slice ac m.code.length cc) := fun W t => by
                  have hh := (t.block g (heap_lt hg) (by simp)).trans hg
                  exact ⟨by simp [World.cell?, hh], by simp [World.cell?, hh], by simp [World.cell?, hh], by simp [World.cell?, hh]⟩
                have hki := kindNm_le m.result
                have hwi := sp_len m.params
                have hwl := sp_len m.locals
                have hKN := fun W => rf_KindName W m.result
                have HM1 := Lib.hid (show textOf (L3 ++ [joinW (kMethod :: kindNm m.result :: m.params.map kindNm)]) = textOf L3 ++ [109, 101, 116, 104, 111, 100, 32] ++ kindNm m.result ++ spW (m.params.map kindNm) ++ [10] by rw [ln_method]; exact textOf_one _ _)
                have HM2 := Lib.hid (show mthLs m = [joinW (kMethod :: kindNm m.result :: m.params.map kindNm)] ++ locLs m ++ m.code.map (fun x => padW (joinW (insWs x))) by rw [mthLs_loc, List.append_assoc])
                have HM3 : Hid (m.locals ≠ [] → textOf (L3 ++ [joinW (kMethod :: kindNm m.result :: m.params.map kindNm)] ++ locLs m) = textOf (L3 ++ [joinW (kMethod :: kindNm m.result :: m.params.map kindNm)]) ++ [108, 111, 99, 97, 108, 115] ++ spW (m.locals.map kindNm) ++ [10]) := Lib.hid (fun h => by rw [locLs_yes h, ln_locals]; exact textOf_one _ _)
                generalize joinW (kMethod :: kindNm m.result :: m.params.map kindNm) = jm at *
                generalize spW (m.params.map kindNm) = sw at *
                generalize spW (m.locals.map kindNm) = lw at *
                generalize kindNm m.result = nm at *
                generalize htx : textOf L3 = tx at *
                have g1 : ¬ 9223372036854775807 < tx.length + 7 := by omega
                have g2 : ¬ 9223372036854775807 < tx.length + 7 + nm.length := by omega
                have g3 : ¬ 9223372036854775807 < tx.length + 7 + nm.length + sw.length := by omega
                have g4 : ¬ 9223372036854775807 < tx.length + 7 + nm.length + sw.length + 1 := by omega
                have hgV : Hid (V.drew.heap[g]? = some (.cells #[.slice ap m.params.length cp, .int .i64 m.result, .slice al m.locals.length cl, .slice ac m.code.length cc] 55 (0, 0))) := Lib.hid hg
                have tVV := Lib.hid tV
                have htx3 := Lib.hid htx
                clear hg x0 x1 x2 x3 x4 tV hvp hvl htx
                go_region_held3 (fun w' => w'.cell? ⟨g, 0, none⟩ = some (.slice ap m.params.length cp) ∧ w'.cell? ⟨g, 1, none⟩ = some (.int .i64 m.result) ∧ w'.cell? ⟨g, 2, none⟩ = some (.slice al m.locals.length cl) ∧ w'.cell? ⟨g, 3, none⟩ = some (.slice ac m.code.length cc)) (first | assumption | exact hSall _ ((Tch.refl [] V).drew))
                  (first | (go_at_call 19; refine (hKN _).mono ?_; rintro e w6 ⟨rfl, rfl⟩) | (go_at_call 24; refine (hpV _ ((Tch.refl [] V).drew)).mono ?_; rintro e w7 ⟨rfl, rfl⟩))
                all_goals
                  have tD := (Tch.refl [] V).drew
                  obtain ⟨y0, y1, y2, y3⟩ := hSall _ tD
                  have hSD := hSV.tch tD
                  have hlD := hlV _ tD
                  have e1 : (⟨tx.toArray⟩ : ByteArray) ++ ⟨#[109, 101, 116, 104, 111, 100, 32]⟩ ++ ⟨nm.toArray⟩ ++ ⟨sw.toArray⟩ ++ ⟨#[10]⟩ = ⟨(textOf (L3 ++ [jm])).toArray⟩ := by rw [HM1.out, ← str_app, ← str_app, ← str_app, ← str_app]
                  have el : (textOf (L3 ++ [jm])).length ≤ tx.length + 100 := by rw [HM1.out]; simp only [List.length_append, List.length_cons, List.length_nil]; omega
                  clear hKN hpV hlV hSV hS g1 g2 g3 g4
                  have hg2 : V.drew.heap[g]? = some (.cells #[.slice ap m.params.length cp, .int .i64 m.result, .slice al m.locals.length cl, .slice ac m.code.length cc] 55 (0, 0)) := hgV.out
                  have hcd : RCode V.drew [] (.slice ac m.code.length cc) m.code := (hvc.tch tVV.out (by simp)).tch tD (by simp)
                  clear hSall hvc
                  generalize V.drew = V2 at *
                  go_upto_if 95 with fail
                  rw [e1]
                  clear e1
                  generalize ht1 : textOf (L3 ++ [jm]) = t1 at *
                  go_cut [4] (fun v wz => v = .string ⟨(textOf (L3 ++ [jm] ++ locLs m)).toArray⟩ ∧ (textOf (L3 ++ [jm] ++ locLs m)).length ≤ tx.length + 200 ∧ V2 = wz)
                  case first =>
                    by_cases hln : m.locals = []
                    · have hl0 : m.locals.length = 0 := by rw [hln]; rfl
                      have HLN := Lib.hid (And.intro hln ht1)
                      clear hln ht1
                      rw [hl0] at y2
                      go_wp2_with fail
                      go_meet
                      exact ⟨by rw [locLs_no HLN.out.1, List.append_nil, HLN.out.2], by rw [locLs_no HLN.out.1, List.append_nil, HLN.out.2]; omega, rfl⟩
                    · have HLN := Lib.hid (HM3.out hln)
                      have hl0 : 0 < m.locals.length := List.length_pos_iff.2 hln
                      have hd0 : decide ((0 : Int) < (m.locals.length : Int)) = true := decide_eq_true (by omega)
                      clear hln ht1
                      have g1 : ¬ 9223372036854775807 < t1.length + 6 := by omega
                      have g2 : ¬ 9223372036854775807 < t1.length + 6 + lw.length := by omega
                      have g3 : ¬ 9223372036854775807 < t1.length + 6 + lw.length + 1 := by omega
                      go_wp2_with fail
                      refine hlD.mono ?_
                      rintro e w8 ⟨rfl, rfl⟩
                      clear hlD
                      go_wp2_with fail
                      go_meet
                      exact ⟨congrArg Value.string (by rw [HLN.out, ← str_app, ← str_app, ← str_app]), by rw [HLN.out]; simp only [List.length_append, List.length_cons, List.length_nil]; omega, rfl⟩
                  case rest =>
                    obtain ⟨rfl, hl9, rfl⟩ := hcut
                    clear y0 y1 y2 y3 hlD ht1 el
                    have HM := Lib.hid (show (L3 ++ [jm] ++ locLs m) ++ (m.code.map fun x => padW (joinW (insWs x))) = L3 ++ mthLs m by rw [HM2.out]; simp)
                    clear HM1 HM2 HM3
                    generalize L3 ++ [jm] ++ locLs m = L4 at *
                    go_upto_region 21 with fail
                    go_loopw [4, 10] (fun s iv wz => ∃ k : Nat, k ≤ m.code.length ∧ iv = .int .i64 k ∧ s = .string ⟨(textOf (L4 ++ (m.code.take k).map fun x => padW (joinW (insWs x)))).toArray⟩ ∧ DSt 30 w wz q _ ∧ wz.heap[g]? = some (.cells #[.slice ap m.params.length cp, .int .i64 m.result, .slice al m.locals.length cl, .slice ac m.code.length cc] 55 (0, 0)) ∧ Tch [] V2 wz ∧ (textOf (L4 ++ (m.code.take k).map fun x => padW (joinW (insWs x)))).length ≤ tx.length + 200 + 200 * k) (fun _ iv _ => m.code.length - (intOf iv).toNat)
                    case atStart => exact ⟨0, by omega, rfl, by simp, hSD, hg2, Tch.refl [] _, by simpa using hl9⟩
                    case round =>
                      clear hSD hl9
                      obtain ⟨k2, hk2, rfl, rfl, hS, hgr, tR, hl9⟩ := hrel
                      have y3 : wr.cell? ⟨g, 3, none⟩ = some (.slice ac m.code.length cc) := by simp [World.cell?, hgr]
                      by_cases hk : k2 < m.code.length
                      · obtain ⟨ad2, rfl, _, hcc⟩ := RCode.at (hcd.tch tR (by simp)) hk
                        have hxi := hmi2 _ (List.getElem_mem hk)
                        have htk : m.code.take (k2 + 1) = m.code.take k2 ++ [m.code[k2]] := (List.take_append_getElem hk).symm
                        generalize m.code[k2] = x at *
                        have HE := Lib.hid (show textOf (L4 ++ (m.code.take (k2 + 1)).map fun x => padW (joinW (insWs x))) = textOf (L4 ++ (m.code.take k2).map fun x => padW (joinW (insWs x))) ++ [32, 32] ++ nmAt x.op ++ spW (opsL x) ++ [10] by rw [ln_ins, htk, List.map_append, ← List.append_assoc]; exact textOf_one _ _)
                        clear htk
                        generalize textOf (L4 ++ (m.code.take k2).map fun x => padW (joinW (insWs x))) = ty at *
                        obtain ⟨hxa, hxb⟩ := insP_I6 hxi
                        obtain ⟨V5, hV5⟩ : ∃ V5, V5 = wr.alloc (.cells #[.int .i64 x.op, .int .i64 x.a, .int .i64 x.b] 57) := ⟨_, rfl⟩
                        have t5 : Tch [] wr V5 := by rw [hV5]; exact (Tch.refl [] wr).alloc _
                        have hg5 : V5.heap[wr.heap.size]? = some (.cells #[.int .i64 x.op, .int .i64 x.a, .int .i64 x.b] 57 (0, 0)) := by rw [hV5]; exact heap_alloc_new _ _
                        go_upto_region 24 with (first | (refine wpList_load_agg rfl 57 (.tmp 113) rfl (ad2.add (k2 * 3)) rfl #[.int .i64 x.op, .int .i64 x.a, .int .i64 x.b] _ hcc Tryz.underlying57 rfl (by kernel_rfl) ?_) | fail)
                        rw [← hV5]
                        clear hV5 hcc
                        generalize wr.heap.size = g5 at *
                        have hc5 : ∀ w', Tch [] V5 w' → w'.cell? ⟨g5, 0, none⟩ = some (.int .i64 x.op) ∧ w'.cell? ⟨g5, 1, none⟩ = some (.int .i64 x.a) ∧ w'.cell? ⟨g5, 2, none⟩ = some (.int .i64 x.b) := fun W t => by
                          have hh := (t.block g5 (heap_lt hg5) (by simp)).trans hg5
                          exact ⟨by simp [World.cell?, hh], by simp [World.cell?, hh], by simp [World.cell?, hh]⟩
                        have hS5 := fun W (t : Tch [] V5 W) => hS.tch (t5.then t)
                        have hg6 := fun W (t : Tch [] V5 W) => ((t5.then t).block g (heap_lt hgr) (by simp)).trans hgr
                        have tR5 := fun W (t : Tch [] V5 W) => (tR.then t5).then t
                        have hnl := nmAt_len x.op
                        have hal := itoa_len32 x.a hxa
                        have hbl := itoa_len32 x.b hxb
                        have hNm := ref_Name x.op V5
                        have hOp := fun W => ref_Operands x.op W
                        have hDa := fun W => rf_Digits W x.a hxa
                        have hDb := fun W => rf_Digits W x.b hxb
                        obtain ⟨z0, z1, z2⟩ := hc5 V5 (Tch.refl [] V5)
                        clear hg5 y3 hS tR t5 hgr
                        have HO : Hid (opsL x = if opndN x.op = 0 then [] else if opndN x.op = 1 then [Lib.itoa x.a] else [Lib.itoa x.a, Lib.itoa x.b]) := Lib.hid rfl
                        have hoc := opnd_cases x.op
                        generalize opsL x = ops at *
                        generalize nmAt x.op = nm5 at *
                        generalize Lib.itoa x.a = da at *
                        generalize Lib.itoa x.b = db at *
                        have g1 : ¬ 9223372036854775807 < ty.length + 2 := by omega
                        have g2 : ¬ 9223372036854775807 < ty.length + 2 + nm5.length := by omega
                        have g3 : ¬ 9223372036854775807 < ty.length + 2 + nm5.length + 1 := by omega
                        have g4 : ¬ 9223372036854775807 < ty.length + 2 + nm5.length + 1 + da.length := by omega
                        have g5 : ¬ 9223372036854775807 < ty.length + 2 + nm5.length + 1 + da.length + 1 := by omega
                        have g6 : ¬ 9223372036854775807 < ty.length + 2 + nm5.length + 1 + da.length + 1 + db.length := by omega
                        have g7 : ¬ 9223372036854775807 < ty.length + 2 + nm5.length + 1 + da.length + 1 + db.length + 1 := by omega
                        go_wp2_with fail
                        refine hNm.mono ?_
                        rintro e w6 ⟨rfl, t6⟩
                        clear z0 z1 z2 hNm
                        obtain ⟨z0, z1, z2⟩ := hc5 w6 t6
                        go_wp2_with fail
                        refine (hOp w6).mono ?_
                        rintro e w7 ⟨rfl, rfl⟩
                        rcases hoc with hoc | hoc | hoc
                        · rw [hoc] at hOp ⊢
                          have HE2 := Lib.hid (show spW ops = [] by rw [HO.out, hoc]; simp [spW])
                          clear hoc HO
                          go_wp2_with fail
                          refine (hOp w6).mono ?_
                          rintro e w7 ⟨rfl, rfl⟩
                          go_wp2_with fail
                          go_roundw
                          case rel => exact ⟨k2 + 1, by omega, by go_num, congrArg Value.string (by rw [HE.out, HE2.out, List.append_nil, ← str_app, ← str_app, ← str_app]), hS5 _ t6, hg6 _ t6, tR5 _ t6, by rw [HE.out, HE2.out]; simp only [List.length_append, List.length_cons, List.length_nil]; omega⟩
                          case measure => simp [intOf]; omega
                        · rw [hoc] at hOp ⊢
                          have HE2 := Lib.hid (show spW ops = [32] ++ da by rw [HO.out, hoc]; simp [spW])
                          clear hoc HO
                          go_wp2_with fail
                          refine (hDa _).mono ?_
                          rintro e w8 ⟨rfl, t8⟩
                          have t68 := t6.then t8
                          clear z0 z1 z2
                          obtain ⟨z0, z1, z2⟩ := hc5 w8 t68
                          go_wp2_with fail
                          refine (hOp w8).mono ?_
                          rintro e w7 ⟨rfl, rfl⟩
                          go_wp2_with fail
                          go_roundw
                          case rel => exact ⟨k2 + 1, by omega, by go_num, congrArg Value.string (by rw [HE.out, HE2.out, ← List.append_assoc, ← str_app, ← str_app, ← str_app, ← str_app, ← str_app]), hS5 _ t68, hg6 _ t68, tR5 _ t68, by rw [HE.out, HE2.out]; simp only [List.length_append, List.length_cons, List.length_nil]; omega⟩
                          case measure => simp [intOf]; omega
                        · rw [hoc] at hOp ⊢
                          have HE2 := Lib.hid (show spW ops = [32] ++ da ++ [32] ++ db by rw [HO.out, hoc]; simp [spW])
                          clear hoc HO
                          go_wp2_with fail
                          refine (hDa _).mono ?_
                          rintro e w8 ⟨rfl, t8⟩
                          have t68 := t6.then t8
                          clear z0 z1 z2
                          obtain ⟨z0, z1, z2⟩ := hc5 w8 t68
                          go_wp2_with fail
                          refine (hOp w8).mono ?_
                          rintro e w7 ⟨rfl, rfl⟩
                          go_wp2_with fail
                          refine (hDb _).mono ?_
                          rintro e w9 ⟨rfl, t9⟩
                          have t69 := t68.then t9
                          go_wp2_with fail
                          go_roundw
                          case rel => exact ⟨k2 + 1, by omega, by go_num, congrArg Value.string (by rw [HE.out, HE2.out, ← List.append_assoc, ← List.append_assoc, ← List.append_assoc, ← str_app, ← str_app, ← str_app, ← str_app, ← str_app, ← str_app, ← str_app]), hS5 _ t69, hg6 _ t69, tR5 _ t69, by rw [HE.out, HE2.out]; simp only [List.length_append, List.length_cons, List.length_nil]; omega⟩
                          case measure => simp [intOf]; omega
                      · have hke : m.code.take k2 = m.code := List.take_of_length_le (by omega)
                        rw [hke, HM.out, ← HTL.out] at hl9 ⊢
                        clear hke
                        go_wp2_with fail
                        go_roundw
                        case rel => exact ⟨k + 1, by omega, by go_num, rfl, hS, by omega⟩
                        case measure => simp [intOf]; omega
              · have hke : i.methods.take k = i.methods := List.take_of_length_le (by omega)
                rw [hke] at hl ⊢
                replace hl : (textOf (L2 ++ i.methods.flatMap mthLs)).length ≤ 706000 := by omega
                clear hke
                generalize hL3 : L2 ++ i.methods.flatMap mthLs = L3 at *
                have HL3 := Lib.hid hL3
                clear hL3
                go_upto_region 31 with fail
                clear x0 x1 x2 x3 x4
                go_loopw [4, 12] (fun s iv wz => ∃ k : Nat, k ≤ i.exports.length ∧ iv = .int .i64 k ∧ s = .string ⟨(textOf (L3 ++ (i.exports.take k).map fun n => joinW [kExport, Lib.itoa n])).toArray⟩ ∧ DSt 30 w wz q _ ∧ (textOf (L3 ++ (i.exports.take k).map fun n => joinW [kExport, Lib.itoa n])).length ≤ 706000 + 700 * k) (fun _ iv _ => i.exports.length - (intOf iv).toNat)
                case atStart => exact ⟨0, by omega, rfl, by simp, hS, by simpa using hl⟩
                case round =>
                  clear hS hl
                  obtain ⟨k, hk1, rfl, rfl, hS, hl⟩ := hrel
                  obtain ⟨x0, x1, x2, x3, x4, _⟩ := cells5 hS.box
                  by_cases hk : k < i.exports.length
                  · obtain ⟨ad, rfl, _, _, hqc⟩ := Src.at (he.tch hS.t (by simp)) (j := k) (by simpa using hk)
                    have hq0 : wr.cell? (ad.add k) = some (.int .i64 i.exports[k]) := by simpa [ints] using hqc
                    clear hqc
                    have hye := q4e _ (List.getElem_mem hk)
                    have htk : i.exports.take (k + 1) = i.exports.take k ++ [i.exports[k]] := (List.take_append_getElem hk).symm
                    generalize i.exports[k] = y at *
                    have hyI : I6 y := ⟨by omega, by omega⟩
                    have HE := Lib.hid (show textOf (L3 ++ (i.exports.take (k + 1)).map fun n => joinW [kExport, Lib.itoa n]) = textOf (L3 ++ (i.exports.take k).map fun n => joinW [kExport, Lib.itoa n]) ++ [101, 120, 112, 111, 114, 116, 32] ++ Lib.itoa y ++ [10] by rw [ln_export, htk, List.map_append, ← List.append_assoc]; exact textOf_one _ _)
                    clear htk
                    generalize textOf (L3 ++ (i.exports.take k).map fun n => joinW [kExport, Lib.itoa n]) = tx at *
                    have hnl := itoa_len32 y hyI
                    have hDg := rf_Digits wr y hyI
                    generalize Lib.itoa y = nm at *
                    have g1 : ¬ 9223372036854775807 < tx.length + 7 := by omega
                    have g2 : ¬ 9223372036854775807 < tx.length + 7 + nm.length := by omega
                    have g3 : ¬ 9223372036854775807 < tx.length + 7 + nm.length + 1 := by omega
                    go_wp2_with fail
                    refine hDg.mono ?_
                    rintro e w5 ⟨rfl, t5⟩
                    clear hDg
                    go_wp2_with fail
                    go_roundw
                    case rel => exact ⟨k + 1, by omega, by go_num, congrArg Value.string (by rw [HE.out, ← str_app, ← str_app, ← str_app]), hS.tch t5, by rw [HE.out]; simp only [List.length_append, List.length_cons, List.length_nil]; omega⟩
                    case measure => simp [intOf]; omega
                  · have hke : i.exports.take k = i.exports := List.take_of_length_le (by omega)
                    rw [hke] at hl ⊢
                    have hpw : textOf (L3 ++ i.exports.map fun n => joinW [kExport, Lib.itoa n]) = printW i := by
                      rw [← HL3.out, ← HL2.out, ← HL1.out, ← HL0.out]
                      unfold printW imgLs
                      simp only [List.append_assoc]
                    rw [hpw] at hl ⊢
                    have HP := Lib.hid (prRes_yes HB.out)
                    have HPL := Lib.hid (show (printW i).length ≤ 1000000 by omega)
                    clear hke hpw hl
                    generalize hpe : printW i = pw at *
                    have HPE := Lib.hid hpe
                    clear hpe
                    go_wp2_with fail
                    go_ret2
                    exact ⟨by rw [HP.out]; rfl, fun _ => by rw [HPE.out]; exact HPL.out, hS.t⟩
end Go.Proofs.YteebapopeaafhaaGreatDoor
