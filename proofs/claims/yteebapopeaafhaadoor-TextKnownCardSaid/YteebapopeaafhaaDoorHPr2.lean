/-
  CONTRACTS: text.Print. Conditions: utf8's tables as they are laid; strconv.Itoa's contract.
-/
import Derived.Test.YteebapopeaafhaaDoorHDpL
import Derived.Test.YteebapopeaafhaaDoorHTnK
import Derived.Deep.RegionHeld3
namespace Go.Proofs.YteebapopeaafhaaDoor
open Go.RowKit Go.Tcn
set_option linter.unusedVariables false
set_option linter.unusedSimpArgs false
set_option maxRecDepth 100000 in
set_option maxHeartbeats 8000000 in
theorem tx_Print (w : World) (i : Img) (vf vi vm ve : Value) (hf : RInts w [] vf i.fields) (hi : RImps w [] vi i.imports) (hm : RMths w [] vm i.methods) (he : RInts w [] ve i.exports) (hz : ImgZ i) (hV : ValC w) (hI : ItoC Tryd.prog 27 w) :
    Calls Tryd.prog 13 #[.agg #[.string ⟨i.name.toArray⟩, vf, vi, vm, ve]] w fun e w' => e = .returned (prRes i) ∧ (imgB i = true → (printW i).length ≤ 1000000) ∧ Tch [] w w' := by
  obtain ⟨af, cf, rfl⟩ := Src.form hf
  obtain ⟨ai, ci, rfl⟩ := RImps.form hi
  obtain ⟨am, cm, rfl⟩ := RMths.form hm
  obtain ⟨ae, ce, rfl⟩ := Src.form he
  have hR := fun W (t : Tch [] w W) => im_Right W i _ _ _ _ (hf.tch t (by simp)) (hi.tch t (by simp)) (hm.tch t (by simp)) (he.tch t (by simp)) hz (fun nm w' h16 t' => hV nm w' h16 (t.then t'))
  obtain ⟨W, hW⟩ : ∃ W, W = w.alloc (.cells #[.string ⟨i.name.toArray⟩, .slice af i.fields.length cf, .slice ai i.imports.length ci, .slice am i.methods.length cm, .slice ae i.exports.length ce] 29) := ⟨_, rfl⟩
  have tW : Tch [] w W := by rw [hW]; exact (Tch.refl [] w).alloc _
  have hc : W.heap[w.heap.size]? = some (.cells #[.string ⟨i.name.toArray⟩, .slice af i.fields.length cf, .slice ai i.imports.length ci, .slice am i.methods.length cm, .slice ae i.exports.length ce] 29 (0, 0)) := by rw [hW]; exact heap_alloc_new _ _
  have hWs : W.heap.size = w.heap.size + 1 := by rw [hW]; simp
  obtain ⟨q, hq⟩ : ∃ q, q = w.heap.size := ⟨_, rfl⟩
  rw [← hq] at hc
  obtain ⟨x0, x1, x2, x3, x4, _⟩ := cells5 hc
  go_enter Tryd.func13, Tryd.ntmps13
  go_upto_region 1 with fail
  rw [← hW, ← hq]
  have HQ := Lib.hid hq
  have HWs := Lib.hid hWs
  clear hW hq hWs
  go_wp2_with fail
  refine (hR W tW).mono ?_
  rintro e w1 ⟨rfl, t1⟩
  cases hib : imgB i
  · clear x0 x1 x2 x3 x4
    have HN := Lib.hid (And.intro (prRes_no hib) hib)
    clear hib hR
    go_wp2_with fail
    go_ret2
    exact ⟨by rw [HN.out.1]; rfl, fun h => absurd (HN.out.2.symm.trans h) (by decide), tW.then t1⟩
  · have hbox1 := (t1.block q (heap_lt hc) (by simp)).trans hc
    have HB := Lib.hid hib
    clear x0 x1 x2 x3 x4 hR hib
    obtain ⟨x0, x1, x2, x3, x4, _⟩ := cells5 hbox1
    obtain ⟨W2, hW2⟩ : ∃ W2, W2 = w1.alloc (.cells #[.pointer none, .slice none 0 0] 64) := ⟨_, rfl⟩
    have t2 : Tch [] w1 W2 := by rw [hW2]; exact (Tch.refl [] w1).alloc _
    have hqb : q ≠ w1.heap.size := by have := t1.size; have := HQ.out; have := HWs.out; omega
    have hS0 : PrSt 64 5 29 w W2 q w1.heap.size #[.string ⟨i.name.toArray⟩, .slice af i.fields.length cf, .slice ai i.imports.length ci, .slice am i.methods.length cm, .slice ae i.exports.length ce] [] :=
      ⟨.inl ⟨by have := t1.size; have := HWs.out; omega, .slice none 0 0, by rw [hW2]; exact heap_alloc_new _ _, ⟨rfl, .inl ⟨rfl, rfl⟩⟩, by simp [Value.ownBlock]⟩, (tW.then t1).then t2, (t2.block q (heap_lt hbox1) (by simp)).trans hbox1, hqb, by simp⟩
    go_upto_region 4 with fail
    rw [← hW2]
    clear hW2 t2 hqb x0 x1 x2 x3 x4 hbox1 hc t1
    generalize w1.heap.size = b at *
    obtain ⟨x0, x1, x2, x3, x4, _⟩ := cells5 hS0.box
    obtain ⟨W3, hW3⟩ : ∃ W3, W3 = W2.alloc (.cells #[.string ⟨kApplet.toArray⟩, .string ⟨i.name.toArray⟩] 9) := ⟨_, rfl⟩
    have t3 : Tch [] W2 W3 := by rw [hW3]; exact (Tch.refl [] W2).alloc _
    have hs3 : Src W3 [] (.slice (some ⟨W2.heap.size, 0, none⟩) 2 2) 2 (strs [kApplet, i.name]) := by rw [hW3]; exact src_new W2 _ [] _ _ 2 2 (Tch.refl [] _) (by simp)
    have hq1 := imgB_le HB.out
    have hL := pr_step w W3 q b _ [] [] _ _ [kApplet, i.name] (hS0.tch t3) hs3 (by simp) (two_le (by decide) (by omega)) (by simp)
    have hka : kApplet = [97, 112, 112, 108, 101, 116] := rfl
    rw [hka] at hW3
    obtain ⟨⟨n1, n2⟩, ⟨q1, _⟩, ⟨q2, q2i⟩, ⟨⟨_, q3⟩, q3m⟩, q4, q4e⟩ := hq1
    go_wp2_with fail
    rw [← hW3]
    refine hL.mono ?_
    rintro e w4 ⟨rfl, hS4, hl4, k4⟩
    clear hL hs3 hW3 t3 x0 x1 x2 x3 x4 hS0 hka n1 n2 k4
    have e0 : ([] : Wd) ++ joinW [kApplet, i.name] ++ [10] = textOf [joinW [kApplet, i.name]] := by simp [textOf]
    rw [e0] at hS4 hl4
    clear e0
    replace hl4 : (textOf [joinW [kApplet, i.name]]).length ≤ 700 := by simpa using hl4
    generalize hL0 : [joinW [kApplet, i.name]] = L0 at *
    have HL0 := Lib.hid hL0
    clear hL0
    obtain ⟨x0, x1, x2, x3, x4, _⟩ := cells5 hS4.box
    go_wp2_with fail
    clear x0 x1 x2 x3 x4
    go_loopw [28] (fun iv wz => ∃ k : Nat, k ≤ i.fields.length ∧ iv = .int .i64 k ∧ PrSt 64 5 29 w wz q b #[.string ⟨i.name.toArray⟩, .slice af i.fields.length cf, .slice ai i.imports.length ci, .slice am i.methods.length cm, .slice ae i.exports.length ce] (textOf (L0 ++ (i.fields.take k).map fun y => joinW [kField, kindNm y])) ∧ (textOf (L0 ++ (i.fields.take k).map fun y => joinW [kField, kindNm y])).length ≤ 700 * (1 + k)) (fun iv _ => i.fields.length - (intOf iv).toNat)
    case atStart => exact ⟨0, by omega, rfl, by simpa using hS4, by simpa using hl4⟩
    case round =>
      obtain ⟨k, hk1, rfl, hS, hl⟩ := hrel
      clear hS4 hl4
      by_cases hk : k < i.fields.length
      · obtain ⟨ad, rfl, _, _, hqc⟩ := Src.at (hf.tch hS.t (by simp)) (j := k) (by simpa using hk)
        have hq0 : wr.cell? (ad.add k) = some (.int .i64 i.fields[k]) := by simpa [ints] using hqc
        clear hqc
        have htk : i.fields.take (k + 1) = i.fields.take k ++ [i.fields[k]] := (List.take_append_getElem hk).symm
        have HT := Lib.hid htk
        clear htk
        generalize i.fields[k] = y at *
        generalize htx : textOf (L0 ++ (i.fields.take k).map fun y => joinW [kField, kindNm y]) = tx at *
        have HTX := Lib.hid htx
        clear htx
        go_wp2_with fail
        refine (tx_KindName wr y).mono ?_
        rintro e w5 ⟨rfl, rfl⟩
        obtain ⟨W6, hW6⟩ : ∃ W6, W6 = wr.alloc (.cells #[.string ⟨kField.toArray⟩, .string ⟨(kindNm y).toArray⟩] 9) := ⟨_, rfl⟩
        have t6 : Tch [] wr W6 := by rw [hW6]; exact (Tch.refl [] wr).alloc _
        have hs6 : Src W6 [] (.slice (some ⟨wr.heap.size, 0, none⟩) 2 2) 2 (strs [kField, kindNm y]) := by rw [hW6]; exact src_new wr _ [] _ _ 2 2 (Tch.refl [] _) (by simp)
        have hnl := kindNm_le y
        have hL := pr_step w W6 q b _ tx [] _ _ [kField, kindNm y] (hS.tch t6) hs6 (by simp) (two_le (by decide) (by omega)) (by omega)
        have hka : kField = [102, 105, 101, 108, 100] := rfl
        rw [hka] at hW6
        have HE := Lib.hid (show textOf (L0 ++ (i.fields.take (k + 1)).map fun y => joinW [kField, kindNm y]) = tx ++ joinW [kField, kindNm y] ++ [10] by rw [HT.out, List.map_append, ← List.append_assoc, ← HTX.out]; exact textOf_one _ _)
        clear hnl HT HTX
        generalize kindNm y = nm at *
        go_wp2_with fail
        rw [← hW6]
        refine hL.mono ?_
        rintro e w7 ⟨rfl, hS7, hl7, k7⟩
        clear hL hs6 hW6 t6 hka k7
        go_wp2_with fail
        go_roundw
        case rel => exact ⟨k + 1, by omega, by go_num, by rw [HE.out]; exact hS7, by rw [HE.out]; omega⟩
        case measure => simp [intOf]; omega
      · have hke : i.fields.take k = i.fields := List.take_of_length_le (by omega)
        rw [hke] at hS hl
        replace hl : (textOf (L0 ++ i.fields.map fun y => joinW [kField, kindNm y])).length ≤ 6300 := by omega
        clear hke
        generalize hL1 : L0 ++ (i.fields.map fun y => joinW [kField, kindNm y]) = L1 at *
        have HL1 := Lib.hid hL1
        clear hL1
        obtain ⟨x0, x1, x2, x3, x4, _⟩ := cells5 hS.box
        go_upto_region 10 with fail
        go_wp2_with fail
        clear x0 x1 x2 x3 x4
        go_loopw [41] (fun iv wz => ∃ k : Nat, k ≤ i.imports.length ∧ iv = .int .i64 k ∧ PrSt 64 5 29 w wz q b #[.string ⟨i.name.toArray⟩, .slice af i.fields.length cf, .slice ai i.imports.length ci, .slice am i.methods.length cm, .slice ae i.exports.length ce] (textOf (L1 ++ (i.imports.take k).map fun y => joinW (impWs y))) ∧ (textOf (L1 ++ (i.imports.take k).map fun y => joinW (impWs y))).length ≤ 6300 + 700 * k) (fun iv _ => i.imports.length - (intOf iv).toNat)
        case atStart => exact ⟨0, by omega, rfl, by simpa using hS, by simpa using hl⟩
        case round =>
          clear hS hl
          obtain ⟨k, hk1, rfl, hS, hl⟩ := hrel
          by_cases hk : k < i.imports.length
          · obtain ⟨ad, cs, rfl, a1, a2, a3, ⟨vp, rfl, hvp⟩, a5⟩ := RL.at (hi.tch hS.t (by simp)) hk (by omega)
            have hxb := q2i _ (List.getElem_mem hk)
            have htk : i.imports.take (k + 1) = i.imports.take k ++ [i.imports[k]] := (List.take_append_getElem hk).symm
            have HT := Lib.hid htk
            clear htk
            generalize i.imports[k] = x at *
            obtain ⟨ap, cp, rfl⟩ := Src.form hvp
            have hcx : ∀ (j : Nat) u, (#[.string ⟨x.name.toArray⟩, .int .i64 x.exp, .slice ap x.params.length cp, .int .i64 x.result] : Array Value).toList[j]? = some u → wr.cell? ((ad.add (k * 4)).add j) = some u := fun j u hj => by rw [Addr_add_add]; exact a5 j u hj
            generalize htx : textOf (L1 ++ (i.imports.take k).map fun y => joinW (impWs y)) = tx at *
            have HTX := Lib.hid htx
            clear htx a5
            simp only [impB, Bool.and_eq_true, decide_eq_true_eq] at hxb
            obtain ⟨⟨⟨hxn, hxe⟩, hxp⟩, hxr⟩ := hxb
            have hxn2 : x.name.length ≤ 16 := by unfold nameB at hxn; simp at hxn; omega
            have hxp2 : x.params.length ≤ 4 := by unfold kindsB at hxp; simp at hxp; omega
            have hxe2 : I6 x.exp := ⟨by omega, by omega⟩
            have HE := Lib.hid (show textOf (L1 ++ (i.imports.take (k + 1)).map fun y => joinW (impWs y)) = tx ++ joinW (impWs x) ++ [10] by rw [HT.out, List.map_append, ← List.append_assoc, ← HTX.out]; exact textOf_one _ _)
            clear HT HTX hxn hxp hxr
            obtain ⟨V, hVd⟩ : ∃ V, V = wr.alloc (.cells #[.string ⟨x.name.toArray⟩, .int .i64 x.exp, .slice ap x.params.length cp, .int .i64 x.result] 57) := ⟨_, rfl⟩
            have tV : Tch [] wr V := by rw [hVd]; exact (Tch.refl [] wr).alloc _
            have hg : V.heap[wr.heap.size]? = some (.cells #[.string ⟨x.name.toArray⟩, .int .i64 x.exp, .slice ap x.params.length cp, .int .i64 x.result] 57 (0, 0)) := by rw [hVd]; exact heap_alloc_new _ _
            go_upto_region 13 with (first | (refine wpList_load_agg rfl 57 (.tmp 43) rfl (ad.add (k * 4)) rfl #[.string ⟨x.name.toArray⟩, .int .i64 x.exp, .slice ap x.params.length cp, .int .i64 x.result] _ hcx Tryd.underlying57 rfl (by kernel_rfl) ?_) | fail)
            rw [← hVd]
            have hgb : wr.heap.size ≠ b := by
              have := hS.bd.elim (fun h => h.lt) (fun h => h.lt)
              omega
            clear hVd hcx
            generalize wr.heap.size = g at *
            have hIt := hI.tch (hS.t.then tV)
            have hSV := hS.tch tV
            have hpV := (hvp.tch tV (by simp))
            have hSall : ∀ w', Tch [] V w' → w'.cell? ⟨g, 0, none⟩ = some (.string ⟨x.name.toArray⟩) ∧ w'.cell? ⟨g, 1, none⟩ = some (.int .i64 x.exp) ∧ w'.cell? ⟨g, 2, none⟩ = some (.slice ap x.params.length cp) ∧ w'.cell? ⟨g, 3, none⟩ = some (.int .i64 x.result) := fun W t => by
              have hh := (t.block g (heap_lt hg) (by simp)).trans hg
              exact ⟨by simp [World.cell?, hh], by simp [World.cell?, hh], by simp [World.cell?, hh], by simp [World.cell?, hh]⟩
            clear hS tV hvp
            have hki := kindNm_le x.result
            have hiw : ∀ y ∈ impWs x, y.length ≤ 32 := by
              have h1 := itoa_len32 x.exp hxe2
              intro y hy
              simp only [impWs, List.mem_cons, List.mem_map] at hy
              rcases hy with rfl | rfl | rfl | rfl | ⟨z, _, rfl⟩
              · decide
              · omega
              · exact h1
              · omega
              · have := kindNm_le z; omega
            have hil : (impWs x).length ≤ 20 := by simp [impWs]; omega
            have hNm : ∀ w5, Tch [] V w5 → Calls Tryd.prog 26 #[.slice (some ⟨w5.heap.size, 0, none⟩) 4 4, .slice ap x.params.length cp] (w5.alloc (.cells #[.string ⟨#[105, 109, 112, 111, 114, 116]⟩, .string ⟨x.name.toArray⟩, .string ⟨(Lib.itoa x.exp).toArray⟩, .string ⟨(kindNm x.result).toArray⟩] 9)) fun e w' => ∃ a7 c7, e = .returned (.slice a7 (impWs x).length c7) ∧ Src w' [] (.slice a7 (impWs x).length c7) (impWs x).length (strs (impWs x)) ∧ Tch [] V w' := fun w5 t => by
              refine (pr_names V _ _ [kImport, x.name, Lib.itoa x.exp, kindNm x.result] ap cp x.params (NewRow.lit t 9 [kImport, x.name, Lib.itoa x.exp, kindNm x.result] 4) (t.alloc _) hpV (by simp; omega)).mono ?_
              rintro e w7 ⟨v7, rfl, hv7, t7⟩
              have hs7 := NewRow.src hv7 [] (by simp)
              obtain ⟨a7, c7, rfl⟩ := Src.form hs7
              exact ⟨a7, c7, rfl, hs7, t7⟩
            have hLn : ∀ w7 a7 c7, Tch [] V w7 → Src w7 [] (.slice a7 (impWs x).length c7) (impWs x).length (strs (impWs x)) → Calls Tryd.prog 25 #[.pointer (some ⟨b, 0, none⟩), .slice a7 (impWs x).length c7] w7 fun e wy => e = .returned (.tuple #[]) ∧ PrSt 64 5 29 w wy q b _ (tx ++ joinW (impWs x) ++ [10]) ∧ (tx ++ joinW (impWs x) ++ [10]).length ≤ tx.length + 700 ∧ wy.cell? ⟨g, 0, none⟩ = some (.string ⟨x.name.toArray⟩) ∧ wy.cell? ⟨g, 1, none⟩ = some (.int .i64 x.exp) ∧ wy.cell? ⟨g, 2, none⟩ = some (.slice ap x.params.length cp) ∧ wy.cell? ⟨g, 3, none⟩ = some (.int .i64 x.result) := fun w7 a7 c7 t hs => by
              refine (pr_step w w7 q b _ tx [] a7 c7 (impWs x) (hSV.tch t) hs hil hiw (by omega)).mono ?_
              rintro e wy ⟨h1, h2, h3, h4⟩
              have hh := h4.block ((t.block g (heap_lt hg) (by simp)).trans hg) hgb (by decide)
              exact ⟨h1, h2, h3, by simp [World.cell?, hh], by simp [World.cell?, hh], by simp [World.cell?, hh], by simp [World.cell?, hh]⟩
            have HIW := Lib.hid hil
            clear hil hiw hki
            generalize hiws : impWs x = iw at *
            clear hiws
            go_region_held3 (fun w' => w'.cell? ⟨g, 0, none⟩ = some (.string ⟨x.name.toArray⟩) ∧ w'.cell? ⟨g, 1, none⟩ = some (.int .i64 x.exp) ∧ w'.cell? ⟨g, 2, none⟩ = some (.slice ap x.params.length cp) ∧ w'.cell? ⟨g, 3, none⟩ = some (.int .i64 x.result)) (first | assumption | exact hSall _ ((Tch.refl [] V).drew) | exact hSall _ t5 | exact hSall _ (t5.alloc _) | exact hSall _ t7 | exact hc8)
              (first | (go_at_call 27; refine (hIt x.exp _ hxe2 ((Tch.refl [] V).drew)).mono ?_; rintro e w5 ⟨rfl, t5'⟩; have t5 : Tch [] V w5 := (((Tch.refl [] V).drew).then t5')) | (go_at_call 14; refine (tx_KindName _ _).mono ?_; rintro e w6 ⟨rfl, rfl⟩) | (go_at_call 26; refine (hNm _ t5).mono ?_; rintro e w7 ⟨a7, c7, rfl, hs7, t7⟩) | (go_at_call 25; refine (hLn _ _ _ t7 hs7).mono ?_; rintro e w8 ⟨rfl, hS8, hl8, hc8⟩))
            all_goals
              clear hSall hLn hNm hc8 hs7 t7 t5 hpV hIt hSV hg
              try clear Hlimb
              go_wp2_with fail
              go_roundw
              case rel => exact ⟨k + 1, by omega, by go_num, by rw [HE.out]; exact hS8, by rw [HE.out]; omega⟩
              case measure => simp [intOf]; omega
          · have hke : i.imports.take k = i.imports := List.take_of_length_le (by omega)
            rw [hke] at hS hl
            replace hl : (textOf (L1 ++ i.imports.map fun y => joinW (impWs y))).length ≤ 9100 := by omega
            clear hke
            generalize hL2 : L1 ++ (i.imports.map fun y => joinW (impWs y)) = L2 at *
            have HL2 := Lib.hid hL2
            clear hL2
            obtain ⟨x0, x1, x2, x3, x4, _⟩ := cells5 hS.box
            go_upto_region 15 with fail
            go_wp2_with fail
            clear x0 x1 x2 x3 x4
            go_loopw [63] (fun iv wz => ∃ k : Nat, k ≤ i.methods.length ∧ iv = .int .i64 k ∧ PrSt 64 5 29 w wz q b #[.string ⟨i.name.toArray⟩, .slice af i.fields.length cf, .slice ai i.imports.length ci, .slice am i.methods.length cm, .slice ae i.exports.length ce] (textOf (L2 ++ (i.methods.take k).flatMap mthLs)) ∧ (textOf (L2 ++ (i.methods.take k).flatMap mthLs)).length ≤ 9100 + 87000 * k) (fun iv _ => i.methods.length - (intOf iv).toNat)
            case atStart => exact ⟨0, by omega, rfl, by simpa using hS, by simpa using hl⟩
            case round =>
              clear hS hl
              obtain ⟨k, hk1, rfl, hS, hl⟩ := hrel
              by_cases hk : k < i.methods.length
              · obtain ⟨ad, cs, rfl, a1, a2, a3, ⟨vp, vl, vc, rfl, hvp, hvl, hvc⟩, a5⟩ := RL.at hm hk (by omega)
                have hmb := q3m _ (List.getElem_mem hk)
                have htk : i.methods.take (k + 1) = i.methods.take k ++ [i.methods[k]] := (List.take_append_getElem hk).symm
                have HT := Lib.hid htk
                clear htk
                generalize i.methods[k] = m at *
                obtain ⟨ap, cp, rfl⟩ := Src.form hvp
                obtain ⟨al, cl, rfl⟩ := Src.form hvl
                obtain ⟨ac, cc, rfl⟩ := RCode.form hvc
                have hcx : ∀ (j : Nat) u, (#[.slice ap m.params.length cp, .int .i64 m.result, .slice al m.locals.length cl, .slice ac m.code.length cc] : Array Value).toList[j]? = some u → wr.cell? ((ad.add (k * 4)).add j) = some u := fun j u hj => by rw [Addr_add_add, hS.t.cell (cell_lt (a5 j u hj)) (by simp)]; exact a5 j u hj
                have HTL : Hid (L2 ++ (i.methods.take (k + 1)).flatMap mthLs = (L2 ++ (i.methods.take k).flatMap mthLs) ++ mthLs m) := Lib.hid (by rw [HT.out]; simp)
                generalize L2 ++ (i.methods.take k).flatMap mthLs = L3 at *
                clear HT a5
                simp only [mthB, Bool.and_eq_true, decide_eq_true_eq] at hmb
                obtain ⟨⟨⟨⟨hmp, hmr⟩, hml⟩, hmc⟩, hmi⟩ := hmb
                have hmp2 : m.params.length ≤ 4 := by unfold kindsB at hmp; simp at hmp; omega
                have hml2 : m.locals.length ≤ 10 := by unfold kindsB at hml; simp at hml; omega
                have hmi2 : ∀ x ∈ m.code, insB x = true := List.all_eq_true.1 hmi
                clear hmp hmr hml hmi
                obtain ⟨V, hVd⟩ : ∃ V, V = wr.alloc (.cells #[.slice ap m.params.length cp, .int .i64 m.result, .slice al m.locals.length cl, .slice ac m.code.length cc] 52) := ⟨_, rfl⟩
                have tV : Tch [] wr V := by rw [hVd]; exact (Tch.refl [] wr).alloc _
                have hg : V.heap[wr.heap.size]? = some (.cells #[.slice ap m.params.length cp, .int .i64 m.result, .slice al m.locals.length cl, .slice ac m.code.length cc] 52 (0, 0)) := by rw [hVd]; exact heap_alloc_new _ _
                have hgb : wr.heap.size ≠ b := by
                  have := hS.bd.elim (fun h => h.lt) (fun h => h.lt)
                  omega
                go_upto_region 18 with (first | (refine wpList_load_agg rfl 52 (.tmp 65) rfl (ad.add (k * 4)) rfl #[.slice ap m.params.length cp, .int .i64 m.result, .slice al m.locals.length cl, .slice ac m.code.length cc] _ hcx Tryd.underlying52 rfl (by kernel_rfl) ?_) | fail)
                rw [← hVd]
                clear hVd hcx
                generalize wr.heap.size = g at *
                have hSV := hS.tch tV
                have hpV := hvp.tch (hS.t.then tV) (by simp)
                have hSall : ∀ w', Tch [] V w' → w'.cell? ⟨g, 0, none⟩ = some (.slice ap m.params.length cp) ∧ w'.cell? ⟨g, 1, none⟩ = some (.int .i64 m.result) ∧ w'.cell? ⟨g, 2, none⟩ = some (.slice al m.locals.length cl) ∧ w'.cell? ⟨g, 3, none⟩ = some (.slice ac m.code.length cc) := fun W t => by
                  have hh := (t.block g (heap_lt hg) (by simp)).trans hg
                  exact ⟨by simp [World.cell?, hh], by simp [World.cell?, hh], by simp [World.cell?, hh], by simp [World.cell?, hh]⟩
                have hki := kindNm_le m.result
                have hiw : ∀ y ∈ kMethod :: kindNm m.result :: m.params.map kindNm, y.length ≤ 32 := by
                  intro y hy
                  simp only [List.mem_cons, List.mem_map] at hy
                  rcases hy with rfl | rfl | ⟨z, _, rfl⟩
                  · decide
                  · omega
                  · have := kindNm_le z; omega
                have hil : (kMethod :: kindNm m.result :: m.params.map kindNm).length ≤ 20 := by simp; omega
                have hNm : ∀ w5, Tch [] V w5 → Calls Tryd.prog 26 #[.slice (some ⟨w5.heap.size, 0, none⟩) 2 2, .slice ap m.params.length cp] (w5.alloc (.cells #[.string ⟨#[109, 101, 116, 104, 111, 100]⟩, .string ⟨(kindNm m.result).toArray⟩] 9)) fun e w' => ∃ a7 c7, e = .returned (.slice a7 (kMethod :: kindNm m.result :: m.params.map kindNm).length c7) ∧ Src w' [] (.slice a7 (kMethod :: kindNm m.result :: m.params.map kindNm).length c7) (kMethod :: kindNm m.result :: m.params.map kindNm).length (strs (kMethod :: kindNm m.result :: m.params.map kindNm)) ∧ Tch [] V w' := fun w5 t => by
                  refine (pr_names V _ _ [kMethod, kindNm m.result] ap cp m.params (NewRow.lit t 9 [kMethod, kindNm m.result] 2) (t.alloc _) hpV (by simp; omega)).mono ?_
                  rintro e w7 ⟨v7, rfl, hv7, t7⟩
                  have hs7 := NewRow.src hv7 [] (by simp)
                  obtain ⟨a7, c7, rfl⟩ := Src.form hs7
                  exact ⟨a7, c7, rfl, hs7, t7⟩
                have hLn : ∀ w7 a7 c7, Tch [] V w7 → Src w7 [] (.slice a7 (kMethod :: kindNm m.result :: m.params.map kindNm).length c7) (kMethod :: kindNm m.result :: m.params.map kindNm).length (strs (kMethod :: kindNm m.result :: m.params.map kindNm)) → Calls Tryd.prog 25 #[.pointer (some ⟨b, 0, none⟩), .slice a7 (kMethod :: kindNm m.result :: m.params.map kindNm).length c7] w7 fun e wy => e = .returned (.tuple #[]) ∧ PrSt 64 5 29 w wy q b _ (textOf (L3 ++ [joinW (kMethod :: kindNm m.result :: m.params.map kindNm)])) ∧ (textOf (L3 ++ [joinW (kMethod :: kindNm m.result :: m.params.map kindNm)])).length ≤ (textOf L3).length + 700 ∧ (wy.cell? ⟨g, 0, none⟩ = some (.slice ap m.params.length cp) ∧ wy.cell? ⟨g, 1, none⟩ = some (.int .i64 m.result) ∧ wy.cell? ⟨g, 2, none⟩ = some (.slice al m.locals.length cl) ∧ wy.cell? ⟨g, 3, none⟩ = some (.slice ac m.code.length cc)) ∧ wy.heap[g]? = some (.cells #[.slice ap m.params.length cp, .int .i64 m.result, .slice al m.locals.length cl, .slice ac m.code.length cc] 52 (0, 0)) := fun w7 a7 c7 t hs => by
                  refine (pr_step w w7 q b _ (textOf L3) [] a7 c7 (kMethod :: kindNm m.result :: m.params.map kindNm) (hSV.tch t) hs hil hiw (by omega)).mono ?_
                  rintro e wy ⟨h1, h2, h3, h4⟩
                  have hh := h4.block ((t.block g (heap_lt hg) (by simp)).trans hg) hgb (by decide)
                  rw [textOf_one]
                  exact ⟨h1, h2, h3, ⟨by simp [World.cell?, hh], by simp [World.cell?, hh], by simp [World.cell?, hh], by simp [World.cell?, hh]⟩, hh⟩
                have HIL := Lib.hid hil
                clear hil hiw hki
                generalize hmws : kMethod :: kindNm m.result :: m.params.map kindNm = mw at *
                have HMW := Lib.hid hmws
                clear hmws
                go_region_held3 (fun w' => w'.cell? ⟨g, 0, none⟩ = some (.slice ap m.params.length cp) ∧ w'.cell? ⟨g, 1, none⟩ = some (.int .i64 m.result) ∧ w'.cell? ⟨g, 2, none⟩ = some (.slice al m.locals.length cl) ∧ w'.cell? ⟨g, 3, none⟩ = some (.slice ac m.code.length cc)) (first | assumption | exact hSall _ ((Tch.refl [] V).drew) | exact hSall _ (((Tch.refl [] V).drew).alloc _) | exact hSall _ (((Tch.refl [] V).alloc _).drew) | exact hSall _ t7 | exact hc8)
                  (first | (go_at_call 14; refine (tx_KindName _ _).mono ?_; rintro e w6 ⟨rfl, rfl⟩) | (go_at_call 26; refine (hNm _ ((Tch.refl [] V).drew)).mono ?_; rintro e w7 ⟨a7, c7, rfl, hs7, t7⟩) | (go_at_call 25; refine (hLn _ _ _ t7 hs7).mono ?_; rintro e w8 ⟨rfl, hS8, hl8, hc8, hg8⟩))
                all_goals
                  clear hSall hLn hNm hs7 t7 hpV hSV hg hS tV
                  obtain ⟨y0, y1, y2, y3⟩ := hc8
                  go_upto_if 79 with fail
                  go_cut [4] (fun v wz => v = .pointer (some ⟨b, 0, none⟩) ∧ PrSt 64 5 29 w wz q b _ (textOf (L3 ++ [joinW mw] ++ locLs m)) ∧ (textOf (L3 ++ [joinW mw] ++ locLs m)).length ≤ (textOf L3).length + 1400 ∧ wz.heap[g]? = some (.cells #[.slice ap m.params.length cp, .int .i64 m.result, .slice al m.locals.length cl, .slice ac m.code.length cc] 52 (0, 0)))
                  case first =>
                    by_cases hln : m.locals = []
                    · have hl0 : m.locals.length = 0 := by rw [hln]; rfl
                      have HLN := Lib.hid hln
                      clear hln
                      rw [hl0] at y2
                      have hs9 : (textOf (L3 ++ [joinW mw] ++ locLs m)) = textOf (L3 ++ [joinW mw]) := by rw [locLs_no HLN.out, List.append_nil]
                      go_wp2_with fail
                      go_meet
                      exact ⟨rfl, by rw [hs9]; exact hS8, by rw [hs9]; omega, hg8⟩
                    · have HLN := Lib.hid hln
                      have hl0 : 0 < m.locals.length := List.length_pos_iff.2 hln
                      have hd0 : decide ((0 : Int) < (m.locals.length : Int)) = true := decide_eq_true (by omega)
                      clear hln
                      have hs9 : (textOf (L3 ++ [joinW mw] ++ locLs m)) = textOf (L3 ++ [joinW mw]) ++ joinW (kLocals :: m.locals.map kindNm) ++ [10] := by rw [locLs_yes HLN.out, textOf_one]
                      have hlv := hvl.tch hS8.t (by simp)
                      have hl11 : (kLocals :: m.locals.map kindNm).length ≤ 20 := by simp; omega
                      have hl12 : ∀ y ∈ kLocals :: m.locals.map kindNm, y.length ≤ 32 := by
                        intro y hy
                        simp only [List.mem_cons, List.mem_map] at hy
                        rcases hy with rfl | ⟨z, _, rfl⟩
                        · decide
                        · have := kindNm_le z; omega
                      have hN9 : Calls Tryd.prog 26 #[.slice (some ⟨w8.heap.size, 0, none⟩) 1 1, .slice al m.locals.length cl] (w8.alloc (.cells #[.string ⟨#[108, 111, 99, 97, 108, 115]⟩] 9)) fun e w' => ∃ a7 c7, e = .returned (.slice a7 (kLocals :: m.locals.map kindNm).length c7) ∧ Src w' [] (.slice a7 (kLocals :: m.locals.map kindNm).length c7) (kLocals :: m.locals.map kindNm).length (strs (kLocals :: m.locals.map kindNm)) ∧ Tch [] w8 w' := by
                        refine (pr_names w8 _ _ [kLocals] al cl m.locals (NewRow.lit (Tch.refl [] w8) 9 [kLocals] 1) ((Tch.refl [] w8).alloc _) hlv (by simp; omega)).mono ?_
                        rintro e w7 ⟨v7, rfl, hv7, t7⟩
                        have hs7 := NewRow.src hv7 [] (by simp)
                        obtain ⟨a7, c7, rfl⟩ := Src.form hs7
                        exact ⟨a7, c7, rfl, hs7, t7⟩
                      have hL9 : ∀ w10 a10 c10, Tch [] w8 w10 → Src w10 [] (.slice a10 (kLocals :: m.locals.map kindNm).length c10) (kLocals :: m.locals.map kindNm).length (strs (kLocals :: m.locals.map kindNm)) → _ := fun w10 a10 c10 t10 hs10 => pr_step w w10 q b _ _ [] a10 c10 (kLocals :: m.locals.map kindNm) (hS8.tch t10) hs10 hl11 hl12 (by omega)
                      have z2 : (w8.alloc (.cells #[.string ⟨#[108, 111, 99, 97, 108, 115]⟩] 9)).cell? ⟨g, 2, none⟩ = some (.slice al m.locals.length cl) := by rw [((Tch.refl [] w8).alloc _).cell (cell_lt y2) (by simp)]; exact y2
                      have HS9 := Lib.hid hs9
                      clear hs9 hl11 hl12
                      generalize kLocals :: m.locals.map kindNm = lw at *
                      go_wp2_with fail
                      refine hN9.mono ?_
                      rintro e w10 ⟨a10, c10, rfl, hs10, t10⟩
                      have hL10 := hL9 w10 a10 c10 t10 hs10
                      have hg10 := (t10.block g (heap_lt hg8) (by simp)).trans hg8
                      clear hN9 hL9 z2 hs10
                      go_wp2_with fail
                      refine hL10.mono ?_
                      rintro e w11 ⟨rfl, hS11, hl11, k11⟩
                      have hg11 := k11.block hg10 hgb (by decide)
                      clear hL10 k11
                      go_wp2_with fail
                      go_meet
                      exact ⟨rfl, by rw [HS9.out]; exact hS11, by rw [HS9.out]; omega, hg11⟩
                  case rest =>
                    obtain ⟨rfl, hS9, hl9, hg9⟩ := hcut
                    clear hS8 hl8 hg8 y0 y1 y2 y3 hvl
                    have HM := Lib.hid (show (L3 ++ [joinW mw] ++ locLs m) ++ (m.code.map fun x => padW (joinW (insWs x))) = L3 ++ mthLs m by rw [mthLs_loc, HMW.out]; simp)
                    generalize L3 ++ [joinW mw] ++ locLs m = L4 at *
                    have hh := hg9
                    have y3 : wc.cell? ⟨g, 3, none⟩ = some (.slice ac m.code.length cc) := by simp [World.cell?, hh]
                    clear hh hg9
                    go_upto_region 21 with fail
                    go_wp2_with fail
                    clear y3
                    go_loopw [89] (fun iv wz => ∃ k : Nat, k ≤ m.code.length ∧ iv = .int .i64 k ∧ PrSt 64 5 29 w wz q b _ (textOf (L4 ++ (m.code.take k).map fun x => padW (joinW (insWs x)))) ∧ (textOf (L4 ++ (m.code.take k).map fun x => padW (joinW (insWs x)))).length ≤ (textOf L3).length + 1400 + 700 * k) (fun iv _ => m.code.length - (intOf iv).toNat)
                    case atStart => exact ⟨0, by omega, rfl, by simpa using hS9, by simpa using hl9⟩
                    case round =>
                      clear hS9 hl9
                      obtain ⟨k2, hk2, rfl, hS, hl⟩ := hrel
                      by_cases hk : k2 < m.code.length
                      · obtain ⟨ad2, rfl, _, hcc⟩ := RCode.at (hvc.tch hS.t (by simp)) hk
                        have hxi := hmi2 _ (List.getElem_mem hk)
                        have htk : m.code.take (k2 + 1) = m.code.take k2 ++ [m.code[k2]] := (List.take_append_getElem hk).symm
                        generalize m.code[k2] = x at *
                        have HE := Lib.hid (show textOf (L4 ++ (m.code.take (k2 + 1)).map fun x => padW (joinW (insWs x))) = textOf (L4 ++ (m.code.take k2).map fun x => padW (joinW (insWs x))) ++ padW (joinW (insWs x)) ++ [10] by rw [htk, List.map_append, ← List.append_assoc]; exact textOf_one _ _)
                        clear htk
                        generalize textOf (L4 ++ (m.code.take k2).map fun x => padW (joinW (insWs x))) = tx at *
                        obtain ⟨V5, hV5⟩ : ∃ V5, V5 = wr.alloc (.cells #[.int .i64 x.op, .int .i64 x.a, .int .i64 x.b] 54) := ⟨_, rfl⟩
                        have t5 : Tch [] wr V5 := by rw [hV5]; exact (Tch.refl [] wr).alloc _
                        have hg5 : V5.heap[wr.heap.size]? = some (.cells #[.int .i64 x.op, .int .i64 x.a, .int .i64 x.b] 54 (0, 0)) := by rw [hV5]; exact heap_alloc_new _ _
                        go_upto_region 24 with (first | (refine wpList_load_agg rfl 54 (.tmp 91) rfl (ad2.add (k2 * 3)) rfl #[.int .i64 x.op, .int .i64 x.a, .int .i64 x.b] _ hcc Tryd.underlying54 rfl (by kernel_rfl) ?_) | fail)
                        rw [← hV5]
                        clear hV5 hcc
                        generalize wr.heap.size = g5 at *
                        have z0 : V5.cell? ⟨g5, 0, none⟩ = some (.int .i64 x.op) := by simp [World.cell?, hg5]
                        have z1 : V5.cell? ⟨g5, 1, none⟩ = some (.int .i64 x.a) := by simp [World.cell?, hg5]
                        have z2 : V5.cell? ⟨g5, 2, none⟩ = some (.int .i64 x.b) := by simp [World.cell?, hg5]
                        have hL5 := pr_istep w V5 q b _ tx x hxi (hS.tch t5) (hI.tch (hS.t.then t5)) (by omega)
                        clear hg5
                        go_wp2_with fail
                        refine hL5.mono ?_
                        rintro e w6 ⟨rfl, hS6, hl6⟩
                        clear hL5 z0 z1 z2 t5 hS
                        go_wp2_with fail
                        go_roundw
                        case rel => exact ⟨k2 + 1, by omega, by go_num, by rw [HE.out]; exact hS6, by rw [HE.out]; omega⟩
                        case measure => simp [intOf]; omega
                      · have hke : m.code.take k2 = m.code := List.take_of_length_le (by omega)
                        rw [hke, HM.out, ← HTL.out] at hS hl
                        clear hke
                        go_wp2_with fail
                        go_roundw
                        case rel => exact ⟨k + 1, by omega, by go_num, hS, by omega⟩
                        case measure => simp [intOf]; omega
              · have hke : i.methods.take k = i.methods := List.take_of_length_le (by omega)
                rw [hke] at hS hl
                replace hl : (textOf (L2 ++ i.methods.flatMap mthLs)).length ≤ 706000 := by omega
                clear hke
                generalize hL3 : L2 ++ i.methods.flatMap mthLs = L3 at *
                have HL3 := Lib.hid hL3
                clear hL3
                obtain ⟨x0, x1, x2, x3, x4, _⟩ := cells5 hS.box
                go_upto_region 27 with fail
                go_wp2_with fail
                clear x0 x1 x2 x3 x4
                go_loopw [101] (fun iv wz => ∃ k : Nat, k ≤ i.exports.length ∧ iv = .int .i64 k ∧ PrSt 64 5 29 w wz q b _ (textOf (L3 ++ (i.exports.take k).map fun n => joinW [kExport, Lib.itoa n])) ∧ (textOf (L3 ++ (i.exports.take k).map fun n => joinW [kExport, Lib.itoa n])).length ≤ 706000 + 700 * k) (fun iv _ => i.exports.length - (intOf iv).toNat)
                case atStart => exact ⟨0, by omega, rfl, by simpa using hS, by simpa using hl⟩
                case round =>
                  clear hS hl
                  obtain ⟨k, hk1, rfl, hS, hl⟩ := hrel
                  by_cases hk : k < i.exports.length
                  · obtain ⟨ad, rfl, _, _, hqc⟩ := Src.at (he.tch hS.t (by simp)) (j := k) (by simpa using hk)
                    have hq0 : wr.cell? (ad.add k) = some (.int .i64 i.exports[k]) := by simpa [ints] using hqc
                    clear hqc
                    have hye := q4e _ (List.getElem_mem hk)
                    have htk : i.exports.take (k + 1) = i.exports.take k ++ [i.exports[k]] := (List.take_append_getElem hk).symm
                    generalize i.exports[k] = y at *
                    have hyI : I6 y := ⟨by omega, by omega⟩
                    have HE := Lib.hid (show textOf (L3 ++ (i.exports.take (k + 1)).map fun n => joinW [kExport, Lib.itoa n]) = textOf (L3 ++ (i.exports.take k).map fun n => joinW [kExport, Lib.itoa n]) ++ joinW [kExport, Lib.itoa y] ++ [10] by rw [htk, List.map_append, ← List.append_assoc]; exact textOf_one _ _)
                    clear htk
                    generalize textOf (L3 ++ (i.exports.take k).map fun n => joinW [kExport, Lib.itoa n]) = tx at *
                    have hnl := itoa_len32 y hyI
                    have hIt := hI.tch hS.t y wr hyI (Tch.refl [] _)
                    generalize Lib.itoa y = nm at *
                    have hL5 : ∀ w5, Tch [] wr w5 → _ := fun w5 t => pr_step w (w5.alloc (.cells #[.string ⟨#[101, 120, 112, 111, 114, 116]⟩, .string ⟨nm.toArray⟩] 9)) q b _ tx [] _ _ [kExport, nm] (hS.tch (t.alloc _)) (src_new w5 _ [] _ _ 2 2 (Tch.refl [] _) (by simp)) (by simp) (two_le (by decide) hnl) (by omega)
                    go_wp2_with fail
                    refine hIt.mono ?_
                    rintro e w5 ⟨rfl, t5⟩
                    have hL6 := hL5 w5 t5
                    clear hL5 hIt hnl
                    go_wp2_with fail
                    refine hL6.mono ?_
                    rintro e w6 ⟨rfl, hS6, hl6, k6⟩
                    clear hL6 k6 hS t5
                    go_wp2_with fail
                    go_roundw
                    case rel => exact ⟨k + 1, by omega, by go_num, by rw [HE.out]; exact hS6, by rw [HE.out]; omega⟩
                    case measure => simp [intOf]; omega
                  · have hke : i.exports.take k = i.exports := List.take_of_length_le (by omega)
                    rw [hke] at hS
                    have hpw : textOf (L3 ++ i.exports.map fun n => joinW [kExport, Lib.itoa n]) = printW i := by
                      rw [← HL3.out, ← HL2.out, ← HL1.out, ← HL0.out]
                      unfold printW imgLs
                      simp only [List.append_assoc]
                    rw [hpw] at hS
                    have hne : printW i ≠ [] := by
                      unfold printW imgLs
                      simp [textOf]
                    have HP := Lib.hid (prRes_yes HB.out)
                    have HPL := Lib.hid hS.len
                    have hbs := b_string w.heap.size b (printW i) wr hS.bd hne
                    have hst := hS.t
                    clear hke hpw hne hl hS
                    generalize hpe : printW i = pw at *
                    have HPE := Lib.hid hpe
                    clear hpe
                    go_wp2_with fail
                    refine hbs.mono ?_
                    rintro e w5 ⟨rfl, hbw⟩
                    go_wp2_with fail
                    go_ret2
                    exact ⟨by rw [HP.out]; rfl, fun _ => by rw [HPE.out]; exact HPL.out, hbw.os.trans hst.os, hbw.tape.trans hst.tape, hbw.output.trans hst.output, Nat.le_trans hst.size hbw.size, fun k hk hx => (hbw.block k hk).trans (hst.block k hk hx)⟩
end Go.Proofs.YteebapopeaafhaaDoor
