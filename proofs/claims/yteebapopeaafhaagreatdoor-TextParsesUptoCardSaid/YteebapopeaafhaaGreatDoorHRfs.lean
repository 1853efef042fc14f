/-
  CONTRACTS: Same of the reference of chapter 4. Conditions: sizes of 64 bits.
-/
import Derived.Test.YteebapopeaafhaaGreatDoorHImx
namespace Go.Proofs.YteebapopeaafhaaGreatDoor
open Go.RowKit Go.Tcn
set_option linter.unusedVariables false
set_option linter.unusedSimpArgs false
theorem mth_eq4 {x y : Mth} (h1 : x.params = y.params) (h2 : x.result = y.result) (h3 : x.locals = y.locals) (h4 : x.code = y.code) : x = y := by
  cases x; cases y; simp only at h1 h2 h3 h4; subst h1 h2 h3 h4; rfl
set_option maxRecDepth 100000 in
set_option maxHeartbeats 4000000 in
theorem rf_same4 (w : World) (v0 v1 : Value) (a b : List Int) (h0 : RInts w [] v0 a) (h1 : RInts w [] v1 b) (hm0 : a.length ≤ 9223372036854775807) (hm1 : b.length ≤ 9223372036854775807) :
    Calls Tryz.prog 34 #[v0, v1] w fun e w' => e = .returned (.bool (decide (a = b))) ∧ Tch [] w w' := by
  obtain ⟨a0, c0, rfl⟩ := h0.form
  obtain ⟨a1, c1, rfl⟩ := h1.form
  by_cases hl : a.length = b.length
  · have hcell : ∀ k x y, a[k]? = some x → b[k]? = some y → ∃ ad0 ad1, a0 = some ad0 ∧ a1 = some ad1 ∧ w.cell? (ad0.add k) = some (.int .i64 x) ∧ w.cell? (ad1.add k) = some (.int .i64 y) := fun k x y hx hy => by
      obtain ⟨hk, rfl⟩ := List.getElem?_eq_some_iff.1 hx
      obtain ⟨hk', rfl⟩ := List.getElem?_eq_some_iff.1 hy
      obtain ⟨ad0, e0, l0, _, q0⟩ := Src.at h0 (j := k) (by simp; omega)
      obtain ⟨ad1, e1, l1, _, q1⟩ := Src.at h1 (j := k) (by simp; omega)
      exact ⟨ad0, ad1, e0, e1, by simpa [ints] using q0, by simpa [ints] using q1⟩
    clear h0 h1
    rw [← hl]
    have HL := Lib.hid hl
    clear hl
    go_enter Tryz.func34, Tryz.ntmps34
    go_wp2_with fail
    go_loopw [5] (fun i wz => ∃ k : Nat, k ≤ a.length ∧ i = .int .i64 k ∧ a.take k = b.take k ∧ Tch [] w wz) (fun i _ => a.length - (intOf i).toNat)
    case atStart => exact ⟨0, by omega, rfl, by simp, Tch.refl _ _⟩
    case round =>
      obtain ⟨k, hk1, rfl, htk, ht⟩ := hrel
      have hl := HL.out
      by_cases hk : k < a.length
      · have hk' : k < b.length := by omega
        obtain ⟨x, hx⟩ : ∃ x, x = a[k] := ⟨_, rfl⟩
        obtain ⟨y, hy⟩ : ∃ y, y = b[k] := ⟨_, rfl⟩
        have hak : a.take (k + 1) = a.take k ++ [x] := hx ▸ (List.take_append_getElem hk).symm
        have hbk : b.take (k + 1) = b.take k ++ [y] := hy ▸ (List.take_append_getElem hk').symm
        have hne : x ≠ y → a ≠ b := fun h e => h (by rw [hx, hy]; simp [e])
        obtain ⟨ad0, ad1, rfl, rfl, q0, q1⟩ := hcell k x y (by rw [hx]; simp [hk]) (by rw [hy]; simp [hk'])
        have q0r : wr.drew.cell? (ad0.add k) = some (.int .i64 x) := (ht.cell (cell_lt q0) (by simp)).trans q0
        have q1r : wr.drew.cell? (ad1.add k) = some (.int .i64 y) := (ht.cell (cell_lt q1) (by simp)).trans q1
        clear hcell q0 q1 hl hx hy hk'
        have HT := Lib.hid htk; clear htk
        by_cases hxy : x = y
        · subst hxy
          go_wp2_with fail
          go_region
          all_goals go_wp2
          all_goals go_roundw
          all_goals (first | (case rel => exact ⟨k + 1, by omega, by go_num, by rw [hak, hbk, HT.out], ht.drew⟩) | (case measure => simp [intOf]; omega))
        · have hd : decide (a = b) = false := decide_eq_false (hne hxy)
          have hb : (x == y) = false := beq_eq_false_iff_ne.2 hxy
          have hb2 : (x != y) = true := by simp [hxy]
          go_wp2_with fail
          go_region
          all_goals go_wp2
          all_goals (first | go_ret | go_ret2 | go_end0)
          all_goals exact ⟨by rw [hd]; rfl, ht.drew⟩
      · have he : a = b := by
          have e1 : a.take k = a := List.take_of_length_le (by omega)
          have e2 : b.take k = b := List.take_of_length_le (by omega)
          rw [← e1, htk, e2]
        have HE := Lib.hid he; clear he
        clear hcell htk hl
        go_wp2_with fail
        (first | go_ret | go_ret2 | go_end0)
        exact ⟨by rw [decide_eq_true HE.out]; rfl, ht⟩
  · have hd : decide (a = b) = false := decide_eq_false (fun e => hl (by rw [e]))
    rw [hd]
    have hb : (((a.length : Int)) != ((b.length : Int))) = true := by simp; omega
    go_enter Tryz.func34, Tryz.ntmps34
    go_wp2_with fail
    (first | go_ret | go_ret2 | go_end0)
    exact ⟨rfl, Tch.refl _ _⟩

set_option maxRecDepth 100000 in
set_option maxHeartbeats 16000000 in
theorem rf_Same (w : World) (X Y : Img) (fx ix mx ex fy iy my ey : Value) (hfx : RInts w [] fx X.fields) (hix : RImps w [] ix X.imports) (hmx : RMths w [] mx X.methods) (hex : RInts w [] ex X.exports) (hfy : RInts w [] fy Y.fields) (hiy : RImps w [] iy Y.imports) (hmy : RMths w [] my Y.methods) (hey : RInts w [] ey Y.exports) (zx : ImgZ X) (zy : ImgZ Y) :
    Calls Tryz.prog 14 #[.agg #[.string ⟨X.name.toArray⟩, fx, ix, mx, ex], .agg #[.string ⟨Y.name.toArray⟩, fy, iy, my, ey]] w fun e w' => e = .returned (.bool (decide (X = Y))) ∧ Tch [] w w' := by
  have hdec := decG X Y
  obtain ⟨z1, z2, z3, z4, z5, z6⟩ := zx
  obtain ⟨y1, y2, y3, y4, y5, y6⟩ := zy
  obtain ⟨afx, cfx, rfl⟩ := Src.form hfx
  obtain ⟨afy, cfy, rfl⟩ := Src.form hfy
  obtain ⟨aex, cex, rfl⟩ := Src.form hex
  obtain ⟨aey, cey, rfl⟩ := Src.form hey
  obtain ⟨aix, cix, rfl⟩ := RImps.form hix
  obtain ⟨aiy, ciy, rfl⟩ := RImps.form hiy
  obtain ⟨amx, cmx, rfl⟩ := RMths.form hmx
  obtain ⟨amy, cmy, rfl⟩ := RMths.form hmy
  obtain ⟨V, hVd⟩ : ∃ V, V = (w.alloc (.cells #[.string ⟨X.name.toArray⟩, .slice afx X.fields.length cfx, .slice aix X.imports.length cix, .slice amx X.methods.length cmx, .slice aex X.exports.length cex] 30)).alloc (.cells #[.string ⟨Y.name.toArray⟩, .slice afy Y.fields.length cfy, .slice aiy Y.imports.length ciy, .slice amy Y.methods.length cmy, .slice aey Y.exports.length cey] 30) := ⟨_, rfl⟩
  have tV : Tch [] w V := by rw [hVd]; exact ((Tch.refl [] w).alloc _).alloc _
  have hB1 : ∀ W, Tch [] V W → B5 W w.heap.size (.string ⟨X.name.toArray⟩) (.slice afx X.fields.length cfx) (.slice aix X.imports.length cix) (.slice amx X.methods.length cmx) (.slice aex X.exports.length cex) := fun W t => by
    refine B5.tch ?_ t
    rw [hVd]; exact (B5.new w _ _ _ _ _ _).tch ((Tch.refl [] _).alloc _)
  have hB2 : ∀ W, Tch [] V W → B5 W (w.heap.size + 1) (.string ⟨Y.name.toArray⟩) (.slice afy Y.fields.length cfy) (.slice aiy Y.imports.length ciy) (.slice amy Y.methods.length cmy) (.slice aey Y.exports.length cey) := fun W t => by
    refine B5.tch ?_ t
    rw [hVd]
    have := B5.new (w.alloc (.cells #[.string ⟨X.name.toArray⟩, .slice afx X.fields.length cfx, .slice aix X.imports.length cix, .slice amx X.methods.length cmx, .slice aex X.exports.length cex] 30)) (.string ⟨Y.name.toArray⟩) (.slice afy Y.fields.length cfy) (.slice aiy Y.imports.length ciy) (.slice amy Y.methods.length cmy) (.slice aey Y.exports.length cey) 30
    simpa using this
  have hE1 := fun W (t : Tch [] V W) => rf_same4 W _ _ X.fields Y.fields (hfx.tch (tV.then t) (by simp)) (hfy.tch (tV.then t) (by simp)) z1 y1
  have hE4 := fun W (t : Tch [] V W) => rf_same4 W _ _ X.exports Y.exports (hex.tch (tV.then t) (by simp)) (hey.tch (tV.then t) (by simp)) z6 y6
  have hIx := fun (W : World) (t : Tch [] V W) k (hk : k < X.imports.length) => RImps.at (hix.tch (tV.then t) (by simp)) hk
  have hIy := fun (W : World) (t : Tch [] V W) k (hk : k < Y.imports.length) => RImps.at (hiy.tch (tV.then t) (by simp)) hk
  have hMx := fun (W : World) (t : Tch [] V W) k (hk : k < X.methods.length) => RMths.at (hmx.tch (tV.then t) (by simp)) hk
  have hMy := fun (W : World) (t : Tch [] V W) k (hk : k < Y.methods.length) => RMths.at (hmy.tch (tV.then t) (by simp)) hk
  clear hfx hix hmx hex hfy hiy hmy hey
  go_enter Tryz.func14, Tryz.ntmps14
  go_upto_region 1 with fail
  rw [← hVd]
  clear hVd
  have HD := Lib.hid hdec; clear hdec
  obtain ⟨b0, b1, b2, b3, b4⟩ := hB1 V (Tch.refl _ _)
  obtain ⟨d0, d1, d2, d3, d4⟩ := hB2 V (Tch.refl _ _)
  by_cases h1 : X.name = Y.name
  · have e1 : (X.name == Y.name) = true := by simp [h1]
    have e1n : (X.name != Y.name) = false := by simp [h1]
    have k1 := Lib.hid (decide_eq_true h1)
    clear h1
    go_wp2_with fail
    refine (hE1 V (Tch.refl _ _)).mono ?_
    rintro e w1 ⟨rfl, t1⟩
    clear b0 b1 b2 b3 b4 d0 d1 d2 d3 d4
    obtain ⟨b0, b1, b2, b3, b4⟩ := hB1 w1 t1
    obtain ⟨d0, d1, d2, d3, d4⟩ := hB2 w1 t1
    cases k2 : decide (X.fields = Y.fields)
    · go_wp2_with fail
      go_ret
      exact ⟨by rw [HD.out, k1.out, k2]; rfl, tV.then t1⟩
    go_wp2_with fail
    refine (hE4 w1 t1).mono ?_
    rintro e w2 ⟨rfl, t2⟩
    have t12 := t1.then t2
    clear b0 b1 b2 b3 b4 d0 d1 d2 d3 d4 t2
    obtain ⟨b0, b1, b2, b3, b4⟩ := hB1 w2 t12
    obtain ⟨d0, d1, d2, d3, d4⟩ := hB2 w2 t12
    cases k5 : decide (X.exports = Y.exports)
    · go_wp2_with fail
      go_ret
      exact ⟨by rw [HD.out, k5]; simp, tV.then t12⟩
    by_cases li : X.imports.length = Y.imports.length
    · by_cases lm : X.methods.length = Y.methods.length
      · skip
        have c3 : (((X.imports.length : Int)) != ((Y.imports.length : Int))) = false := by simp; omega
        have c4 : (((X.methods.length : Int)) != ((Y.methods.length : Int))) = false := by simp; omega
        have LI := Lib.hid li
        have LM := Lib.hid lm
        have K2 := Lib.hid k2
        have K5 := Lib.hid k5
        clear li lm k2 k5
        go_wp2_with fail
        clear c3 c4 b0 b1 b2 b3 b4 d0 d1 d2 d3 d4 hE1 hE4 e1 e1n
        go_loopw [5] (fun iv wz => ∃ k : Nat, k ≤ X.imports.length ∧ iv = .int .i64 k ∧ X.imports.take k = Y.imports.take k ∧ Tch [] V wz) (fun iv _ => X.imports.length - (intOf iv).toNat)
        case atStart => exact ⟨0, by omega, rfl, by simp, t12⟩
        case round =>
          obtain ⟨k, hk1, rfl, htk, ht⟩ := hrel
          clear t1 t12
          obtain ⟨b0, b1, b2, b3, b4⟩ := hB1 wr ht
          obtain ⟨d0, d1, d2, d3, d4⟩ := hB2 wr ht
          by_cases hk : k < X.imports.length
          · have hk' : k < Y.imports.length := by have := LI.out; omega
            obtain ⟨ad, vx, hax, hadl, hix, hcx⟩ := hIx wr ht k hk
            obtain ⟨bd, vy, hay, hbdl, hiy, hcy⟩ := hIy wr ht k hk'
            subst hax hay
            have hxk : X.imports.take (k + 1) = X.imports.take k ++ [X.imports[k]] := (List.take_append_getElem hk).symm
            have hyk : Y.imports.take (k + 1) = Y.imports.take k ++ [Y.imports[k]] := (List.take_append_getElem hk').symm
            have hne : X.imports[k] ≠ Y.imports[k] → X.imports ≠ Y.imports := fun h e => h (by simp [e])
            have zx := z3 _ (List.getElem_mem hk)
            have zy := y3 _ (List.getElem_mem hk')
            clear hIx hIy hMx hMy
            generalize X.imports[k] = x at *
            generalize Y.imports[k] = y at *
            have hdi := decI x y
            obtain ⟨apx, cpx, rfl⟩ := Src.form hix
            obtain ⟨apy, cpy, rfl⟩ := Src.form hiy
            have hcx1 : ∀ (j : Nat) u, (#[.string ⟨x.name.toArray⟩, .int .i64 x.exp, .slice apx x.params.length cpx, .int .i64 x.result] : Array Value).toList[j]? = some u → wr.cell? ((ad.add (k * 4)).add j) = some u := hcx
            have hcy1 : ∀ (W : World), Tch [] wr W → ∀ (j : Nat) u, (#[.string ⟨y.name.toArray⟩, .int .i64 y.exp, .slice apy y.params.length cpy, .int .i64 y.result] : Array Value).toList[j]? = some u → W.cell? ((bd.add (k * 4)).add j) = some u := fun W t j u hu => by
              have h := hcy j u hu
              rw [t.cell (cell_lt h) (by simp)]; exact h
            clear hcx hcy
            have HT := Lib.hid htk; clear htk
            go_upto_region 7 with (first | (refine wpList_load_agg rfl 51 (.tmp 61) rfl (ad.add (k * 4)) rfl #[.string ⟨x.name.toArray⟩, .int .i64 x.exp, .slice apx x.params.length cpx, .int .i64 x.result] _ hcx1 Tryz.underlying51 rfl (by kernel_rfl) ?_) | fail)
            obtain ⟨V1, hV1⟩ : ∃ W, W = wr.alloc (.cells #[.string ⟨x.name.toArray⟩, .int .i64 x.exp, .slice apx x.params.length cpx, .int .i64 x.result] 51) := ⟨_, rfl⟩
            have q1 : Tch [] wr V1 := by rw [hV1]; exact (Tch.refl [] wr).alloc _
            have hA1 : Bq V1 wr.heap.size (.string ⟨x.name.toArray⟩) (.int .i64 x.exp) (.slice apx x.params.length cpx) (.int .i64 x.result) := by rw [hV1]; exact Bq.new wr _ _ _ _ _
            rw [← hV1]
            clear hV1
            have T1 := ht.then q1
            clear b0 b1 b2 b3 b4 d0 d1 d2 d3 d4
            obtain ⟨b0, b1, b2, b3, b4⟩ := hB1 V1 T1
            obtain ⟨d0, d1, d2, d3, d4⟩ := hB2 V1 T1
            go_upto_region 8 with (first | (refine wpList_load_agg rfl 51 (.tmp 66) rfl (bd.add (k * 4)) rfl #[.string ⟨y.name.toArray⟩, .int .i64 y.exp, .slice apy y.params.length cpy, .int .i64 y.result] _ (hcy1 V1 q1) Tryz.underlying51 rfl (by kernel_rfl) ?_) | fail)
            obtain ⟨V2, hV2⟩ : ∃ W, W = V1.alloc (.cells #[.string ⟨y.name.toArray⟩, .int .i64 y.exp, .slice apy y.params.length cpy, .int .i64 y.result] 51) := ⟨_, rfl⟩
            have q2 : Tch [] V1 V2 := by rw [hV2]; exact (Tch.refl [] V1).alloc _
            have hA2 : Bq V2 V1.heap.size (.string ⟨y.name.toArray⟩) (.int .i64 y.exp) (.slice apy y.params.length cpy) (.int .i64 y.result) := by rw [hV2]; exact Bq.new V1 _ _ _ _ _
            rw [← hV2]
            clear hV2
            have T2 := T1.then q2
            have hA1' := hA1.tch q2 (by simp)
            obtain ⟨x0, x1, x2, x3⟩ := hA1'
            obtain ⟨y0, y1', y2', y3'⟩ := hA2
            have hE := rf_same4 V2 _ _ x.params y.params (hix.tch (q1.then q2) (by simp)) (hiy.tch (q1.then q2) (by simp)) zx zy
            clear b0 b1 b2 b3 b4 d0 d1 d2 d3 d4 hix hiy hcx1 hcy1 hA1
            have HXK := Lib.hid hxk
            have HYK := Lib.hid hyk
            have HDI := Lib.hid hdi
            have HNE := Lib.hid (fun h : x ≠ y => decide_eq_false (hne h))
            clear hxk hyk hdi hne
            obtain ⟨dd, hdd⟩ : ∃ d : Bool, d = decide (x.params = y.params) := ⟨_, rfl⟩
            rw [← hdd] at hE
            obtain ⟨nb, hnb⟩ : ∃ d : Bool, d = !decide (x = y) := ⟨_, rfl⟩
            have HNB := Lib.hid (show nb = !(decide (x.name = y.name) && decide (x.exp = y.exp) && dd && decide (x.result = y.result)) by rw [hnb, HDI.out, hdd])
            have HN1 := Lib.hid (show nb = false → x = y by intro h; rw [hnb] at h; simpa using h)
            have HN2 := Lib.hid (show nb = true → x ≠ y by intro h; rw [hnb] at h; simpa using h)
            clear hnb
            go_cut [94] (fun v wz => v = .bool nb ∧ Tch [] V2 wz)
            case first =>
              by_cases g1 : x.name = y.name
              · by_cases g2 : x.exp = y.exp
                · by_cases g3 : x.result = y.result
                  · have e1 : (x.name != y.name) = false := by simp [g1]
                    have e1n : (x.name == y.name) = true := by simp [g1]
                    have e2 : (x.exp != y.exp) = false := by simp [g2]
                    have e3 : (x.result != y.result) = false := by simp [g3]
                    have f1 := Lib.hid (decide_eq_true g1)
                    have f2 := Lib.hid (decide_eq_true g2)
                    have f3 := Lib.hid (decide_eq_true g3)
                    clear g1 g2 g3 hdd
                    go_wp2_with fail
                    refine hE.mono ?_
                    rintro e w3 ⟨rfl, t3⟩
                    go_wp2_with fail
                    go_meet
                    exact ⟨by rw [HNB.out]; rw [f1.out, f2.out, f3.out]; cases dd <;> rfl, t3⟩
                  · have e1 : (x.name != y.name) = false := by simp [g1]
                    have e1n : (x.name == y.name) = true := by simp [g1]
                    have e2 : (x.exp != y.exp) = false := by simp [g2]
                    have e3 : (x.result != y.result) = true := by simp [g3]
                    have f3 := Lib.hid (decide_eq_false g3)
                    clear g1 g2 g3 hdd
                    go_wp2_with fail
                    go_meet
                    exact ⟨by rw [HNB.out]; rw [f3.out]; simp, Tch.refl _ _⟩
                · have e1 : (x.name != y.name) = false := by simp [g1]
                  have e1n : (x.name == y.name) = true := by simp [g1]
                  have e2 : (x.exp != y.exp) = true := by simp [g2]
                  have f2 := Lib.hid (decide_eq_false g2)
                  clear g1 g2 hdd
                  go_wp2_with fail
                  go_meet
                  exact ⟨by rw [HNB.out]; rw [f2.out]; simp, Tch.refl _ _⟩
              · have e1 : (x.name != y.name) = true := by simp [g1]
                have e1n : (x.name == y.name) = false := by simp [g1]
                have f1 := Lib.hid (decide_eq_false g1)
                clear g1 hdd
                go_wp2_with fail
                go_meet
                exact ⟨by rw [HNB.out]; rw [f1.out]; simp, Tch.refl _ _⟩
            case rest =>
              obtain ⟨rfl, t3⟩ := hcut
              cases nb
              · have HE := Lib.hid (HN1.out rfl)
                go_wp2_with fail
                go_roundw
                case rel => exact ⟨k + 1, by omega, by go_num, by rw [HXK.out, HYK.out, HT.out, HE.out], T2.then t3⟩
                case measure => simp [intOf]; omega
              · have HF := Lib.hid (HNE.out (HN2.out rfl))
                go_wp2_with fail
                go_ret
                exact ⟨by rw [HD.out, HF.out]; simp, tV.then (T2.then t3)⟩
          · have he : X.imports = Y.imports := by
              have e1 : X.imports.take k = X.imports := List.take_of_length_le (by omega)
              have e2 : Y.imports.take k = Y.imports := List.take_of_length_le (by have := LI.out; omega)
              rw [← e1, htk, e2]
            have K3 := Lib.hid (decide_eq_true he)
            clear he htk hIx hIy
            go_wp2_with fail
            clear b0 b1 b2 b3 b4 d0 d1 d2 d3 d4
            go_loopw [8] (fun iv wz => ∃ k : Nat, k ≤ X.methods.length ∧ iv = .int .i64 k ∧ X.methods.take k = Y.methods.take k ∧ Tch [] V wz) (fun iv _ => X.methods.length - (intOf iv).toNat)
            case atStart => exact ⟨0, by omega, rfl, by simp, ht⟩
            case round =>
              clear ht hk1 hk
              obtain ⟨k, hk1, rfl, htk, ht⟩ := hrel
              obtain ⟨b0, b1, b2, b3, b4⟩ := hB1 wr ht
              obtain ⟨d0, d1, d2, d3, d4⟩ := hB2 wr ht
              by_cases hk : k < X.methods.length
              · have hk' : k < Y.methods.length := by have := LM.out; omega
                obtain ⟨ad, px, lx, cx, hax, hadl, hpx, hlx, hkx, hcx⟩ := hMx wr ht k hk
                obtain ⟨bd, py, ly, cy, hay, hbdl, hpy, hly, hky, hcy⟩ := hMy wr ht k hk'
                subst hax hay
                have hxk : X.methods.take (k + 1) = X.methods.take k ++ [X.methods[k]] := (List.take_append_getElem hk).symm
                have hyk : Y.methods.take (k + 1) = Y.methods.take k ++ [Y.methods[k]] := (List.take_append_getElem hk').symm
                have hne : X.methods[k] ≠ Y.methods[k] → X.methods ≠ Y.methods := fun h e => h (by simp [e])
                have zx := z5 _ (List.getElem_mem hk)
                have zy := y5 _ (List.getElem_mem hk')
                clear hMx hMy
                generalize X.methods[k] = x at *
                generalize Y.methods[k] = y at *
                have hdi := decM x y
                obtain ⟨apx, cpx, rfl⟩ := Src.form hpx
                obtain ⟨apy, cpy, rfl⟩ := Src.form hpy
                obtain ⟨alx, clx, rfl⟩ := Src.form hlx
                obtain ⟨aly, cly, rfl⟩ := Src.form hly
                obtain ⟨akx, ckx, rfl⟩ := RCode.form hkx
                obtain ⟨aky, cky, rfl⟩ := RCode.form hky
                have hcx1 : ∀ (j : Nat) u, (#[.slice apx x.params.length cpx, .int .i64 x.result, .slice alx x.locals.length clx, .slice akx x.code.length ckx] : Array Value).toList[j]? = some u → wr.cell? ((ad.add (k * 4)).add j) = some u := hcx
                have hcy1 : ∀ (W : World), Tch [] wr W → ∀ (j : Nat) u, (#[.slice apy y.params.length cpy, .int .i64 y.result, .slice aly y.locals.length cly, .slice aky y.code.length cky] : Array Value).toList[j]? = some u → W.cell? ((bd.add (k * 4)).add j) = some u := fun W t j u hu => by
                  have h := hcy j u hu
                  rw [t.cell (cell_lt h) (by simp)]; exact h
                clear hcx hcy
                have HT := Lib.hid htk; clear htk
                go_upto_region 14 with (first | (refine wpList_load_agg rfl 55 (.tmp 105) rfl (ad.add (k * 4)) rfl #[.slice apx x.params.length cpx, .int .i64 x.result, .slice alx x.locals.length clx, .slice akx x.code.length ckx] _ hcx1 Tryz.underlying55 rfl (by kernel_rfl) ?_) | fail)
                obtain ⟨V1, hV1⟩ : ∃ W, W = wr.alloc (.cells #[.slice apx x.params.length cpx, .int .i64 x.result, .slice alx x.locals.length clx, .slice akx x.code.length ckx] 55) := ⟨_, rfl⟩
                have q1 : Tch [] wr V1 := by rw [hV1]; exact (Tch.refl [] wr).alloc _
                have hA1 : Bq V1 wr.heap.size (.slice apx x.params.length cpx) (.int .i64 x.result) (.slice alx x.locals.length clx) (.slice akx x.code.length ckx) := by rw [hV1]; exact Bq.new wr _ _ _ _ _
                rw [← hV1]
                clear hV1
                have T1 := ht.then q1
                clear b0 b1 b2 b3 b4 d0 d1 d2 d3 d4
                obtain ⟨b0, b1, b2, b3, b4⟩ := hB1 V1 T1
                obtain ⟨d0, d1, d2, d3, d4⟩ := hB2 V1 T1
                go_upto_region 15 with (first | (refine wpList_load_agg rfl 55 (.tmp 110) rfl (bd.add (k * 4)) rfl #[.slice apy y.params.length cpy, .int .i64 y.result, .slice aly y.locals.length cly, .slice aky y.code.length cky] _ (hcy1 V1 q1) Tryz.underlying55 rfl (by kernel_rfl) ?_) | fail)
                obtain ⟨V2, hV2⟩ : ∃ W, W = V1.alloc (.cells #[.slice apy y.params.length cpy, .int .i64 y.result, .slice aly y.locals.length cly, .slice aky y.code.length cky] 55) := ⟨_, rfl⟩
                have q2 : Tch [] V1 V2 := by rw [hV2]; exact (Tch.refl [] V1).alloc _
                have hA2 : Bq V2 V1.heap.size (.slice apy y.params.length cpy) (.int .i64 y.result) (.slice aly y.locals.length cly) (.slice aky y.code.length cky) := by rw [hV2]; exact Bq.new V1 _ _ _ _ _
                rw [← hV2]
                clear hV2
                have T2 := T1.then q2
                have hAx := fun W (t : Tch [] V2 W) => (hA1.tch q2 (by simp)).tch t (by simp)
                have hAy := fun W (t : Tch [] V2 W) => hA2.tch t (by simp)
                obtain ⟨x0, x1, x2, x3⟩ := hAx V2 (Tch.refl _ _)
                obtain ⟨y0, y1', y2', y3'⟩ := hAy V2 (Tch.refl _ _)
                have q12 := q1.then q2
                have hE1 := rf_same4 V2 _ _ x.params y.params (hpx.tch q12 (by simp)) (hpy.tch q12 (by simp)) zx.1 zy.1
                have hE2 := fun W (t : Tch [] V2 W) => rf_same4 W _ _ x.locals y.locals (hlx.tch (q12.then t) (by simp)) (hly.tch (q12.then t) (by simp)) zx.2.1 zy.2.1
                have hKx := fun (W : World) (t : Tch [] V2 W) j (hj : j < x.code.length) => RCode.at3 (hkx.tch (q12.then t) (by simp)) hj
                have hKy := fun (W : World) (t : Tch [] V2 W) j (hj : j < y.code.length) => RCode.at3 (hky.tch (q12.then t) (by simp)) hj
                clear b0 b1 b2 b3 b4 d0 d1 d2 d3 d4 hpx hpy hlx hly hkx hky hcx1 hcy1 hA1 hA2
                have HXK := Lib.hid hxk
                have HYK := Lib.hid hyk
                have HDI := Lib.hid hdi
                have HNE := Lib.hid (fun h : x ≠ y => decide_eq_false (hne h))
                clear hxk hyk hdi hne
                obtain ⟨d1, hd1⟩ : ∃ d : Bool, d = decide (x.params = y.params) := ⟨_, rfl⟩
                obtain ⟨d2, hd2⟩ : ∃ d : Bool, d = decide (x.locals = y.locals) := ⟨_, rfl⟩
                rw [← hd1] at hE1
                have hE2' : ∀ W, Tch [] V2 W → Calls Tryz.prog 34 #[.slice alx x.locals.length clx, .slice aly y.locals.length cly] W fun e w' => e = .returned (.bool d2) ∧ Tch [] W w' := fun W t => by rw [hd2]; exact hE2 W t
                clear hE2
                obtain ⟨nb, hnb⟩ : ∃ d : Bool, d = !(decide (x.result = y.result) && d1 && d2 && decide (x.code.length = y.code.length)) := ⟨_, rfl⟩
                have HNB := Lib.hid hnb
                have HN1 := Lib.hid (show nb = false → x.result = y.result ∧ x.params = y.params ∧ x.locals = y.locals ∧ x.code.length = y.code.length by
                  intro h; rw [hnb, hd1, hd2] at h; simpa [and_assoc] using h)
                have HN2 := Lib.hid (show nb = true → x ≠ y by
                  intro h e; rw [hnb, hd1, hd2, e] at h; simp at h)
                clear hnb hd1 hd2
                go_cut [141] (fun v wz => v = .bool nb ∧ Tch [] V2 wz)
                case first =>
                  by_cases g1 : x.result = y.result
                  · have e1 : (x.result != y.result) = false := by simp [g1]
                    have f1 := Lib.hid (decide_eq_true g1)
                    clear g1
                    go_wp2_with fail
                    refine hE1.mono ?_
                    rintro e w3 ⟨rfl, t3⟩
                    obtain ⟨x0, x1, x2, x3⟩ := hAx w3 t3
                    obtain ⟨y0, y1', y2', y3'⟩ := hAy w3 t3
                    cases d1
                    · go_wp2_with fail
                      go_meet
                      exact ⟨by rw [HNB.out]; simp, t3⟩
                    go_wp2_with fail
                    refine (hE2' w3 t3).mono ?_
                    rintro e w4 ⟨rfl, t4⟩
                    have t34 := t3.then t4
                    obtain ⟨x0, x1, x2, x3⟩ := hAx w4 t34
                    obtain ⟨y0, y1', y2', y3'⟩ := hAy w4 t34
                    cases d2
                    · go_wp2_with fail
                      go_meet
                      exact ⟨by rw [HNB.out]; simp, t34⟩
                    by_cases g4 : x.code.length = y.code.length
                    · have e4 : (((x.code.length : Int)) != ((y.code.length : Int))) = false := by simp; omega
                      have f4 := Lib.hid (decide_eq_true g4)
                      clear g4
                      go_wp2_with fail
                      go_meet
                      exact ⟨by rw [HNB.out, f1.out, f4.out]; rfl, t34⟩
                    · have e4 : (((x.code.length : Int)) != ((y.code.length : Int))) = true := by simp; omega
                      have f4 := Lib.hid (decide_eq_false g4)
                      clear g4
                      go_wp2_with fail
                      go_meet
                      exact ⟨by rw [HNB.out, f4.out]; simp, t34⟩
                  · have e1 : (x.result != y.result) = true := by simp [g1]
                    have f1 := Lib.hid (decide_eq_false g1)
                    clear g1
                    go_wp2_with fail
                    go_meet
                    exact ⟨by rw [HNB.out, f1.out]; simp, Tch.refl _ _⟩
                case rest =>
                  obtain ⟨rfl, t3⟩ := hcut
                  clear hE1 hE2' x0 x1 x2 x3 y0 y1' y2' y3'
                  cases nb
                  · have HE := Lib.hid (HN1.out rfl)
                    go_wp2_with fail
                    clear HN1 HN2 HNB
                    go_loopw [11] (fun iv wz => ∃ j : Nat, j ≤ x.code.length ∧ iv = .int .i64 j ∧ x.code.take j = y.code.take j ∧ Tch [] V2 wz) (fun iv _ => x.code.length - (intOf iv).toNat)
                    case atStart => exact ⟨0, by omega, rfl, by simp, t3⟩
                    case round =>
                      clear t3
                      obtain ⟨j, hj1, rfl, htj, t3⟩ := hrel
                      obtain ⟨x0, x1, x2, x3⟩ := hAx wr t3
                      obtain ⟨y0, y1', y2', y3'⟩ := hAy wr t3
                      have zcx := zx.2.2.1
                      have zcy := zy.2.2.1
                      clear zx zy
                      by_cases hj : j < x.code.length
                      · have hj' : j < y.code.length := by have := HE.out.2.2.2; omega
                        obtain ⟨ed, hex, _, q0, q1, q2⟩ := hKx wr.drew t3.drew j hj
                        obtain ⟨fd, hey, _, q3, q4, q5⟩ := hKy wr.drew t3.drew j hj'
                        subst hex hey
                        obtain ⟨_, _, _, x3d⟩ := hAx wr.drew t3.drew
                        obtain ⟨_, _, _, y3d⟩ := hAy wr.drew t3.drew
                        have hak : x.code.take (j + 1) = x.code.take j ++ [x.code[j]] := (List.take_append_getElem hj).symm
                        have hbk : y.code.take (j + 1) = y.code.take j ++ [y.code[j]] := (List.take_append_getElem hj').symm
                        have hnk : x.code[j] ≠ y.code[j] → x ≠ y := fun h e => h (by simp [e])
                        have HJL := Lib.hid HE.out.2.2.2
                        generalize x.code[j] = p at *
                        generalize y.code[j] = q at *
                        have HTJ := Lib.hid htj; clear htj hKx hKy
                        have HAK := Lib.hid hak
                        have HBK := Lib.hid hbk
                        clear hak hbk
                        obtain ⟨xo, xa, xb⟩ := p
                        obtain ⟨yo, ya, yb⟩ := q
                        simp only at q0 q1 q2 q3 q4 q5
                        by_cases hxy : xo = yo ∧ xa = ya ∧ xb = yb
                        · obtain ⟨rfl, rfl, rfl⟩ := hxy
                          clear hnk
                          go_wp2_with fail
                          go_region
                          all_goals go_wp2
                          all_goals go_roundw
                          all_goals (first | (case rel => exact ⟨j + 1, by omega, by go_num, by rw [HAK.out, HBK.out, HTJ.out], t3.drew⟩) | (case measure => simp [intOf]; omega))
                        · have hd : decide (X.methods = Y.methods) = false := HNE.out (hnk (fun e => hxy (by simpa using e)))
                          have HF := Lib.hid hd; clear hd hnk
                          by_cases h1 : xo = yo
                          · subst h1
                            by_cases h2 : xa = ya
                            · subst h2
                              have h3 : ¬ xb = yb := fun e => hxy ⟨rfl, rfl, e⟩
                              clear hxy
                              go_wp2_with fail
                              go_region
                              all_goals go_wp2
                              all_goals (first | go_ret | go_ret2 | go_end0)
                              all_goals exact ⟨by rw [HD.out, HF.out]; simp, tV.then (T2.then t3.drew)⟩
                            · clear hxy
                              go_wp2_with fail
                              go_region
                              all_goals go_wp2
                              all_goals (first | go_ret | go_ret2 | go_end0)
                              all_goals exact ⟨by rw [HD.out, HF.out]; simp, tV.then (T2.then t3.drew)⟩
                          · clear hxy
                            go_wp2_with fail
                            go_region
                            all_goals go_wp2
                            all_goals (first | go_ret | go_ret2 | go_end0)
                            all_goals exact ⟨by rw [HD.out, HF.out]; simp, tV.then (T2.then t3.drew)⟩
                      · have he : x = y := by
                          obtain ⟨a1, a2, a3, a4⟩ := HE.out
                          have e1 : x.code.take j = x.code := List.take_of_length_le (by omega)
                          have e2 : y.code.take j = y.code := List.take_of_length_le (by omega)
                          have e3 : x.code = y.code := by rw [← e1, htj, e2]
                          exact mth_eq4 a2 a1 a3 e3
                        have HE2 := Lib.hid he
                        clear he htj hKx hKy
                        go_wp2_with fail
                        go_roundw
                        case rel => exact ⟨k + 1, by omega, by go_num, by rw [HXK.out, HYK.out, HT.out, HE2.out], T2.then t3⟩
                        case measure => simp [intOf]; omega
                  · have HF := Lib.hid (HNE.out (HN2.out rfl))
                    go_wp2_with fail
                    go_ret
                    exact ⟨by rw [HD.out, HF.out]; simp, tV.then (T2.then t3)⟩
              · have he : X.methods = Y.methods := by
                  have e1 : X.methods.take k = X.methods := List.take_of_length_le (by omega)
                  have e2 : Y.methods.take k = Y.methods := List.take_of_length_le (by have := LM.out; omega)
                  rw [← e1, htk, e2]
                have K4 := Lib.hid (decide_eq_true he)
                clear he htk hMx hMy
                go_wp2_with fail
                go_ret
                exact ⟨by rw [HD.out, k1.out, K2.out, K3.out, K4.out, K5.out]; rfl, tV.then ht⟩
      · have k4 : decide (X.methods = Y.methods) = false := decide_eq_false (fun e => lm (by rw [e]))
        have c3 : (((X.imports.length : Int)) != ((Y.imports.length : Int))) = false := by simp; omega
        have c4 : (((X.methods.length : Int)) != ((Y.methods.length : Int))) = true := by simp; omega
        have K4 := Lib.hid k4
        clear k4 li lm
        go_wp2_with fail
        go_ret
        exact ⟨by rw [HD.out, K4.out]; simp, tV.then t12⟩
    · have k3 : decide (X.imports = Y.imports) = false := decide_eq_false (fun e => li (by rw [e]))
      have c3 : (((X.imports.length : Int)) != ((Y.imports.length : Int))) = true := by simp; omega
      have K3 := Lib.hid k3
      clear k3 li
      go_wp2_with fail
      go_ret
      exact ⟨by rw [HD.out, K3.out]; simp, tV.then t12⟩
  · have e1 : (X.name == Y.name) = false := by simp [h1]
    have e1n : (X.name != Y.name) = true := by simp [h1]
    have k1 := Lib.hid (decide_eq_false h1)
    clear h1
    go_wp2_with fail
    go_ret
    exact ⟨by rw [HD.out, k1.out]; rfl, tV⟩
end Go.Proofs.YteebapopeaafhaaGreatDoor
