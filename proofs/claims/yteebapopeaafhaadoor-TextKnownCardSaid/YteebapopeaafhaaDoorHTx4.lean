/-
  CONTRACTS: text's parser: export, method. Conditions: sizes.
  CONTRACTS: text's parser: last, locals. Conditions: sizes.
-/
import Derived.Test.YteebapopeaafhaaDoorHTx2
import Derived.Deep.QuietTactic
import Derived.BigQuiet
namespace Go.Proofs.YteebapopeaafhaaDoor
open Go.RowKit Go.Tcn
set_option linter.unusedVariables false
set_option linter.unusedSimpArgs false
theorem numTo_none {w : Wd} (h : numW w = none) : numTo w = .tuple #[.int .i64 0, .bool false] := by unfold numTo; rw [h]
theorem numTo_some {w : Wd} {n : Int} (h : numW w = some n) : numTo w = .tuple #[.int .i64 n, .bool true] := by unfold numTo; rw [h]
set_option maxRecDepth 100000 in
set_option maxHeartbeats 4000000 in
theorem tx_export (w : World) (b : Nat) (O : List Nat) (i : Img) (s : Nat) (f : Bool) (h : PTx w b O i s f) (hsz : i.exports.length ≤ 1099511627776) (a0 : Option Addr) (c0 : Nat) (ws : List Wd) (hw : Src w O (.slice a0 ws.length c0) ws.length (strs ws)) (hwl : ∀ wd ∈ ws, wd.length ≤ 1099511627776) :
    Calls Tryd.prog 36 #[.pointer (some ⟨b, 0, none⟩), .slice a0 ws.length c0] w fun e w' => STx w w' b O f (exportT UU i s ws) e := by
  obtain ⟨i0, hi, hz0, hz1, hz2⟩ := info_parts info_intT
  have hr := tx_reach w b O i s 4 f h
  have H := Lib.hid h
  have hbl := h.lt
  have hbO := h.b
  obtain ⟨vf0, vi0, vm0, ve0, p1, p2⟩ := h.cells
  obtain ⟨x0, x1, x2, x3, x4, x5, x6, xf⟩ := cells7 p1
  obtain ⟨mcs, om, _⟩ := p2.ownM
  obtain ⟨am, cm, rfl⟩ := ownsRow_form om
  clear p1 p2 om x0 x1 x2 x4 x5 x6 xf h
  by_cases hm0 : i.methods = []
  · have hq : exportT UU i s ws = none := by unfold exportT; rw [if_pos (.inl hm0)]
    have hml : ((i.methods.length : Int) == 0) = true := by simp [hm0]
    have hml2 : (i.methods.length == 0) = true := by simp [hm0]
    have HH := Lib.hid hq
    clear hq hr
    go_enter Tryd.func36, Tryd.ntmps36
    rw [hm0] at x3 hml hml2
    clear hm0
    go_wp2_with fail
    go_ret
    rw [HH.out]
    exact STx.no rfl H.out.sh (Tch.refl _ _)
  · have hml0 : 0 < i.methods.length := List.length_pos_iff.2 hm0
    have hml : ((i.methods.length : Int) == 0) = false := by simp; omega
    have hml2 : (i.methods.length == 0) = false := by simp [hm0]
    have hml3 : i.methods.isEmpty = false := by simp [hm0]
    have HM := Lib.hid hm0
    clear hm0
    go_enter Tryd.func36, Tryd.ntmps36
    go_wp2_with fail
    refine hr.mono ?_
    rintro e w2 ⟨rfl, t2, h2⟩
    have tt : Tch O w w2 := t2.mono (fun k _ hk => by simp at hk; subst hk; exact hbO)
    clear x3
    cases hrb : reachB i s 4
    · have hq : exportT UU i s ws = none := by unfold exportT; rw [if_pos (.inr (reach_no hrb))]
      have HH := Lib.hid (And.intro hq (And.intro tt h2.sh))
      clear hq tt h2 t2 hr
      go_wp2_with fail
      go_ret
      rw [HH.out.1]
      exact STx.no rfl HH.out.2.2 HH.out.2.1
    · rw [hrb, if_pos rfl] at h2
      by_cases hl1 : ws.length = 1
      · obtain ⟨wd, rfl⟩ : ∃ wd, ws = [wd] := by
          match ws, hl1 with
          | [k], _ => exact ⟨k, rfl⟩
        obtain ⟨ad, rfl, hadl, hadO, hq⟩ := Src.at (hw.tch t2 (fun k hk _ => by simp at hk; subst hk; exact hbO)) (j := 0) (by simp)
        rw [Addr_add_zero] at hq
        have hq0 : w2.cell? ad = some (.string ⟨wd.toArray⟩) := by simpa [strs] using hq
        have hlw : ([wd] : List Wd).length = 1 := rfl
        have hN := tx_number lib_Cut w2 wd (hwl wd (by simp))
        have HT := Lib.hid (And.intro tt h2)
        clear hq hl1 hr tt t2
        go_wp2_with fail
        refine hN.mono ?_
        rintro e w3 ⟨rfl, t3⟩
        have h3 := h2.tch0 t3
        obtain ⟨vf, vi, vm, ve, q1, q2⟩ := (show PTx w3 b O i 4 f from h3).cells
        obtain ⟨d0, d1, d2, d3, d4, d5, d6, hf⟩ := cells7 q1
        have hown := q2.ownE
        have hneb := q2.neE
        have hbnd : i.exports.length + 1 ≤ 9223372036854775807 ∧ (i.exports.length + 1) * 8 ≤ 140737488355328 := by omega
        have hb2 := heap_lt q1
        have hneb' : some b ≠ ve.ownBlock := fun h => hneb h.symm
        have HQ := Lib.hid (And.intro q1 q2)
        clear q1 q2 h3 h2 hN
        cases hnw : numW wd with
        | none =>
          rw [numTo_none hnw]
          have hq : exportT UU i s [wd] = none := by unfold exportT; rw [if_neg (fun h => h.elim HM.out (reach_yes hrb))]; show (numW wd).map _ = none; rw [hnw]; rfl
          have HX := Lib.hid hq
          clear hq hnw
          go_wp2_with (first | (at_builtin; refine wpList_append_any _ rfl (.tmp 36) (.tmp 38) 22 rfl 3 i0 (.int .i64 0) 1 8 Tryd.underlying22 hi hz0 hz1 hz2 rfl (by decide) ve i.exports.length (ints i.exports) rfl (hown.alloc _) [] _ 1 [.int .i64 0] rfl (src_new w3 _ [] #[.int .i64 0] _ 1 1 (Tch.refl [] _) (by simp)) rfl (by intro u hu; simp at hu; subst hu; rfl) hbnd ?_; intro ao cap w4 hown3 hgrow hat; have f1 := (hgrow.frozen_far ⟨b, 4, none⟩ (by simp; omega) hneb').trans ((World.frozen?_alloc_past _ _ _ hb2).trans (hf 4)); have e1 := (hgrow.cell_far ⟨b, 4, none⟩ (by simp; omega) hneb').trans ((World.cell?_alloc_past _ _ _ hb2).trans d4)) | fail)
          go_ret
          obtain ⟨tt, h2⟩ := HT.out
          obtain ⟨q1, q2⟩ := HQ.out
          have ta : Tch [] w3 (w3.alloc (.cells #[.int .i64 0] 3)) := (Tch.refl [] w3).alloc _
          obtain ⟨O', g1, g2, g3⟩ := PT1.put ((Below.heap_alloc _ _ _ hb2).trans q1) ((q2.tch0 ta).putE (x := [0]) (Nat.lt_of_lt_of_le hb2 ta.size) ⟨hown3, hgrow, hat⟩) (hgrow.block b (Nat.lt_of_lt_of_le hb2 ta.size) hneb') hbO 4 _ rfl
          rw [HX.out]
          exact STx.no rfl g1.sh ((tt.trans (t3.then ta) (fun _ _ h => h) (by simp)).trans g2 (fun _ _ h => h) (fun _ _ h => h))
        | some x =>
          rw [numTo_some hnw]
          have hq : exportT UU i s [wd] = some ({ i with exports := i.exports ++ [x] }, 4) := by unfold exportT; rw [if_neg (fun h => h.elim HM.out (reach_yes hrb))]; show (numW wd).map _ = _; rw [hnw]; rfl
          have HX := Lib.hid hq
          clear hq hnw
          go_wp2_with (first | (at_builtin; refine wpList_append_any _ rfl (.tmp 36) (.tmp 38) 22 rfl 3 i0 (.int .i64 0) 1 8 Tryd.underlying22 hi hz0 hz1 hz2 rfl (by decide) ve i.exports.length (ints i.exports) rfl (hown.alloc _) [] _ 1 [.int .i64 x] rfl (src_new w3 _ [] #[.int .i64 x] _ 1 1 (Tch.refl [] _) (by simp)) rfl (by intro u hu; simp at hu; subst hu; rfl) hbnd ?_; intro ao cap w4 hown3 hgrow hat; have f1 := (hgrow.frozen_far ⟨b, 4, none⟩ (by simp; omega) hneb').trans ((World.frozen?_alloc_past _ _ _ hb2).trans (hf 4)); have e1 := (hgrow.cell_far ⟨b, 4, none⟩ (by simp; omega) hneb').trans ((World.cell?_alloc_past _ _ _ hb2).trans d4)) | fail)
          go_ret
          obtain ⟨tt, h2⟩ := HT.out
          obtain ⟨q1, q2⟩ := HQ.out
          have ta : Tch [] w3 (w3.alloc (.cells #[.int .i64 x] 3)) := (Tch.refl [] w3).alloc _
          obtain ⟨O', g1, g2, g3⟩ := PT1.put ((Below.heap_alloc _ _ _ hb2).trans q1) ((q2.tch0 ta).putE (x := [x]) (Nat.lt_of_lt_of_le hb2 ta.size) ⟨hown3, hgrow, hat⟩) (hgrow.block b (Nat.lt_of_lt_of_le hb2 ta.size) hneb') hbO 4 _ rfl
          rw [HX.out]
          exact STx.go rfl g1 (tt.trans (t3.then ta) (fun _ _ h => h) (by simp)) g2 g3
      · have hq : exportT UU i s ws = none := by
          unfold exportT; rw [if_neg (fun h => h.elim HM.out (reach_yes hrb))]
          match ws, hl1 with
          | [], _ => rfl
          | [_], h => simp at h
          | _ :: _ :: _, _ => rfl
        have hlb : ((ws.length : Int) != 1) = true := by simp; omega
        have HH := Lib.hid (And.intro hq (And.intro tt h2.sh))
        clear hq tt h2 t2 hr hl1
        go_wp2_with fail
        go_ret
        rw [HH.out.1]
        exact STx.no rfl HH.out.2.2 HH.out.2.1
theorem info_mthT : (Tryd.prog.info? 52).map (fun i => (i.zero, i.size, i.bytes)) = some (some (.agg #[.slice none 0 0, .int .i64 0, .slice none 0 0, .slice none 0 0]), 4, 80) := by kernel_rfl
theorem info_impT : (Tryd.prog.info? 57).map (fun i => (i.zero, i.size, i.bytes)) = some (some (.agg #[.string ⟨#[]⟩, .int .i64 0, .slice none 0 0, .int .i64 0]), 4, 56) := by kernel_rfl
theorem info_insT : (Tryd.prog.info? 54).map (fun i => (i.zero, i.size, i.bytes)) = some (some (.agg #[.int .i64 0, .int .i64 0, .int .i64 0]), 3, 24) := by kernel_rfl
theorem one_mth (al : Option Addr) (n c : Nat) (r : Int) : ∀ u ∈ [Value.slice al n c, .int .i64 r, .slice none 0 0, .slice none 0 0], u.oneCell' = true := by
  intro u hu
  simp at hu
  rcases hu with rfl | rfl | rfl | rfl <;> rfl
theorem cut_words {w : World} {L : List Nat} {a0 : Option Addr} {c0 n : Nat} {ws : List Wd} (h : Src w L (.slice a0 ws.length c0) ws.length (strs ws)) (hn : n ≤ ws.length) :
    (∀ w', (Instr.slice 39 (.slice a0 ws.length c0) (some (.int .i64 (n : Int))) none none).run Tryd.prog w' = .ok (.slice (cutA a0 n 1 c0) (ws.length - n) (c0 - n)) w') ∧
    Src w L (.slice (cutA a0 n 1 c0) (ws.drop n).length (c0 - n)) (ws.drop n).length (strs (ws.drop n)) := by
  refine ⟨fun w' => run_cut_l 39 9 1 Tryd.underlying39 (by kernel_rfl) (by kernel_rfl) a0 ws.length c0 n hn w', ?_⟩
  have := h.cut_l (sz := 1) hn (by simp)
  rw [List.length_drop]
  have e : (strs ws).drop (n * 1) = strs (ws.drop n) := by unfold strs; rw [Nat.mul_one, List.map_drop]
  rw [e] at this
  exact this
set_option maxRecDepth 100000 in
set_option maxHeartbeats 4000000 in
theorem tx_method (w : World) (b : Nat) (O : List Nat) (i : Img) (s : Nat) (f : Bool) (h : PTx w b O i s f) (hsz : i.methods.length ≤ 1099511627776) (a0 : Option Addr) (c0 : Nat) (ws : List Wd) (hw : Src w O (.slice a0 ws.length c0) ws.length (strs ws)) (hl : ws.length ≤ 1099511627776) :
    Calls Tryd.prog 34 #[.pointer (some ⟨b, 0, none⟩), .slice a0 ws.length c0] w fun e w' => STx w w' b O f (methodT UU i s ws) e := by
  obtain ⟨i0, hi, hz0, hz1, hz2⟩ := info_parts info_mthT
  have hr := tx_reach w b O i s 3 f h
  have hbl := h.lt
  have hbO := h.b
  clear h
  go_enter Tryd.func34, Tryd.ntmps34
  go_wp2_with fail
  refine hr.mono ?_
  rintro e w2 ⟨rfl, t2, h2⟩
  have tt : Tch O w w2 := t2.mono (fun k _ hk => by simp at hk; subst hk; exact hbO)
  clear hr
  cases hrb : reachB i s 3
  · have hq : methodT UU i s ws = none := by unfold methodT; rw [if_pos (reach_no hrb)]
    have HH := Lib.hid (And.intro hq (And.intro tt h2.sh))
    clear hq tt h2 t2
    go_wp2_with fail
    go_ret
    rw [HH.out.1]
    exact STx.no rfl HH.out.2.2 HH.out.2.1
  · rw [hrb, if_pos rfl] at h2
    have HR := Lib.hid (reach_yes hrb)
    obtain rfl | ⟨wd, ps, rfl⟩ : ws = [] ∨ ∃ wd ps, ws = wd :: ps := by
      cases ws with
      | nil => exact .inl rfl
      | cons a l => exact .inr ⟨a, l, rfl⟩
    · have hq : methodT UU i s [] = none := by unfold methodT; rw [if_neg HR.out]
      have HH := Lib.hid (And.intro hq (And.intro tt h2.sh))
      clear hq tt h2 t2
      go_wp2_with fail
      go_ret
      rw [HH.out.1]
      exact STx.no rfl HH.out.2.2 HH.out.2.1
    · have hw2 := hw.tch t2 (fun k hk _ => by simp at hk; subst hk; exact hbO)
      obtain ⟨ad, rfl, hadl, hadO, hq⟩ := Src.at hw2 (j := 0) (by simp)
      rw [Addr_add_zero] at hq
      have hq0 : w2.cell? ad = some (.string ⟨wd.toArray⟩) := by simpa [strs] using hq
      obtain ⟨hcut, hsrc⟩ := cut_words hw2 (n := 1) (by simp)
      have e1 : (wd :: ps).drop 1 = ps := rfl
      have hlw : (wd :: ps).length = ps.length + 1 := rfl
      rw [e1] at hsrc
      rw [hlw] at hcut hl
      have e2 : ps.length + 1 - 1 = ps.length := rfl
      rw [e2] at hcut
      generalize cutA (some ad) 1 1 c0 = ax at hcut hsrc
      have hcut1 : ∀ w', (Instr.slice 39 (.slice (some ad) (ps.length + 1) c0) (some (.int .i64 1)) none none).run Tryd.prog w' = .ok (.slice ax ps.length (c0 - 1)) w' := hcut
      clear hcut
      generalize c0 - 1 = c1 at hcut1 hsrc
      have hK := tx_kinds w2 O _ _ ps hsrc (by omega)
      have HT := Lib.hid (And.intro tt (And.intro t2 h2))
      clear hq tt t2 hw hw2 hsrc h2
      go_wp2_with fail
      refine (tx_Kind w2 wd).mono ?_
      rintro e w3 ⟨rfl, rfl⟩
      go_wp2_with fail
      refine hK.mono ?_
      rintro e w3 ⟨t3, hk3⟩
      clear hK
      have h3 := HT.out.2.2.tch0 t3
      obtain ⟨vf, vi, vm, ve, q1, q2⟩ := (show PTx w3 b O i 3 f from h3).cells
      obtain ⟨d0, d1, d2, d3, d4, d5, d6, hf⟩ := cells7 q1
      obtain ⟨mcs, hown, hneb, hput⟩ := q2.ownM
      have hbnd : i.methods.length + 1 ≤ 9223372036854775807 ∧ (i.methods.length + 1) * 80 ≤ 140737488355328 := by omega
      have hb2 := heap_lt q1
      have hneb' : some b ≠ vm.ownBlock := fun h => hneb h.symm
      have HQ := Lib.hid (And.intro q1 (And.intro q2 hput))
      clear q1 q2 h3 hput
      unfold KindsTo at hk3
      have hsrcn : ∀ (al : Option Addr) (n c : Nat), Src (w3.alloc (.cells #[.slice al n c, .int .i64 (kindW wd), .slice none 0 0, .slice none 0 0] 52)) [] (.slice (some ⟨w3.heap.size, 0, none⟩) 1 1) 1 [.slice al n c, .int .i64 (kindW wd), .slice none 0 0, .slice none 0 0] := fun al n c => src_new w3 _ [] #[.slice al n c, .int .i64 (kindW wd), .slice none 0 0, .slice none 0 0] _ 1 1 (Tch.refl [] _) (by simp)
      have HS := Lib.hid hsrcn
      clear hsrcn
      cases hkp : kindsP UU ps with
      | none =>
        rw [hkp] at hk3
        subst hk3
        have hq : methodT UU i s (wd :: ps) = none := by
          unfold methodT; rw [if_neg HR.out]
          simp only [hkp]
          split <;> rfl
        have HX := Lib.hid hq
        clear hq hkp
        go_wp2_with (first | (at_builtin; refine wpList_append_any _ rfl (.tmp 31) (.tmp 35) 27 rfl 52 i0 (.agg #[.slice none 0 0, .int .i64 0, .slice none 0 0, .slice none 0 0]) 4 80 Tryd.underlying27 hi hz0 hz1 hz2 rfl (by decide) vm i.methods.length mcs rfl (hown.alloc _) [] _ 1 [.slice none 0 0, .int .i64 (kindW wd), .slice none 0 0, .slice none 0 0] rfl (HS.out none 0 0) rfl (one_mth _ _ _ _) hbnd ?_; intro ao cap w4 hown3 hgrow hat; have f1 := (hgrow.frozen_far ⟨b, 3, none⟩ (by simp; omega) hneb').trans ((World.frozen?_alloc_past _ _ _ hb2).trans (hf 3)); have e1 := (hgrow.cell_far ⟨b, 3, none⟩ (by simp; omega) hneb').trans ((World.cell?_alloc_past _ _ _ hb2).trans d3)) | fail)
        go_ret
        obtain ⟨tt, _, h2⟩ := HT.out
        obtain ⟨q1, q2, _⟩ := HQ.out
        have ta : Tch [] w3 (w3.alloc (.cells #[.slice none 0 0, .int .i64 (kindW wd), .slice none 0 0, .slice none 0 0] 52)) := (Tch.refl [] w3).alloc _
        obtain ⟨mcs2, o2, _, hput⟩ := (q2.tch0 ta).ownM
        have hmc : mcs2 = mcs := own_cells o2 (hown.alloc _)
        subst hmc
        obtain ⟨O', g1, g2, g3⟩ := PT1.put ((Below.heap_alloc _ _ _ hb2).trans q1) (hput _ _ (.slice none 0 0) [] (kindW wd) _ (Nat.lt_of_lt_of_le hb2 ta.size) ⟨hown3, hgrow, hat⟩ ⟨.inl ⟨rfl, rfl, rfl⟩⟩) (hgrow.block b (Nat.lt_of_lt_of_le hb2 ta.size) hneb') hbO 3 _ rfl
        rw [HX.out]
        exact STx.no rfl g1.sh ((tt.trans (t3.then ta) (fun _ _ h => h) (by simp)).trans g2 (fun _ _ h => h) (fun _ _ h => h))
      | some l =>
        rw [hkp] at hk3
        obtain ⟨v, rfl, hv⟩ := hk3
        obtain ⟨al, cl, rfl⟩ := ownsRow_form hv.1
        have hge : decide ((0 : Int) ≤ kindW wd) = decide (0 ≤ kindW wd) := rfl
        obtain ⟨qb, hqb⟩ : ∃ qb, qb = decide (0 ≤ kindW wd) := ⟨_, rfl⟩
        have HV := Lib.hid hv
        clear hv hge
        have HKP := Lib.hid hkp
        clear hkp
        cases hqd : decide (0 ≤ kindW wd)
        all_goals
          go_wp2_with (first | (at_builtin; refine wpList_append_any _ rfl (.tmp 31) (.tmp 35) 27 rfl 52 i0 (.agg #[.slice none 0 0, .int .i64 0, .slice none 0 0, .slice none 0 0]) 4 80 Tryd.underlying27 hi hz0 hz1 hz2 rfl (by decide) vm i.methods.length mcs rfl (hown.alloc _) [] _ 1 [.slice al l.length cl, .int .i64 (kindW wd), .slice none 0 0, .slice none 0 0] rfl (HS.out al l.length cl) rfl (one_mth _ _ _ _) hbnd ?_; intro ao cap w4 hown3 hgrow hat; have f1 := (hgrow.frozen_far ⟨b, 3, none⟩ (by simp; omega) hneb').trans ((World.frozen?_alloc_past _ _ _ hb2).trans (hf 3)); have e1 := (hgrow.cell_far ⟨b, 3, none⟩ (by simp; omega) hneb').trans ((World.cell?_alloc_past _ _ _ hb2).trans d3)) | fail)
          go_ret
          obtain ⟨tt, _, h2⟩ := HT.out
          obtain ⟨q1, q2, _⟩ := HQ.out
          have ta : Tch [] w3 (w3.alloc (.cells #[.slice al l.length cl, .int .i64 (kindW wd), .slice none 0 0, .slice none 0 0] 52)) := (Tch.refl [] w3).alloc _
          obtain ⟨mcs2, o2, _, hput⟩ := (q2.tch0 ta).ownM
          have hmc : mcs2 = mcs := own_cells o2 (hown.alloc _)
          subst hmc
          have hOl := HT.out.2.2
          have hRl : RInts (w3.alloc (.cells #[.slice al l.length cl, .int .i64 (kindW wd), .slice none 0 0, .slice none 0 0] 52)) O (.slice al l.length cl) l := (HV.out.tch ta).src O (fun k hk => by
            obtain ⟨_, _, _, _, _, hio⟩ := (show PTx w2 b O i 3 f from hOl).cells
            exact hio.lt hOl.lt k hk)
          obtain ⟨O', g1, g2, g3⟩ := PT1.put ((Below.heap_alloc _ _ _ hb2).trans q1) (hput _ _ (.slice al l.length cl) l (kindW wd) _ (Nat.lt_of_lt_of_le hb2 ta.size) ⟨hown3, hgrow, hat⟩ hRl) (hgrow.block b (Nat.lt_of_lt_of_le hb2 ta.size) hneb') hbO 3 _ rfl
        · have hq : methodT UU i s (wd :: ps) = none := by
            unfold methodT; rw [if_neg HR.out]
            simp only
            rw [if_neg (show ¬ 0 ≤ UU.kind wd from of_decide_eq_false hqd)]
          rw [hq]
          exact STx.no rfl g1.sh ((tt.trans (t3.then ta) (fun _ _ h => h) (by simp)).trans g2 (fun _ _ h => h) (fun _ _ h => h))
        · have hq : methodT UU i s (wd :: ps) = some ({ i with methods := i.methods ++ [⟨l, kindW wd, [], []⟩] }, 3) := by
            unfold methodT; rw [if_neg HR.out]
            simp only [HKP.out]
            rw [if_pos (show 0 ≤ UU.kind wd from of_decide_eq_true hqd)]
            rfl
          rw [hq]
          exact STx.go rfl g1 (tt.trans (t3.then ta) (fun _ _ h => h) (by simp)) g2 g3
end Go.Proofs.YteebapopeaafhaaDoor
namespace Go.Proofs.YteebapopeaafhaaDoor
open Go.RowKit Go.Tcn
set_option linter.unusedVariables false
set_option linter.unusedSimpArgs false
set_option maxRecDepth 100000 in
set_option maxHeartbeats 4000000 in
theorem tx_last_no (w : World) (b s : Nat) (hs : s ≠ 3) (h5 : w.cell? ⟨b, 5, none⟩ = some (.int .i64 s)) :
    Calls Tryd.prog 64 #[.pointer (some ⟨b, 0, none⟩)] w fun e w' => e = .returned (.pointer none) ∧ w = w' := by
  have hb : ((s : Int) != 3) = true := by simp; omega
  clear hs
  go_enter Tryd.func64, Tryd.ntmps64
  go_wp2_with fail
  go_ret
  exact ⟨rfl, rfl⟩
set_option maxRecDepth 100000 in
set_option maxHeartbeats 4000000 in
theorem tx_last_yes (w : World) (b g n cap : Nat) (hn : n + 1 ≤ 1099511627777) (h5 : w.cell? ⟨b, 5, none⟩ = some (.int .i64 3)) (h3 : w.cell? ⟨b, 3, none⟩ = some (.slice (some ⟨g, 0, none⟩) (n + 1) cap)) :
    Calls Tryd.prog 64 #[.pointer (some ⟨b, 0, none⟩)] w fun e w' => e = .returned (.pointer (some ⟨g, n * 4, none⟩)) ∧ Tch [] w w' := by
  go_enter Tryd.func64, Tryd.ntmps64
  go_wp2_with fail
  go_quiet (fail)
  go_wp2
  go_ret
  exact ⟨rfl, (Tch.refl [] w).drewN _⟩
theorem last_of {ms : List Mth} (h : ms ≠ []) : ∃ ms0 m, ms = ms0 ++ [m] := ⟨ms.dropLast, ms.getLast h, (List.dropLast_concat_getLast h).symm⟩
set_option maxRecDepth 100000 in
set_option maxHeartbeats 4000000 in
theorem tx_locals (w : World) (b : Nat) (O : List Nat) (i : Img) (s : Nat) (f : Bool) (h : PTx w b O i s f) (hfr : f = true → s = 3 ∧ i.methods ≠ []) (hsz : i.methods.length ≤ 1099511627776) (a0 : Option Addr) (c0 : Nat) (ws : List Wd) (hw : Src w O (.slice a0 ws.length c0) ws.length (strs ws)) (hl : ws.length ≤ 1099511627776) :
    Calls Tryd.prog 35 #[.pointer (some ⟨b, 0, none⟩), .slice a0 ws.length c0] w fun e w' => STx w w' b O f (localsT UU i s f ws) e := by
  have hk := tx_kinds w O a0 c0 ws hw hl
  have hbO := h.b
  go_enter Tryd.func35, Tryd.ntmps35
  go_wp2_with fail
  refine hk.mono ?_
  rintro e w1 ⟨t1, hk1⟩
  have h1 := h.tch0 t1
  obtain ⟨vf, vi, vm, ve, q1, q2⟩ := (show PTx w1 b O i s f from h1).cells
  obtain ⟨d0, d1, d2, d3, d4, d5, d6, hf⟩ := cells7 q1
  have HH := Lib.hid (And.intro h (And.intro h1 (And.intro (t1.nil (L := O)) (And.intro q1 q2))))
  have HFR := Lib.hid hfr
  clear hk h1 h hfr hw
  unfold KindsTo at hk1
  cases hkp : kindsP UU ws with
  | none =>
    rw [hkp] at hk1
    subst hk1
    have hq : localsT UU i s f ws = none := by unfold localsT; rw [hkp]
    have HQ := Lib.hid hq
    clear hq q1 q2 t1
    cases f
    all_goals
      go_wp2_with fail
      go_ret
      obtain ⟨_, h1, t1, _⟩ := HH.out
      rw [HQ.out]
      exact STx.no rfl h1.sh t1
  | some l =>
    rw [hkp] at hk1
    obtain ⟨v, rfl, hv⟩ := hk1
    obtain ⟨al, cl, rfl⟩ := ownsRow_form hv.1
    cases f
    · have hq : localsT UU i s false ws = none := by
        unfold localsT; rw [hkp]
        match l with
        | [] => rfl
        | k :: l => simp
      have HQ := Lib.hid hq
      clear hq q1 q2 hv t1
      go_wp2_with fail
      go_ret
      obtain ⟨_, h1, t1, _⟩ := HH.out
      rw [HQ.out]
      exact STx.no rfl h1.sh t1
    · by_cases hl0 : l = []
      · subst hl0
        have hq : localsT UU i s true ws = none := by unfold localsT; rw [hkp]
        have HQ := Lib.hid hq
        clear hq q1 q2 hv t1
        go_wp2_with fail
        go_ret
        obtain ⟨_, h1, t1, _⟩ := HH.out
        rw [HQ.out]
        exact STx.no rfl h1.sh t1
      · obtain ⟨hs3, hm0⟩ := HFR.out rfl
        subst hs3
        obtain ⟨ms, m, hms⟩ := last_of hm0
        have hbl := heap_lt q1
        obtain ⟨g, cap, vc, hvm, hgl, hgb, _, hgf, ⟨u, hgu⟩, _, _, _, _, hput⟩ := q2.last hbl hms
        subst hvm
        have hml : i.methods.length = ms.length + 1 := by rw [hms]; simp
        have hd : decide ((l.length : Int) < 1) = false := decide_eq_false (by have := List.length_pos_iff.2 hl0; omega)
        have hq : localsT UU i 3 true ws = some ({ i with methods := ms ++ [{ m with locals := l }] }, 3) := by
          unfold localsT; rw [hkp]
          match l, hl0 with
          | k :: l, _ => simp only [if_true]; rw [hms, addLast_snoc]
        rw [hml] at d3 hsz
        have hla := tx_last_yes w1 b g ms.length cap (by omega) d5 d3
        have hRl : RInts w1 O (.slice al l.length cl) l := hv.src O (fun k hk => by
          obtain ⟨_, _, _, _, _, hio⟩ := (show PTx w b O i 3 true from HH.out.1).cells
          exact hio.lt HH.out.1.lt k hk)
        have HX := Lib.hid (And.intro hq (And.intro hms (And.intro hml hRl)))
        clear hq hkp hput hv q1 q2 hl0 hm0 HFR hms hml t1 hRl
        go_wp2_with fail
        refine hla.mono ?_
        rintro e w2 ⟨rfl, t2⟩
        have hgu2 := (t2.cell (p := ⟨g, ms.length * 4 + 2, none⟩) (show g < _ from hgl) (by simp)).trans hgu
        have hgf2 : w2.frozen? ⟨g, ms.length * 4 + 2, none⟩ = false := (t2.frozen (p := ⟨g, ms.length * 4 + 2, none⟩) (show g < _ from hgl) (by simp)).trans (hgf _)
        clear hla
        go_wp2_with fail
        go_ret
        obtain ⟨_, h1, t1, q1, q2⟩ := HH.out
        obtain ⟨hq, hms, hml, hRl⟩ := HX.out
        have q3 := q2.tch0 t2
        have hb3 := Nat.lt_of_lt_of_le hbl t2.size
        obtain ⟨g', cap', vc', hvm', _, _, _, _, _, _, _, _, _, hput⟩ := q3.last hb3 hms
        simp only [Value.slice.injEq, Option.some.injEq, Addr.mk.injEq, and_true, true_and] at hvm'
        obtain ⟨rfl, rfl⟩ := hvm'
        obtain ⟨O', g1, g2, g3⟩ := hput (.slice al l.length cl) l (Src.tch hRl t2 (by simp))
        rw [hq]
        refine STx.go rfl (O' := O') (w1 := w2) ⟨vf, vi, .slice (some ⟨g, 0, none⟩) i.methods.length cap, ve, ?_, g1⟩ (t1.trans t2 (fun _ _ h => h) (by simp)) g2 g3
        rw [Below.heap_setCell _ _ _ _ (by exact fun e => hgb e.symm)]
        rw [t2.block b hbl (by simp)]
        exact q1
end Go.Proofs.YteebapopeaafhaaDoor
