/-
  STATEMENT: TextRunes: an applet's name is told, and read, rune by rune: the walk. Conditions: utf8's tables and the bins as they are laid; strconv.Itoa's contract; the variable MaxLen holds a number.
-/
import Derived.Test.YteebapopeaafhaaGreatDoorHTpP
import Derived.Test.YteebapopeaafhaaGreatDoorHRfs
import Derived.Test.YteebapopeaafhaaGreatDoorHTx2
import Derived.Laws.Cover4
namespace Go.Tcn
open Go.RowKit
set_option linter.unusedVariables false
set_option linter.unusedSimpArgs false
/-- A rune's bytes, of those that a name may bear. -/
def Pc (p : Wd) : Prop := p ≠ [] ∧ p.length ≤ 2 ∧ ∀ t : Wd, ∃ r : Nat, Lib.decodeL (p ++ t) = (r, p.length) ∧ runeB (r : Int) = true
theorem Pc.one (b : UInt8) (h : b.toNat < 128) (hr : runeB (b.toNat : Int) = true) : Pc [b] :=
  ⟨by simp, by simp, fun t => ⟨b.toNat, Lib.decodeL_ascii b t h, hr⟩⟩
theorem Pc.two (c : UInt8) (h : 160 ≤ c.toNat) (hc : c.toNat ≤ 191) : Pc [195, c] := by
  refine ⟨by simp, by simp, fun t => ⟨192 + c.toNat % 64, ?_, ?_⟩⟩
  · rw [Lib.decodeL_N]
    have h1 : c.toNat / 64 = 2 := by omega
    have h2 : c.toNat % 64 ≥ 32 := by omega
    simp [Lib.decodeN, h1]
    omega
  · unfold runeB
    simp only [decide_eq_true_eq]
    omega
/-- A name of such runes. -/
inductive Nl : Wd → Prop
  | nil : Nl []
  | cons {p s : Wd} : Pc p → Nl s → Nl (p ++ s)
theorem Nl.snoc {a p : Wd} (h : Nl a) (hp : Pc p) : Nl (a ++ p) := by
  induction h with
  | nil =>
    have := Nl.cons hp Nl.nil
    simpa using this
  | cons h1 _ ih =>
    rw [List.append_assoc]
    exact Nl.cons h1 ih
theorem Nl.valid {a : Wd} (h : Nl a) : Lib.validD a = true := by
  induction h with
  | nil => exact Lib.validD_nil
  | @cons p s h1 _ ih =>
    obtain ⟨hne, hl, hd⟩ := h1
    obtain ⟨r, hd, hr⟩ := hd s
    have hn : p ++ s ≠ [] := by simp [hne]
    rw [Lib.validD_step _ hn, hd, if_neg, List.drop_left]
    · exact ih
    · rintro ⟨h1, _⟩
      simp only at h1
      subst h1
      unfold runeB at hr
      simp at hr
theorem Nl.runes (l : Wd) : ∀ (f pos : Nat), Nl (l.drop pos) → nameR ⟨l.toArray⟩ f pos = true
  | 0, _, _ => rfl
  | f + 1, pos, h => by
    rw [nameR]
    split
    · rename_i hp
      have hp2 : pos < l.length := by
        have : pos < l.toArray.size := hp
        simpa using this
      have hd : Lib.decodeL (l.drop pos) = Utf8.decode ⟨l.toArray⟩ pos := Lib.decodeL_drop ⟨l.toArray⟩ pos
      rw [← hd]
      generalize hs : l.drop pos = x at h
      cases h with
      | nil =>
        have := congrArg List.length hs
        rw [List.length_drop] at this
        simp at this
        omega
      | @cons p s h1 h2 =>
        obtain ⟨hne, hl, hdd⟩ := h1
        obtain ⟨r, hdr, hr⟩ := hdd s
        rw [hdr]
        simp only [Bool.and_eq_true]
        refine ⟨hr, Nl.runes l f _ ?_⟩
        rw [← List.drop_drop, hs, List.drop_left]
        exact h2
    · rfl
theorem Nl.name {a : Wd} (h : Nl a) (h1 : a ≠ []) (h2 : a.length ≤ 16) : nameB a = true := by
  unfold nameB
  have h0 := List.length_pos_iff.2 h1
  rw [h.valid, Nl.runes a _ 0 (by simpa using h)]
  simp
  omega
theorem named_right {i : Img} {nm : Wd} (hb : imgB i = true) (hn : nameB nm = true) : imgB { i with name := nm } = true := by
  unfold imgB at *
  simp only [Bool.and_eq_true] at *
  obtain ⟨⟨⟨⟨⟨⟨⟨⟨_, a1⟩, a2⟩, a3⟩, a4⟩, a5⟩, a6⟩, a7⟩, a8⟩ := hb
  exact ⟨⟨⟨⟨⟨⟨⟨⟨hn, a1⟩, a2⟩, a3⟩, a4⟩, a5⟩, a6⟩, a7⟩, a8⟩
end Go.Tcn
namespace Go.Proofs.YteebapopeaafhaaGreatDoor
open Go.RowKit Go.Tcn
set_option linter.unusedVariables false
set_option linter.unusedSimpArgs false
set_option maxRecDepth 100000 in
theorem runes10_at (b : Int) (hb : 0 ≤ b ∧ b ≤ 9) : ∃ (v : Int) (p : Wd), Pc p ∧ runesBytes [v] = ⟨p.toArray⟩ ∧ ∀ w : World, (Instr.index 44 (.agg #[.int .i32 97, .int .i32 113, .int .i32 122, .int .i32 48, .int .i32 57, .int .i32 45, .int .i32 46, .int .i32 224, .int .i32 233, .int .i32 255]) (.int .i64 b)).run Tryz.prog w = .ok (.int .i32 v) w := by
  have h : b = 0 ∨ b = 1 ∨ b = 2 ∨ b = 3 ∨ b = 4 ∨ b = 5 ∨ b = 6 ∨ b = 7 ∨ b = 8 ∨ b = 9 := by omega
  rcases h with rfl | rfl | rfl | rfl | rfl | rfl | rfl | rfl | rfl | rfl
  · exact ⟨97, [97], .one _ (by decide) (by decide), by kernel_rfl, fun _ => by kernel_rfl⟩
  · exact ⟨113, [113], .one _ (by decide) (by decide), by kernel_rfl, fun _ => by kernel_rfl⟩
  · exact ⟨122, [122], .one _ (by decide) (by decide), by kernel_rfl, fun _ => by kernel_rfl⟩
  · exact ⟨48, [48], .one _ (by decide) (by decide), by kernel_rfl, fun _ => by kernel_rfl⟩
  · exact ⟨57, [57], .one _ (by decide) (by decide), by kernel_rfl, fun _ => by kernel_rfl⟩
  · exact ⟨45, [45], .one _ (by decide) (by decide), by kernel_rfl, fun _ => by kernel_rfl⟩
  · exact ⟨46, [46], .one _ (by decide) (by decide), by kernel_rfl, fun _ => by kernel_rfl⟩
  · exact ⟨224, [195, 160], .two _ (by decide) (by decide), by kernel_rfl, fun _ => by kernel_rfl⟩
  · exact ⟨233, [195, 169], .two _ (by decide) (by decide), by kernel_rfl, fun _ => by kernel_rfl⟩
  · exact ⟨255, [195, 191], .two _ (by decide) (by decide), by kernel_rfl, fun _ => by kernel_rfl⟩
theorem runeP_conv (w : World) (v : Int) : (convert 45 9 (.slice (some ⟨w.heap.size, 0, none⟩) 1 1)).run Tryz.prog (w.alloc (.cells #[.int .i32 v] 21)) = .ok (.string (runesBytes [v])) (w.alloc (.cells #[.int .i32 v] 21)) := by
  have h := run_convert_runes (P := Tryz.prog) (w.alloc (.cells #[.int .i32 v] 21)) 45 9 21 ⟨w.heap.size, 0, none⟩ 1 1 [v] (by simp) Tryz.underlying45 Tryz.underlying21 Tryz.underlying9 (fun j hj => by
    simp at hj
    subst hj
    exact new_cells w #[.int .i32 v] 21 0 _ rfl)
  exact h
theorem hand_AppX0 (w : World) (hG : Bins w 2) :
    Calls Tryz.prog 9 #[.int .i64 0, .slice none 0 0] w fun e w' => ∃ (i : Img) (vf vi vm ve : Value), e = .returned (.agg #[.string ⟨i.name.toArray⟩, vf, vi, vm, ve]) ∧ RInts w' [] vf i.fields ∧ RImps w' [] vi i.imports ∧ RMths w' [] vm i.methods ∧ RInts w' [] ve i.exports ∧ ImgZ i ∧ imgB i = true ∧ Tch [] w w' := by
  refine (hand_Applet0 w hG 0 ⟨by omega, by omega⟩ [] (by simp)).mono ?_
  rintro e w1 ⟨cs, c0, c1, c2, rfl, ⟨vf, vi, vm, ve, hcs, r1, r2, r3, r4⟩, k0, k1, k2, t1⟩
  have hz := appP_z 0 0 c0 c1 c2 k0 k1 k2
  have hb := appP_right 0 0 c0 c1 c2 k0 k1 k2
  generalize appI 0 0 c0 c1 c2 = i at *
  obtain rfl : cs = #[.string ⟨i.name.toArray⟩, vf, vi, vm, ve] := by
    apply Array.toList_inj.1
    rw [hcs]
    rfl
  exact ⟨i, vf, vi, vm, ve, rfl, r1, r2, r3, r4, hz, hb, t1⟩
set_option maxRecDepth 100000 in
set_option maxHeartbeats 8000000 in
theorem law5_TextRunes (w : World) (hG : Bins w 2) (v : Value) (l : List Int) (h : RInts w [] v l) (hIn : ∀ x ∈ l, I6 x) (hnl : l.length ≤ 9223372036854775807) (hM : MaxC 3 w) (hV : ValC w) (hI : ItoC Tryz.prog 37 w) :
    Calls Tryz.prog 6 #[v] w fun e w' => e = .returned (.bool true) ∧ Tch [] w w' := by
  obtain ⟨an, cn, rfl⟩ := Src.form h
  go_enter Tryz.func6, Tryz.ntmps6
  go_wp2_with fail
  go_loopw [3, 4] (fun sv iv wz => ∃ (j : Nat) (ba : Wd), j ≤ l.length ∧ j ≤ 8 ∧ ba.length ≤ 2 * j ∧ Hid (Nl ba) ∧ sv = .string ⟨ba.toArray⟩ ∧ iv = .int .i64 j ∧ Tch [] w wz) (fun _ iv _ => l.length - (intOf iv).toNat)
  case atStart => exact ⟨0, [], by omega, by omega, by simp, Lib.hid .nil, rfl, rfl, Tch.refl [] w⟩
  case round =>
    obtain ⟨j, ba, hj1, hj8, hbl, hnl, rfl, rfl, ht⟩ := hrel
    by_cases hg : j < l.length ∧ j < 8
    · obtain ⟨hj, hj5⟩ := hg
      obtain ⟨ad, rfl, _, _, hq⟩ := Src.at (h.tch ht (by simp)) (j := j) (by simpa using hj)
      have hq0 : wr.cell? (ad.add j) = some (.int .i64 l[j]) := by simpa [ints] using hq
      have hx := hIn l[j] (List.getElem_mem hj)
      clear hq
      generalize l[j] = x at *
      have hj5' : (j : Int) < 8 := by omega
      obtain ⟨rv, p, hpc, hrb, hrv⟩ := runes10_at (x % 10) ⟨by omega, by omega⟩
      have HP := Lib.hid hpc
      have hpl := hpc.2.1
      have hPk := fun w => hand_Pick x 10 hx (by omega) (by omega) w
      have hcv := fun w => runeP_conv w rv
      rw [hrb] at hcv
      have hsz2 : ¬ 9223372036854775807 < ba.length + p.length := by omega
      clear hrb hpc
      generalize x % 10 = xm at *
      go_wp2_with fail
      refine (hPk _).mono ?_
      rintro e w1 ⟨rfl, rfl⟩
      go_wp2_with fail
      go_roundw
      case rel => exact ⟨j + 1, ba ++ p, by omega, by omega, by simp only [List.length_append]; omega, Lib.hid (hnl.out.snoc HP.out), congrArg Value.string (by rw [← str_app]), by go_num, ht.alloc _⟩
      case measure => simp [intOf]; omega
    · have hcs : ¬ j < l.length ∨ (j < l.length ∧ ¬ (j : Int) < 8 ∧ ¬ j < 8) := by omega
      rcases hcs with d1 | ⟨d1, d2, d3⟩
      all_goals
        go_upto_region 6 with fail
        go_upto_if 33 with fail
        go_cut [3] (fun nv wz => ∃ nm : Wd, nv = .string ⟨nm.toArray⟩ ∧ Hid (nameB nm = true) ∧ nm.length ≤ 16 ∧ Tch [] w wz)
        case first =>
          cases hbb : List.isEmpty ba
          · have HB := Lib.hid (show ba ≠ [] by intro e; rw [e] at hbb; cases hbb)
            clear hbb
            go_wp2_with fail
            go_meet
            exact ⟨ba, rfl, Lib.hid (hnl.out.name HB.out (by omega)), by omega, ht⟩
          · clear hbb
            go_wp2_with fail
            go_meet
            exact ⟨[120], rfl, Lib.hid (by decide +kernel), by simp, ht⟩
        case rest =>
          clear hnl hbl ht h
          obtain ⟨nm, rfl, HN, hnm, ht⟩ := hcut
          have hAp := hand_AppX0 wc (hG.tch ht)
          go_wp2_with fail
          refine hAp.mono ?_
          rintro e w1 ⟨i, vf, vi, vm, ve, rfl, r1, r2, r3, r4, hz, hb, t1⟩
          clear hAp
          obtain ⟨af, cf, rfl⟩ := Src.form r1
          obtain ⟨ai, ci, rfl⟩ := RImps.form r2
          obtain ⟨am, cm, rfl⟩ := RMths.form r3
          obtain ⟨ae, ce, rfl⟩ := Src.form r4
          obtain ⟨W, hW⟩ : ∃ W, W = w1.alloc (.cells #[.string ⟨i.name.toArray⟩, .slice af i.fields.length cf, .slice ai i.imports.length ci, .slice am i.methods.length cm, .slice ae i.exports.length ce] 30) := ⟨_, rfl⟩
          have tW : Tch [] w1 W := by rw [hW]; exact (Tch.refl [] w1).alloc _
          have hX : W.heap[w1.heap.size]? = some (.cells #[.string ⟨i.name.toArray⟩, .slice af i.fields.length cf, .slice ai i.imports.length ci, .slice am i.methods.length cm, .slice ae i.exports.length ce] 30 (0, 0)) := by rw [hW]; exact heap_alloc_new _ _
          have hgw : w1.heap.size ≤ w1.heap.size := Nat.le_refl _
          go_upto_region 9 with fail
          rw [← hW]
          clear hW
          generalize hgd : w1.heap.size = g at *
          have hX2 := set7 hX 0 (.string ⟨nm.toArray⟩)
          have tW2 : Tch [] w1 (W.setCell ⟨g, 0, none⟩ (.string ⟨nm.toArray⟩)) := tW.setCell (.inr (by show w1.heap.size ≤ g; omega)) _
          obtain ⟨_, _, _, _, _, hf0, _⟩ := cells5 hX
          go_upto_region 10 with fail
          clear hf0 hgd hgw
          obtain ⟨J, hJ⟩ : ∃ J, J = ({ i with name := nm } : Img) := ⟨_, rfl⟩
          obtain ⟨j1, j2, j3, j4, j5⟩ : J.name = nm ∧ J.fields = i.fields ∧ J.imports = i.imports ∧ J.methods = i.methods ∧ J.exports = i.exports := by rw [hJ]; exact ⟨rfl, rfl, rfl, rfl, rfl⟩
          have hjb : imgB J = true := by rw [hJ]; exact named_right hb HN.out
          have hjz : ImgZ J := by rw [hJ]; exact hz
          have hX3 : (W.setCell ⟨g, 0, none⟩ (.string ⟨nm.toArray⟩)).heap[g]? = some (.cells #[.string ⟨J.name.toArray⟩, .slice af J.fields.length cf, .slice ai J.imports.length ci, .slice am J.methods.length cm, .slice ae J.exports.length ce] 30 (0, 0)) := by rw [j1, j2, j3, j4, j5]; exact hX2
          replace r1 := r1.tch tW2 (by simp)
          replace r2 := r2.tch tW2 (by simp)
          replace r3 := r3.tch tW2 (by simp)
          replace r4 := r4.tch tW2 (by simp)
          have T2 := ht.then (t1.then tW2)
          clear hX2 hX tW2 tW t1 hz hb
          generalize W.setCell ⟨g, 0, none⟩ (.string ⟨nm.toArray⟩) = W2 at *
          rw [← j2] at r1 ⊢
          rw [← j3] at r2 ⊢
          rw [← j4] at r3 ⊢
          rw [← j5] at r4 ⊢
          rw [← j1]
          have HJ1 := Lib.hid j1
          clear j1 j2 j3 j4 j5 hJ
          have hA := tx_Print W2 J _ _ _ _ r1 r2 r3 r4 hjz (hV.tch' T2) (hI.tch T2)
          rw [prRes_yes hjb] at hA
          have HT := Lib.hid (print_back J hjb)
          have hX0 := cellsI hX3 (Tch.refl [] W2)
          go_wp2_with (first | (refine wpList_load_agg rfl 30 (.tmp 5) rfl ⟨g, 0, none⟩ rfl #[.string ⟨J.name.toArray⟩, .slice af J.fields.length cf, .slice ai J.imports.length ci, .slice am J.methods.length cm, .slice ae J.exports.length ce] _ hX0 Tryz.underlying30 rfl (by kernel_rfl) ?_) | fail)
          refine hA.mono ?_
          rintro e w3 ⟨rfl, hsl, t3⟩
          replace hsl := hsl hjb
          clear hA hX0 hjb
          have T3 := T2.then t3
          obtain ⟨mm, hmm⟩ := hM.tch T3
          have hp := tx_Parse w3 (printW J) (by omega) mm hmm (hV.tch' T3)
          rw [HT.out] at hp
          clear HT hmm hsl
          generalize printW J = s at *
          go_wp2_with fail
          refine hp.mono ?_
          rintro e w4 ⟨vf, vi, vm, ve, rfl, i1, i2, i3, i4, zj, t4⟩
          replace i1 : RInts w4 [] vf J.fields := i1
          replace i2 : RImps w4 [] vi J.imports := i2
          replace i3 : RMths w4 [] vm J.methods := i3
          replace i4 : RInts w4 [] ve J.exports := i4
          clear hp
          obtain ⟨bf, df, rfl⟩ := Src.form i1
          obtain ⟨bi, di, rfl⟩ := RImps.form i2
          obtain ⟨bm, dm, rfl⟩ := RMths.form i3
          obtain ⟨be, de, rfl⟩ := Src.form i4
          obtain ⟨V, hVd⟩ : ∃ V, V = w4.alloc (.cells #[.string ⟨J.name.toArray⟩, .slice bf J.fields.length df, .slice bi J.imports.length di, .slice bm J.methods.length dm, .slice be J.exports.length de] 30) := ⟨_, rfl⟩
          have tV : Tch [] w4 V := by rw [hVd]; exact (Tch.refl [] w4).alloc _
          have hY : V.heap[w4.heap.size]? = some (.cells #[.string ⟨J.name.toArray⟩, .slice bf J.fields.length df, .slice bi J.imports.length di, .slice bm J.methods.length dm, .slice be J.exports.length de] 30 (0, 0)) := by rw [hVd]; exact heap_alloc_new _ _
          go_upto_region 12 with fail
          rw [← hVd]
          clear hVd
          generalize w4.heap.size = g2 at *
          have t5 := (t3.then t4).then tV
          have T5 := T2.then t5
          have hK := t5_known V (hM.tch T5) (hV.tch' T5)
          go_wp2_with fail
          refine hK.mono ?_
          rintro e w5 ⟨rfl, t6⟩
          clear hK
          have t56 := t5.then t6
          have tV6 := tV.then t6
          have T6 := T5.then t6
          obtain ⟨x0, x1, x2, x3, x4, _⟩ := cells5 (heapT hX3 t56)
          obtain ⟨y0, y1, y2, y3, y4, _⟩ := cells5 (heapT hY t6)
          have hS := rf_Same w5 J J _ _ _ _ _ _ _ _ (r1.tch t56 (by simp)) (r2.tch t56 (by simp)) (r3.tch t56 (by simp)) (r4.tch t56 (by simp)) (i1.tch tV6 (by simp)) (i2.tch tV6 (by simp)) (i3.tch tV6 (by simp)) (i4.tch tV6 (by simp)) hjz hjz
          have hd : decide (J = J) = true := decide_eq_true rfl
          rw [hd] at hS
          clear hX3 hY i1 i2 i3 i4 r1 r2 r3 r4 t3 t4 t5 t56 tV tV6 T2 T3 hjz zj hd hM hV hI hG T5
          go_wp2_with fail
          refine hS.mono ?_
          rintro e w7 ⟨rfl, t7⟩
          have T7 := T6.then t7
          clear hS x0 x1 x2 x3 x4 y0 y1 y2 y3 y4
          go_wp2_with fail
          go_ret
          exact ⟨rfl, T7⟩
end Go.Proofs.YteebapopeaafhaaGreatDoor
