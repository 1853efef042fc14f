/-
  STATEMENT PROVED: ImageReads: any bytes are an applet, or refused, as the document says. Conditions: none beside the statement's own (a tied card).
-/
import Derived.Test.YtapephelfijcbaaGreatDoorHIrd
import Derived.Test.YtapephelfijcbaaGreatDoorHVal
import Derived.Test.YtapephelfijcbaaGreatDoorTie
import Derived.Test.YtapephelfijcbaaGreatDoorCards
import Derived.SevenTiedAt
import Derived.LaidMore
import Derived.LaidHandle
import Derived.MakeChecks
import Derived.Lay
import Derived.Lib.LaidTab
import Derived.Stop.Joined
namespace Go.Proofs.YtapephelfijcbaaGreatDoor.imageReads
open Go.ChangeShapes Go.WideShapes Go.ChangeAt Go.RowKit Go.Tcn
set_option linter.unusedVariables false
set_option linter.unusedSimpArgs false
theorem own : ownKnob Tryz.prog.godebug = none := by kernel_rfl
theorem laidOut : laidOutB Tryz.prog = true := by kernel_rfl
theorem recs : ∀ t ∈ Tryz.f4.params.toList, Tryz.prog.readableRec t = true ∧ t < Tryz.prog.types.size := by
  rw [Tryz.params4]
  intro t ht
  simp at ht
  rcases ht with rfl | rfl | rfl | rfl | rfl | rfl
  all_goals exact ⟨by kernel_rfl, of_decide_eq_true (by kernel_rfl)⟩
theorem results : Tryz.f4.resultTypes = #[4] := by kernel_rfl
theorem gBins : Tryz.prog.globalNamed "taciturn/taciturnhand.bins" = some 2 := by kernel_rfl
theorem tBins : (Tryz.prog.globals[2]?).map (·.type) = some 139 := by kernel_rfl
def tab : List Int := [6, 7, 8, 9, 10, 11, 12, 13, 14, 19, 20, 21]
theorem laid_in {W : World} (h : laidMetH Tryz.prog Rows.imageReadsRow.laid W) : laidMet Tryz.prog [("unicode/utf8.acceptRanges", Rows.laid_unicode_utf8_acceptRanges), ("taciturn/taciturnhand.bins", Lib.tabData .i64 tab), ("unicode/utf8.first", Rows.laid_unicode_utf8_first)] W := by
  rw [MakeChecks.laidMetH_plain _ _ _ (by kernel_rfl)] at h
  exact h
theorem tabs_in {W : World} (h : laidMetH Tryz.prog Rows.imageReadsRow.laid W) : Lib.Utf8Tabs 0 1 W :=
  tabs_of W (Lib.laidMet.reads (laid_in h) (.tail _ (.tail _ (.head _)))) (Lib.laidMet.reads (laid_in h) (.head _))
theorem bins_of {W : World} (h : laidMetH Tryz.prog Rows.imageReadsRow.laid W) : Bins W 2 := by
  have hr := Lib.laidMet.reads (laid_in h) (.tail _ (.head _))
  have ht : Lib.TabIs Tryz.prog W "taciturn/taciturnhand.bins" .i64 tab := by
    obtain ⟨g', t', cs, fuel, p, hg', ht', hvar, hd⟩ := hr
    obtain rfl := Option.some.inj (gBins.symm.trans hg')
    obtain rfl := Option.some.inj (tBins.symm.trans ht')
    unfold Lib.TabIs
    rw [hvar, ← Lib.cells_of_tab Tryz.underlying139 Tryz.underlying3 (by kernel_rfl) (by kernel_rfl) hd]
  intro j hj
  have hc := Lib.TabIs.cell ht gBins j hj
  refine ⟨tab.getD j 0, ?_, hc⟩
  have hall : ∀ j, j < 12 → (6 ≤ tab.getD j 0 ∧ tab.getD j 0 ≤ 14 ∨ 19 ≤ tab.getD j 0 ∧ tab.getD j 0 ≤ 21) := by decide
  exact hall j hj
theorem wf_i64 {n : Int} (h : (Lit.int .i64 n).wf = true) : -9223372036854775808 ≤ n ∧ n ≤ 9223372036854775807 := by
  simp [Lit.wf, IntKind.min, IntKind.max, IntKind.signed, IntKind.bits] at h
  exact h
theorem bytes_of_u8 : Tryz.prog.bytesOf 5 = 1 := by kernel_rfl
theorem imageReads_reach_b : Tryz.prog.bytesOf 112 = 32 := by kernel_rfl
theorem imageReads_reach {H : Type} {d0 d1 d2 d3 d4 d5 : DataW H} (hsz : (DataW.weightsEach Tryz.prog ((#[3, 22, 30, 3, 23, 30] : Array TypeId).toList ++ Rows.imageReadsSpec.plain.varTypes Tryz.prog) (d0 :: d1 :: d2 :: d3 :: d4 :: d5 :: [] ++ [])).all (· ≤ reachBytes) = true) : dlen d1 ≤ 5000000000000 := by
  cases d1 with
  | slice elems spare =>
    have := sized_slice hsz (j := 1) (t := 22) (e := 112) rfl rfl Tryz.underlying22
    rw [imageReads_reach_b] at this
    simp only [reachBytes] at this
    simp only [dlen]
    omega
  | _ => simp [dlen]
theorem imageReads_reach2 {H : Type} {d0 d1 d2 d3 d4 d5 : DataW H} (hsz : (DataW.weightsEach Tryz.prog ((#[3, 22, 30, 3, 23, 30] : Array TypeId).toList ++ Rows.imageReadsSpec.plain.varTypes Tryz.prog) (d0 :: d1 :: d2 :: d3 :: d4 :: d5 :: [] ++ [])).all (· ≤ reachBytes) = true) : dlen d2 ≤ 140737488351232 := by
  cases d2 with
  | slice elems spare =>
    have := sized_slice hsz (j := 2) (t := 30) (e := 5) rfl rfl Tryz.underlying30
    rw [bytes_of_u8] at this
    simp only [reachBytes] at this
    simp only [dlen]
    omega
  | _ => simp [dlen]
theorem imageReads_reach5 {H : Type} {d0 d1 d2 d3 d4 d5 : DataW H} (hsz : (DataW.weightsEach Tryz.prog ((#[3, 22, 30, 3, 23, 30] : Array TypeId).toList ++ Rows.imageReadsSpec.plain.varTypes Tryz.prog) (d0 :: d1 :: d2 :: d3 :: d4 :: d5 :: [] ++ [])).all (· ≤ reachBytes) = true) : dlen d5 ≤ 140737488351232 := by
  cases d5 with
  | slice elems spare =>
    have := sized_slice hsz (j := 5) (t := 30) (e := 5) rfl rfl Tryz.underlying30
    rw [bytes_of_u8] at this
    simp only [reachBytes] at this
    simp only [dlen]
    omega
  | _ => simp [dlen]
set_option maxRecDepth 100000 in
theorem lifted (os : Os) (started : os.Started) (H : Type) (enc : TypeId × Value → H) :
    ReturnsInHanded {} Tryz.checked os 4 .any (fun w args => (Rows.imageReadsSpec.pre enc Tryz.prog Tryz.f4 [] false w args ∧ laidMetH Tryz.prog Rows.imageReadsRow.laid w) ∧ sizedMet enc Tryz.prog Tryz.f4 (OpenSpec.ofChange Rows.imageReadsSpec) false w args)
      (Rows.imageReadsSpec.post enc Tryz.prog Tryz.f4 false true false false) := by
  refine returnsInHanded_of_change_and (C := Tryz.checked) (X := fun w _ => laidMetH Tryz.prog Rows.imageReadsRow.laid w) (fun _ _ _ hh h => h.of_heap hh) own started (by kernel_rfl) Tryz.func4
    (ChangeSpec.witness_shaped (enc := enc) (C := Tryz.checked) (os := os) (X := fun w _ => laidMetH Tryz.prog Rows.imageReadsRow.laid w) false (World.laidAll Tryz.prog os Rows.imageReadsRow.laid) #[.int .i64 0, .slice none 0 0, .slice none 0 0, .int .i64 0, .slice none 0 0, .slice none 0 0] 8 (World.laidAll_os _ _ _) (World.shaped_of_ZipB (by kernel_rfl) (by kernel_rfl)) (by kernel_rfl) (by kernel_rfl) (by kernel_rfl) (by rw [MakeChecks.laidMetH_plain _ _ _ (by kernel_rfl)]; exact laidMet_laidAll _ (by kernel_rfl) (by kernel_rfl))) ?_
  intro W base args ds gs before hval0 hW _ hsz0 hL _
  have hB := bins_of hL
  have hVV := valid_of W (tabs_in hL)
  have hval : ∀ (j : Nat) t v, Tryz.f4.params[j]? = some t → args[j]? = some v → Value.okWide Tryz.prog W .any base t v := hval0
  have hW' := hW
  obtain ⟨p, q, hA0, hV, rfl, hfz, hnd⟩ := hW
  have hA : DataW.TrodAll enc Tryz.prog W 0 (fun _ => true) true Tryz.f4.params.toList args.toList ds p := hA0
  have hsz : (DataW.weightsEach Tryz.prog (Tryz.f4.params.toList ++ Rows.imageReadsSpec.plain.varTypes Tryz.prog) (ds ++ gs)).all (· ≤ reachBytes) = true := hsz0
  rw [Tryz.params4] at hA hval hsz
  obtain ⟨v0, vs0, d0, ds0, p0, q0, hargs, rfl, rfl, h0, r0⟩ := trodAll_cons hA
  obtain ⟨v1, vs1, d1, ds1, p1, q1, rfl, rfl, rfl, h1, r1⟩ := trodAll_cons r0
  obtain ⟨v2, vs2, d2, ds2, p2, q2, rfl, rfl, rfl, h2, r2⟩ := trodAll_cons r1
  obtain ⟨v3, vs3, d3, ds3, p3, q3, rfl, rfl, rfl, h3, r3⟩ := trodAll_cons r2
  obtain ⟨v4, vs4, d4, ds4, p4, q4, rfl, rfl, rfl, h4, r4⟩ := trodAll_cons r3
  obtain ⟨v5, vs5, d5, ds5, p5, q5, rfl, rfl, rfl, h5, r5⟩ := trodAll_cons r4
  obtain ⟨rfl, rfl, rfl⟩ := trodAll_nil r5
  obtain rfl : args = #[v0, v1, v2, v3, v4, v5] := by cases args; simp_all
  obtain ⟨rfl, rfl⟩ := trodVars_none hV
  obtain ⟨a0, rfl, rfl, rfl, wf0⟩ := open_int Tryz.underlying3 (hval 0 3 v0 rfl rfl) h0
  have w0 := wf_i64 wf0
  obtain ⟨a1, len1, cap1, rfl⟩ := okWide_slice Tryz.underlying22 (hval 1 22 v1 rfl rfl)
  obtain ⟨fuel1, hf1⟩ := h1
  obtain ⟨l1, hl1⟩ := open_raws hf1
  have hcp1 := open_raws_cap hf1
  have hle1 := open_raws_len hf1 l1 hl1
  obtain ⟨a2, len2, cap2, rfl⟩ := okWide_slice Tryz.underlying30 (hval 2 30 v2 rfl rfl)
  obtain ⟨fuel2, hf2⟩ := h2
  obtain ⟨l2, hs2, hb2, hl2, hm2⟩ := open_src_bytes Tryz.underlying30 Tryz.underlying5 cells_u8 hf2
  obtain ⟨a3, rfl, rfl, rfl, wf3⟩ := open_int Tryz.underlying3 (hval 3 3 v3 rfl rfl) h3
  have w3 := wf_i64 wf3
  obtain ⟨a4, len4, cap4, rfl⟩ := okWide_slice Tryz.underlying23 (hval 4 23 v4 rfl rfl)
  obtain ⟨fuel4, hf4⟩ := h4
  obtain ⟨l4, hl4, hI4, hm4⟩ := open_intz hf4
  obtain ⟨a5, len5, cap5, rfl⟩ := okWide_slice Tryz.underlying30 (hval 5 30 v5 rfl rfl)
  obtain ⟨fuel5, hf5⟩ := h5
  obtain ⟨l5, hs5, hb5, hl5, hm5⟩ := open_src_bytes Tryz.underlying30 Tryz.underlying5 cells_u8 hf5
  refine (law4_ImageReads W hB a0 w0 _ l1 hl1 (by have := imageReads_reach hsz; omega) hcp1 _ l2 hs2 hb2 (by have := imageReads_reach2 hsz; omega) a3 w3 _ l4 hl4 hI4 hm4 _ l5 hs5 hb5 (by have := imageReads_reach5 hsz; omega) hVV).mono fun e W' ⟨he, hg⟩ => ?_
  subst he
  exact ⟨_, rfl, law_post laidOut recs results Tryz.underlying4 rfl hW' rfl rfl rfl hg⟩
theorem row_holds : Rows.ImageReadsSaid :=
  OpenClaim.holds_of_wide 4 Tryz.f4 rfl rfl rfl rfl rfl rfl rfl ⟨rfl, rfl, rfl, rfl, rfl⟩ rfl rfl rfl rfl rfl (by kernel_rfl) Tryz.func4 (by kernel_rfl)
    (of_decide_eq_true (by kernel_rfl)) (by unfold Func.isWrapper; first | (rw [if_pos (by decide +kernel)]; kernel_rfl) | (rw [if_neg (by decide +kernel)]; exact ⟨rfl, rfl⟩))
    (fun os started H enc _ => lifted os started H enc)
theorem proved : Rows.ImageReadsCardSaid :=
  Claim7.holds_tied_plain_at .later [] [.data, .data, .pinned] true (true, "93c9c524abd719b35033a85fc9c30c8bda1dd9216ddff8c02c27da854ebb36d8") false
    row_holds (fun _ h => by cases h) (by kernel_rfl) (fun _ h => by cases h) imageReads_row_tie rfl ⟨rfl, rfl⟩ (by kernel_rfl) rfl
    (fun f fn hf hfn => by
      obtain rfl : f = 4 := Option.some.inj ((show Tryz.prog.funcNamed "taciturn/taciturnlaw4.ImageReads" = some 4 by kernel_rfl).symm.trans hf) |>.symm
      obtain rfl : fn = Tryz.f4 := (Option.some.inj (Tryz.func4.symm.trans hfn)).symm
      exact ⟨by kernel_rfl, fun j t ht => by
        rw [Tryz.params4] at ht
        have hm : t ∈ [3, 22, 30, 3, 23, 30] := by simpa using Array.mem_of_getElem? ht
        have hall : ([3, 22, 30, 3, 23, 30].all fun u => !Tryz.prog.wantsStandIn u) = true := by kernel_rfl
        exact (show Tryz.prog.wantsStandIn t = false by simpa using List.all_eq_true.1 hall t hm)⟩)
    (by kernel_rfl)
#print axioms proved
end Go.Proofs.YtapephelfijcbaaGreatDoor.imageReads
