/-
  STATEMENT PROVED: ImageSame: which images are the same is as the document says. Conditions: none beside the statement's own (a tied card).
-/
import Derived.Test.YtapephelfijcbaaDoorHImz
import Derived.Test.YtapephelfijcbaaDoorHVal
import Derived.Test.YtapephelfijcbaaDoorTie
import Derived.Test.YtapephelfijcbaaDoorCards
import Derived.SevenTiedAt
import Derived.LaidMore
import Derived.LaidHandle
import Derived.MakeChecks
import Derived.Lay
import Derived.Lib.LaidTab
import Derived.Stop.Joined
namespace Go.Proofs.YtapephelfijcbaaDoor.imageSame
open Go.ChangeShapes Go.WideShapes Go.ChangeAt Go.RowKit Go.Tcn
set_option linter.unusedVariables false
set_option linter.unusedSimpArgs false
theorem own : ownKnob Tryd.prog.godebug = none := by kernel_rfl
theorem laidOut : laidOutB Tryd.prog = true := by kernel_rfl
theorem recs : ∀ t ∈ Tryd.f7.params.toList, Tryd.prog.readableRec t = true ∧ t < Tryd.prog.types.size := by
  rw [Tryd.params7]
  intro t ht
  simp at ht
  rcases ht with rfl | rfl | rfl | rfl | rfl | rfl | rfl | rfl
  all_goals exact ⟨by kernel_rfl, of_decide_eq_true (by kernel_rfl)⟩
theorem results : Tryd.f7.resultTypes = #[4] := by kernel_rfl
theorem gBins : Tryd.prog.globalNamed "taciturn/taciturnhand.bins" = some 2 := by kernel_rfl
theorem tBins : (Tryd.prog.globals[2]?).map (·.type) = some 131 := by kernel_rfl
def tab : List Int := [6, 7, 8, 9, 10, 11, 12, 13, 14, 19, 20, 21]
theorem laid_in {W : World} (h : laidMetH Tryd.prog Rows.imageSameRow.laid W) : laidMet Tryd.prog [("unicode/utf8.acceptRanges", Rows.laid_unicode_utf8_acceptRanges), ("taciturn/taciturnhand.bins", Lib.tabData .i64 tab), ("unicode/utf8.first", Rows.laid_unicode_utf8_first)] W := by
  rw [MakeChecks.laidMetH_plain _ _ _ (by kernel_rfl)] at h
  exact h
theorem tabs_in {W : World} (h : laidMetH Tryd.prog Rows.imageSameRow.laid W) : Lib.Utf8Tabs 0 1 W :=
  tabs_of W (Lib.laidMet.reads (laid_in h) (.tail _ (.tail _ (.head _)))) (Lib.laidMet.reads (laid_in h) (.head _))
theorem bins_of {W : World} (h : laidMetH Tryd.prog Rows.imageSameRow.laid W) : Bins W 2 := by
  have hr := Lib.laidMet.reads (laid_in h) (.tail _ (.head _))
  have ht : Lib.TabIs Tryd.prog W "taciturn/taciturnhand.bins" .i64 tab := by
    obtain ⟨g', t', cs, fuel, p, hg', ht', hvar, hd⟩ := hr
    obtain rfl := Option.some.inj (gBins.symm.trans hg')
    obtain rfl := Option.some.inj (tBins.symm.trans ht')
    unfold Lib.TabIs
    rw [hvar, ← Lib.cells_of_tab Tryd.underlying131 Tryd.underlying3 (by kernel_rfl) (by kernel_rfl) hd]
  intro j hj
  have hc := Lib.TabIs.cell ht gBins j hj
  refine ⟨tab.getD j 0, ?_, hc⟩
  have hall : ∀ j, j < 12 → (6 ≤ tab.getD j 0 ∧ tab.getD j 0 ≤ 14 ∨ 19 ≤ tab.getD j 0 ∧ tab.getD j 0 ≤ 21) := by decide
  exact hall j hj
theorem wf_i64 {n : Int} (h : (Lit.int .i64 n).wf = true) : -9223372036854775808 ≤ n ∧ n ≤ 9223372036854775807 := by
  simp [Lit.wf, IntKind.min, IntKind.max, IntKind.signed, IntKind.bits] at h
  exact h
theorem imageSame_reach_b : Tryd.prog.bytesOf 114 = 32 := by kernel_rfl
theorem imageSame_reach {H : Type} {d0 d1 d2 d3 d4 d5 d6 d7 : DataW H} (hsz : (DataW.weightsEach Tryd.prog ((#[3, 3, 37, 37, 3, 3, 3, 4] : Array TypeId).toList ++ Rows.imageSameSpec.plain.varTypes Tryd.prog) (d0 :: d1 :: d2 :: d3 :: d4 :: d5 :: d6 :: d7 :: [] ++ [])).all (· ≤ reachBytes) = true) : dlen d2 ≤ 5000000000000 := by
  cases d2 with
  | slice elems spare =>
    have := sized_slice hsz (j := 2) (t := 37) (e := 114) rfl rfl Tryd.underlying37
    rw [imageSame_reach_b] at this
    simp only [reachBytes] at this
    simp only [dlen]
    omega
  | _ => simp [dlen]
theorem imageSame_reach3_b : Tryd.prog.bytesOf 114 = 32 := by kernel_rfl
theorem imageSame_reach3 {H : Type} {d0 d1 d2 d3 d4 d5 d6 d7 : DataW H} (hsz : (DataW.weightsEach Tryd.prog ((#[3, 3, 37, 37, 3, 3, 3, 4] : Array TypeId).toList ++ Rows.imageSameSpec.plain.varTypes Tryd.prog) (d0 :: d1 :: d2 :: d3 :: d4 :: d5 :: d6 :: d7 :: [] ++ [])).all (· ≤ reachBytes) = true) : dlen d3 ≤ 5000000000000 := by
  cases d3 with
  | slice elems spare =>
    have := sized_slice hsz (j := 3) (t := 37) (e := 114) rfl rfl Tryd.underlying37
    rw [imageSame_reach3_b] at this
    simp only [reachBytes] at this
    simp only [dlen]
    omega
  | _ => simp [dlen]
set_option maxRecDepth 100000 in
theorem lifted (os : Os) (started : os.Started) (H : Type) (enc : TypeId × Value → H) :
    ReturnsInHanded {} Tryd.checked os 7 .any (fun w args => (Rows.imageSameSpec.pre enc Tryd.prog Tryd.f7 [] false w args ∧ laidMetH Tryd.prog Rows.imageSameRow.laid w) ∧ sizedMet enc Tryd.prog Tryd.f7 (OpenSpec.ofChange Rows.imageSameSpec) false w args)
      (Rows.imageSameSpec.post enc Tryd.prog Tryd.f7 false true false false) := by
  refine returnsInHanded_of_change_and (C := Tryd.checked) (X := fun w _ => laidMetH Tryd.prog Rows.imageSameRow.laid w) (fun _ _ _ hh h => h.of_heap hh) own started (by kernel_rfl) Tryd.func7
    (ChangeSpec.witness_shaped (enc := enc) (C := Tryd.checked) (os := os) (X := fun w _ => laidMetH Tryd.prog Rows.imageSameRow.laid w) false (World.laidAll Tryd.prog os Rows.imageSameRow.laid) #[.int .i64 0, .int .i64 0, .slice none 0 0, .slice none 0 0, .int .i64 0, .int .i64 0, .int .i64 0, .bool false] 8 (World.laidAll_os _ _ _) (World.shaped_of_ZipB (by kernel_rfl) (by kernel_rfl)) (by kernel_rfl) (by kernel_rfl) (by kernel_rfl) (by rw [MakeChecks.laidMetH_plain _ _ _ (by kernel_rfl)]; exact laidMet_laidAll _ (by kernel_rfl) (by kernel_rfl))) ?_
  intro W base args ds gs before hval0 hW _ hsz0 hL _
  have hB := bins_of hL
  have hVV := valid_of W (tabs_in hL)
  have hval : ∀ (j : Nat) t v, Tryd.f7.params[j]? = some t → args[j]? = some v → Value.okWide Tryd.prog W .any base t v := hval0
  have hW' := hW
  obtain ⟨p, q, hA0, hV, rfl, hfz, hnd⟩ := hW
  have hA : DataW.TrodAll enc Tryd.prog W 0 (fun _ => true) true Tryd.f7.params.toList args.toList ds p := hA0
  have hsz : (DataW.weightsEach Tryd.prog (Tryd.f7.params.toList ++ Rows.imageSameSpec.plain.varTypes Tryd.prog) (ds ++ gs)).all (· ≤ reachBytes) = true := hsz0
  rw [Tryd.params7] at hA hval hsz
  obtain ⟨v0, vs0, d0, ds0, p0, q0, hargs, rfl, rfl, h0, r0⟩ := trodAll_cons hA
  obtain ⟨v1, vs1, d1, ds1, p1, q1, rfl, rfl, rfl, h1, r1⟩ := trodAll_cons r0
  obtain ⟨v2, vs2, d2, ds2, p2, q2, rfl, rfl, rfl, h2, r2⟩ := trodAll_cons r1
  obtain ⟨v3, vs3, d3, ds3, p3, q3, rfl, rfl, rfl, h3, r3⟩ := trodAll_cons r2
  obtain ⟨v4, vs4, d4, ds4, p4, q4, rfl, rfl, rfl, h4, r4⟩ := trodAll_cons r3
  obtain ⟨v5, vs5, d5, ds5, p5, q5, rfl, rfl, rfl, h5, r5⟩ := trodAll_cons r4
  obtain ⟨v6, vs6, d6, ds6, p6, q6, rfl, rfl, rfl, h6, r6⟩ := trodAll_cons r5
  obtain ⟨v7, vs7, d7, ds7, p7, q7, rfl, rfl, rfl, h7, r7⟩ := trodAll_cons r6
  obtain ⟨rfl, rfl, rfl⟩ := trodAll_nil r7
  obtain rfl : args = #[v0, v1, v2, v3, v4, v5, v6, v7] := by cases args; simp_all
  obtain ⟨rfl, rfl⟩ := trodVars_none hV
  obtain ⟨a0, rfl, rfl, rfl, wf0⟩ := open_int Tryd.underlying3 (hval 0 3 v0 rfl rfl) h0
  have w0 := wf_i64 wf0
  obtain ⟨a1, rfl, rfl, rfl, wf1⟩ := open_int Tryd.underlying3 (hval 1 3 v1 rfl rfl) h1
  have w1 := wf_i64 wf1
  obtain ⟨a2, len2, cap2, rfl⟩ := okWide_slice Tryd.underlying37 (hval 2 37 v2 rfl rfl)
  obtain ⟨fuel2, hf2⟩ := h2
  obtain ⟨l2, hl2⟩ := open_raws hf2
  have hcp2 := open_raws_cap hf2
  have hle2 := open_raws_len hf2 l2 hl2
  obtain ⟨a3, len3, cap3, rfl⟩ := okWide_slice Tryd.underlying37 (hval 3 37 v3 rfl rfl)
  obtain ⟨fuel3, hf3⟩ := h3
  obtain ⟨l3, hl3⟩ := open_raws hf3
  have hcp3 := open_raws_cap hf3
  have hle3 := open_raws_len hf3 l3 hl3
  obtain ⟨a4, rfl, rfl, rfl, wf4⟩ := open_int Tryd.underlying3 (hval 4 3 v4 rfl rfl) h4
  have w4 := wf_i64 wf4
  obtain ⟨a5, rfl, rfl, rfl, wf5⟩ := open_int Tryd.underlying3 (hval 5 3 v5 rfl rfl) h5
  have w5 := wf_i64 wf5
  obtain ⟨a6, rfl, rfl, rfl, wf6⟩ := open_int Tryd.underlying3 (hval 6 3 v6 rfl rfl) h6
  have w6 := wf_i64 wf6
  obtain ⟨b7, rfl, rfl, rfl⟩ := open_bool Tryd.underlying4 (hval 7 4 v7 rfl rfl) h7
  refine (law4_ImageSame W hB a0 a1 w0 w1 _ l2 hl2 (by have := imageSame_reach hsz; omega) hcp2 _ l3 hl3 (by have := imageSame_reach3 hsz; omega) hcp3 a4 a5 a6 w4 w5 w6 b7 hVV).mono fun e W' ⟨he, hg⟩ => ?_
  subst he
  exact ⟨_, rfl, law_post laidOut recs results Tryd.underlying4 rfl hW' rfl rfl rfl hg⟩
theorem row_holds : Rows.ImageSameSaid :=
  OpenClaim.holds_of_wide 7 Tryd.f7 rfl rfl rfl rfl rfl rfl rfl ⟨rfl, rfl, rfl, rfl, rfl⟩ rfl rfl rfl rfl rfl (by kernel_rfl) Tryd.func7 (by kernel_rfl)
    (of_decide_eq_true (by kernel_rfl)) (by unfold Func.isWrapper; first | (rw [if_pos (by decide +kernel)]; kernel_rfl) | (rw [if_neg (by decide +kernel)]; exact ⟨rfl, rfl⟩))
    (fun os started H enc _ => lifted os started H enc)
theorem proved : Rows.ImageSameCardSaid :=
  Claim7.holds_tied_plain_at .later [] [.data, .data, .pinned] true (true, "fd1cee7832732002dd1daf2de8e08e164cec44e56152f0d0792bde29cdb619b6") false
    row_holds (fun _ h => by cases h) (by kernel_rfl) (fun _ h => by cases h) imageSame_row_tie rfl ⟨rfl, rfl⟩ (by kernel_rfl) rfl
    (fun f fn hf hfn => by
      obtain rfl : f = 7 := Option.some.inj ((show Tryd.prog.funcNamed "taciturn/taciturnlaw4.ImageSame" = some 7 by kernel_rfl).symm.trans hf) |>.symm
      obtain rfl : fn = Tryd.f7 := (Option.some.inj (Tryd.func7.symm.trans hfn)).symm
      exact ⟨by kernel_rfl, fun j t ht => by
        rw [Tryd.params7] at ht
        have hm : t ∈ [3, 3, 37, 37, 3, 3, 3, 4] := by simpa using Array.mem_of_getElem? ht
        have hall : ([3, 3, 37, 37, 3, 3, 3, 4].all fun u => !Tryd.prog.wantsStandIn u) = true := by kernel_rfl
        exact (show Tryd.prog.wantsStandIn t = false by simpa using List.all_eq_true.1 hall t hm)⟩)
    (by kernel_rfl)
#print axioms proved
end Go.Proofs.YtapephelfijcbaaDoor.imageSame
