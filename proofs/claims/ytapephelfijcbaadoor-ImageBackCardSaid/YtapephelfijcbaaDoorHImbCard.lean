/-
  STATEMENT PROVED: ImageBack: what is laid is read back, and what is read is laid as the same bytes. Conditions: none beside the statement's own (a tied card).
-/
import Derived.Test.YtapephelfijcbaaDoorHImb
import Derived.Test.YtapephelfijcbaaDoorHVal
import Derived.Test.YtapephelfijcbaaDoorTie
import Derived.Test.YtapephelfijcbaaDoorCards
import Derived.SevenTiedAt
import Derived.LaidMore
import Derived.LaidHandle
import Derived.MakeChecks
import Derived.Lay
import Derived.Lib.LaidTab
import Derived.Stop.Joined
namespace Go.Proofs.YtapephelfijcbaaDoor.imageBack
open Go.ChangeShapes Go.WideShapes Go.ChangeAt Go.RowKit Go.Tcn
set_option linter.unusedVariables false
set_option linter.unusedSimpArgs false
theorem own : ownKnob Tryd.prog.godebug = none := by kernel_rfl
theorem laidOut : laidOutB Tryd.prog = true := by kernel_rfl
theorem recs : ∀ t ∈ Tryd.f4.params.toList, Tryd.prog.readableRec t = true ∧ t < Tryd.prog.types.size := by
  rw [Tryd.params4]
  intro t ht
  simp at ht
  rcases ht with rfl | rfl | rfl | rfl | rfl | rfl
  all_goals exact ⟨by kernel_rfl, of_decide_eq_true (by kernel_rfl)⟩
theorem results : Tryd.f4.resultTypes = #[4] := by kernel_rfl
theorem gBins : Tryd.prog.globalNamed "taciturn/taciturnhand.bins" = some 2 := by kernel_rfl
theorem tBins : (Tryd.prog.globals[2]?).map (·.type) = some 131 := by kernel_rfl
def tab : List Int := [6, 7, 8, 9, 10, 11, 12, 13, 14, 19, 20, 21]
theorem laid_in {W : World} (h : laidMetH Tryd.prog Rows.imageBackRow.laid W) : laidMet Tryd.prog [("unicode/utf8.acceptRanges", Rows.laid_unicode_utf8_acceptRanges), ("taciturn/taciturnhand.bins", Lib.tabData .i64 tab), ("unicode/utf8.first", Rows.laid_unicode_utf8_first)] W := by
  rw [MakeChecks.laidMetH_plain _ _ _ (by kernel_rfl)] at h
  exact h
theorem tabs_in {W : World} (h : laidMetH Tryd.prog Rows.imageBackRow.laid W) : Lib.Utf8Tabs 0 1 W :=
  tabs_of W (Lib.laidMet.reads (laid_in h) (.tail _ (.tail _ (.head _)))) (Lib.laidMet.reads (laid_in h) (.head _))
theorem bins_of {W : World} (h : laidMetH Tryd.prog Rows.imageBackRow.laid W) : Bins W 2 := by
  have hr := Lib.laidMet.reads (laid_in h) (.tail _ (.head _))
  have ht : Lib.TabIs Tryd.prog W "taciturn/taciturnhand.bins" .i64 tab := by
    obtain ⟨g', t', cs, fuel, p, hg', ht', hvar, hd⟩ := hr
    obtain rfl := Option.some.inj (gBins.symm.trans hg')
    obtain rfl := Option.some.inj (tBins.symm.trans ht')
    unfold Lib.TabIs
    rw [hvar, ← Lib.cells_of_tab Tryd.underlying131 Tryd.underlying3 (by kernel_rfl) (by kernel_rfl) hd]
  intro j hj
  have hc := Lib.TabIs.cell ht gBins j hj
  refine ⟨tab.getD j 0, ?_, hc⟩
  have hall : ∀ j, j < 12 → (6 ≤ tab.getD j 0 ∧ tab.getD j 0 ≤ 14 ∨ 19 ≤ tab.getD j 0 ∧ tab.getD j 0 ≤ 21) := by decide
  exact hall j hj
theorem wf_i64 {n : Int} (h : (Lit.int .i64 n).wf = true) : -9223372036854775808 ≤ n ∧ n ≤ 9223372036854775807 := by
  simp [Lit.wf, IntKind.min, IntKind.max, IntKind.signed, IntKind.bits] at h
  exact h
theorem bytes_of_u8 : Tryd.prog.bytesOf 5 = 1 := by kernel_rfl
theorem imageBack_reach_b : Tryd.prog.bytesOf 114 = 32 := by kernel_rfl
theorem imageBack_reach {H : Type} {d0 d1 d2 d3 d4 d5 : DataW H} (hsz : (DataW.weightsEach Tryd.prog ((#[3, 37, 3, 3, 3, 30] : Array TypeId).toList ++ Rows.imageBackSpec.plain.varTypes Tryd.prog) (d0 :: d1 :: d2 :: d3 :: d4 :: d5 :: [] ++ [])).all (· ≤ reachBytes) = true) : dlen d1 ≤ 5000000000000 := by
  cases d1 with
  | slice elems spare =>
    have := sized_slice hsz (j := 1) (t := 37) (e := 114) rfl rfl Tryd.underlying37
    rw [imageBack_reach_b] at this
    simp only [reachBytes] at this
    simp only [dlen]
    omega
  | _ => simp [dlen]
theorem imageBack_reach5 {H : Type} {d0 d1 d2 d3 d4 d5 : DataW H} (hsz : (DataW.weightsEach Tryd.prog ((#[3, 37, 3, 3, 3, 30] : Array TypeId).toList ++ Rows.imageBackSpec.plain.varTypes Tryd.prog) (d0 :: d1 :: d2 :: d3 :: d4 :: d5 :: [] ++ [])).all (· ≤ reachBytes) = true) : dlen d5 ≤ 140737488355328 := by
  cases d5 with
  | slice elems spare =>
    have := sized_slice hsz (j := 5) (t := 30) (e := 5) rfl rfl Tryd.underlying30
    rw [bytes_of_u8] at this
    simp only [reachBytes] at this
    simp only [dlen]
    omega
  | _ => simp [dlen]
set_option maxRecDepth 100000 in
theorem lifted (os : Os) (started : os.Started) (H : Type) (enc : TypeId × Value → H) :
    ReturnsInHanded {} Tryd.checked os 4 .any (fun w args => (Rows.imageBackSpec.pre enc Tryd.prog Tryd.f4 [] false w args ∧ laidMetH Tryd.prog Rows.imageBackRow.laid w) ∧ sizedMet enc Tryd.prog Tryd.f4 (OpenSpec.ofChange Rows.imageBackSpec) false w args)
      (Rows.imageBackSpec.post enc Tryd.prog Tryd.f4 false true false false) := by
  refine returnsInHanded_of_change_and (C := Tryd.checked) (X := fun w _ => laidMetH Tryd.prog Rows.imageBackRow.laid w) (fun _ _ _ hh h => h.of_heap hh) own started (by kernel_rfl) Tryd.func4
    (ChangeSpec.witness_shaped (enc := enc) (C := Tryd.checked) (os := os) (X := fun w _ => laidMetH Tryd.prog Rows.imageBackRow.laid w) false (World.laidAll Tryd.prog os Rows.imageBackRow.laid) #[.int .i64 0, .slice none 0 0, .int .i64 0, .int .i64 0, .int .i64 0, .slice none 0 0] 8 (World.laidAll_os _ _ _) (World.shaped_of_ZipB (by kernel_rfl) (by kernel_rfl)) (by kernel_rfl) (by kernel_rfl) (by kernel_rfl) (by rw [MakeChecks.laidMetH_plain _ _ _ (by kernel_rfl)]; exact laidMet_laidAll _ (by kernel_rfl) (by kernel_rfl))) ?_
  intro W base args ds gs before hval0 hW _ hsz0 hL _
  have hB := bins_of hL
  have hVV := valid_of W (tabs_in hL)
  have hval : ∀ (j : Nat) t v, Tryd.f4.params[j]? = some t → args[j]? = some v → Value.okWide Tryd.prog W .any base t v := hval0
  have hW' := hW
  obtain ⟨p, q, hA0, hV, rfl, hfz, hnd⟩ := hW
  have hA : DataW.TrodAll enc Tryd.prog W 0 (fun _ => true) true Tryd.f4.params.toList args.toList ds p := hA0
  have hsz : (DataW.weightsEach Tryd.prog (Tryd.f4.params.toList ++ Rows.imageBackSpec.plain.varTypes Tryd.prog) (ds ++ gs)).all (· ≤ reachBytes) = true := hsz0
  rw [Tryd.params4] at hA hval hsz
  obtain ⟨v0, vs0, d0, ds0, p0, q0, hargs, rfl, rfl, h0, r0⟩ := trodAll_cons hA
  obtain ⟨v1, vs1, d1, ds1, p1, q1, rfl, rfl, rfl, h1, r1⟩ := trodAll_cons r0
  obtain ⟨v2, vs2, d2, ds2, p2, q2, rfl, rfl, rfl, h2, r2⟩ := trodAll_cons r1
  obtain ⟨v3, vs3, d3, ds3, p3, q3, rfl, rfl, rfl, h3, r3⟩ := trodAll_cons r2
  obtain ⟨v4, vs4, d4, ds4, p4, q4, rfl, rfl, rfl, h4, r4⟩ := trodAll_cons r3
  obtain ⟨v5, vs5, d5, ds5, p5, q5, rfl, rfl, rfl, h5, r5⟩ := trodAll_cons r4
  obtain ⟨rfl, rfl, rfl⟩ := trodAll_nil r5
  obtain rfl : args = #[v0, v1, v2, v3, v4, v5] := by cases args; simp_all
  obtain ⟨rfl, rfl⟩ := trodVars_none hV
  obtain ⟨a0, rfl, rfl, rfl, wf0⟩ := open_int Tryd.underlying3 (hval 0 3 v0 rfl rfl) h0
  have w0 := wf_i64 wf0
  obtain ⟨a1, len1, cap1, rfl⟩ := okWide_slice Tryd.underlying37 (hval 1 37 v1 rfl rfl)
  obtain ⟨fuel1, hf1⟩ := h1
  obtain ⟨l1, hl1⟩ := open_raws hf1
  have hcp1 := open_raws_cap hf1
  have hle1 := open_raws_len hf1 l1 hl1
  obtain ⟨a2, rfl, rfl, rfl, wf2⟩ := open_int Tryd.underlying3 (hval 2 3 v2 rfl rfl) h2
  have w2 := wf_i64 wf2
  obtain ⟨a3, rfl, rfl, rfl, wf3⟩ := open_int Tryd.underlying3 (hval 3 3 v3 rfl rfl) h3
  have w3 := wf_i64 wf3
  obtain ⟨a4, rfl, rfl, rfl, wf4⟩ := open_int Tryd.underlying3 (hval 4 3 v4 rfl rfl) h4
  have w4 := wf_i64 wf4
  obtain ⟨a5, len5, cap5, rfl⟩ := okWide_slice Tryd.underlying30 (hval 5 30 v5 rfl rfl)
  obtain ⟨fuel5, hf5⟩ := h5
  obtain ⟨l5, hs5, hb5, hl5, hm5⟩ := open_src_bytes Tryd.underlying30 Tryd.underlying5 cells_u8 hf5
  refine (law4_ImageBack W hB a0 w0 _ l1 hl1 (by have := imageBack_reach hsz; omega) hcp1 a2 a3 a4 w2 w3 w4 _ l5 hs5 hb5 (by have := imageBack_reach5 hsz; omega) hVV).mono fun e W' ⟨he, hg⟩ => ?_
  subst he
  exact ⟨_, rfl, law_post laidOut recs results Tryd.underlying4 rfl hW' rfl rfl rfl hg⟩
theorem row_holds : Rows.ImageBackSaid :=
  OpenClaim.holds_of_wide 4 Tryd.f4 rfl rfl rfl rfl rfl rfl rfl ⟨rfl, rfl, rfl, rfl, rfl⟩ rfl rfl rfl rfl rfl (by kernel_rfl) Tryd.func4 (by kernel_rfl)
    (of_decide_eq_true (by kernel_rfl)) (by unfold Func.isWrapper; first | (rw [if_pos (by decide +kernel)]; kernel_rfl) | (rw [if_neg (by decide +kernel)]; exact ⟨rfl, rfl⟩))
    (fun os started H enc _ => lifted os started H enc)
theorem proved : Rows.ImageBackCardSaid :=
  Claim7.holds_tied_plain_at .later [] [.data, .data, .pinned] true (true, "fd1cee7832732002dd1daf2de8e08e164cec44e56152f0d0792bde29cdb619b6") false
    row_holds (fun _ h => by cases h) (by kernel_rfl) (fun _ h => by cases h) imageBack_row_tie rfl ⟨rfl, rfl⟩ (by kernel_rfl) rfl
    (fun f fn hf hfn => by
      obtain rfl : f = 4 := Option.some.inj ((show Tryd.prog.funcNamed "taciturn/taciturnlaw4.ImageBack" = some 4 by kernel_rfl).symm.trans hf) |>.symm
      obtain rfl : fn = Tryd.f4 := (Option.some.inj (Tryd.func4.symm.trans hfn)).symm
      exact ⟨by kernel_rfl, fun j t ht => by
        rw [Tryd.params4] at ht
        have hm : t ∈ [3, 37, 3, 3, 3, 30] := by simpa using Array.mem_of_getElem? ht
        have hall : ([3, 37, 3, 3, 3, 30].all fun u => !Tryd.prog.wantsStandIn u) = true := by kernel_rfl
        exact (show Tryd.prog.wantsStandIn t = false by simpa using List.all_eq_true.1 hall t hm)⟩)
    (by kernel_rfl)
#print axioms proved
end Go.Proofs.YtapephelfijcbaaDoor.imageBack
