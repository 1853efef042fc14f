/-
  STATEMENT PROVED: TextBack: what is printed is parsed to the same, with notes, blanks and empty lines between, too. Conditions: none beside the statement's own (a tied card).
-/
import Derived.Test.YteebapopeaafhaaGreatDoorHTpB
import Derived.Test.YteebapopeaafhaaGreatDoorHItw
import Derived.Test.YteebapopeaafhaaGreatDoorHValT
import Derived.Test.YteebapopeaafhaaGreatDoorTie
import Derived.Test.YteebapopeaafhaaGreatDoorCards
import Derived.SevenTiedAt
import Derived.LaidMore
import Derived.LaidHandle
import Derived.MakeChecks
import Derived.Lay
import Derived.Lib.LaidTab
import Derived.Stop.Joined
namespace Go.Proofs.YteebapopeaafhaaGreatDoor.textBack
open Go.ChangeShapes Go.WideShapes Go.ChangeAt Go.RowKit Go.Tcn
set_option linter.unusedVariables false
set_option linter.unusedSimpArgs false
theorem own : ownKnob Tryz.prog.godebug = none := by kernel_rfl
theorem laidOut : laidOutB Tryz.prog = true := by kernel_rfl
theorem recs : ∀ t ∈ Tryz.f7.params.toList, Tryz.prog.readableRec t = true ∧ t < Tryz.prog.types.size := by
  rw [Tryz.params7]
  intro t ht
  simp at ht
  rcases ht with rfl | rfl | rfl
  all_goals exact ⟨by kernel_rfl, of_decide_eq_true (by kernel_rfl)⟩
theorem results : Tryz.f7.resultTypes = #[4] := by kernel_rfl
theorem gBins : Tryz.prog.globalNamed "taciturn/taciturnhand.bins" = some 2 := by kernel_rfl
theorem tBins : (Tryz.prog.globals[2]?).map (·.type) = some 144 := by kernel_rfl
def tab : List Int := [6, 7, 8, 9, 10, 11, 12, 13, 14, 19, 20, 21]
theorem laid_in {W : World} (h : laidMetH Tryz.prog Rows.textBackRow.laid W) : laidMet Tryz.prog [("math/bits.deBruijn32tab", Rows.laid_math_bits_deBruijn32tab), ("math/bits.deBruijn64tab", Rows.laid_math_bits_deBruijn64tab), ("internal/strconv.uint64pow10", Lib.tabData .u64 Lib.pow10Tab), ("unicode/utf8.acceptRanges", Rows.laid_unicode_utf8_acceptRanges), ("taciturn/taciturnhand.bins", Lib.tabData .i64 tab), ("unicode/utf8.first", Rows.laid_unicode_utf8_first)] W := by
  rw [MakeChecks.laidMetH_plain _ _ _ (by kernel_rfl)] at h
  exact h
theorem tabs_in {W : World} (h : laidMetH Tryz.prog Rows.textBackRow.laid W) : Lib.Utf8Tabs 0 1 W :=
  tabs_of W (Lib.laidMet.reads (laid_in h) (.tail _ (.tail _ (.tail _ (.tail _ (.tail _ (.head _))))))) (Lib.laidMet.reads (laid_in h) (.tail _ (.tail _ (.tail _ (.head _)))))
theorem itoa_in {W : World} (h : laidMetH Tryz.prog Rows.textBackRow.laid W) : ItoC Tryz.prog 37 W :=
  pow_of (Lib.laidMet.reads (laid_in h) (.tail _ (.tail _ (.head _))))
theorem bins_of {W : World} (h : laidMetH Tryz.prog Rows.textBackRow.laid W) : Bins W 2 := by
  have hr := Lib.laidMet.reads (laid_in h) (.tail _ (.tail _ (.tail _ (.tail _ (.head _)))))
  have ht : Lib.TabIs Tryz.prog W "taciturn/taciturnhand.bins" .i64 tab := by
    obtain ⟨g', t', cs, fuel, p, hg', ht', hvar, hd⟩ := hr
    obtain rfl := Option.some.inj (gBins.symm.trans hg')
    obtain rfl := Option.some.inj (tBins.symm.trans ht')
    unfold Lib.TabIs
    rw [hvar, ← Lib.cells_of_tab Tryz.underlying144 Tryz.underlying3 (by kernel_rfl) (by kernel_rfl) hd]
  intro j hj
  have hc := Lib.TabIs.cell ht gBins j hj
  refine ⟨tab.getD j 0, ?_, hc⟩
  have hall : ∀ j, j < 12 → (6 ≤ tab.getD j 0 ∧ tab.getD j 0 ≤ 14 ∨ 19 ≤ tab.getD j 0 ∧ tab.getD j 0 ≤ 21) := by decide
  exact hall j hj
theorem wf_i64 {n : Int} (h : (Lit.int .i64 n).wf = true) : -9223372036854775808 ≤ n ∧ n ≤ 9223372036854775807 := by
  simp [Lit.wf, IntKind.min, IntKind.max, IntKind.signed, IntKind.bits] at h
  exact h
theorem textBack_reach_b : Tryz.prog.bytesOf 101 = 32 := by kernel_rfl
theorem textBack_reach {H : Type} {d0 d1 d2 : DataW H} (hsz : (DataW.weightsEach Tryz.prog ((#[3, 22, 23] : Array TypeId).toList ++ Rows.textBackSpec.plain.varTypes Tryz.prog) (d0 :: d1 :: d2 :: [] ++ [])).all (· ≤ reachBytes) = true) : dlen d1 ≤ 5000000000000 := by
  cases d1 with
  | slice elems spare =>
    have := sized_slice hsz (j := 1) (t := 22) (e := 101) rfl rfl Tryz.underlying22
    rw [textBack_reach_b] at this
    simp only [reachBytes] at this
    simp only [dlen]
    omega
  | _ => simp [dlen]
set_option maxRecDepth 100000 in
theorem lifted (os : Os) (started : os.Started) (H : Type) (enc : TypeId × Value → H) :
    ReturnsInHanded {} Tryz.checked os 7 .any (fun w args => (Rows.textBackSpec.pre enc Tryz.prog Tryz.f7 [] false w args ∧ laidMetH Tryz.prog Rows.textBackRow.laid w) ∧ sizedMet enc Tryz.prog Tryz.f7 (OpenSpec.ofChange Rows.textBackSpec) false w args)
      (Rows.textBackSpec.post enc Tryz.prog Tryz.f7 false true false false) := by
  refine handed_and_shaped (C := Tryz.checked) (X := fun w _ => laidMetH Tryz.prog Rows.textBackRow.laid w) (fun _ _ _ hh h => h.of_heap hh) own started (by kernel_rfl) Tryz.func7
    (ChangeSpec.witness_shaped (enc := enc) (C := Tryz.checked) (os := os) (X := fun w _ => laidMetH Tryz.prog Rows.textBackRow.laid w) false (World.laidAll Tryz.prog os Rows.textBackRow.laid) #[.int .i64 0, .slice none 0 0, .slice none 0 0] 8 (World.laidAll_os _ _ _) (World.shaped_of_ZipB (by kernel_rfl) (by kernel_rfl)) (by kernel_rfl) (by kernel_rfl) (by kernel_rfl) (by rw [MakeChecks.laidMetH_plain _ _ _ (by kernel_rfl)]; exact laidMet_laidAll _ (by kernel_rfl) (by kernel_rfl))) ?_
  intro W base args ds gs before hval0 hW _ hsz0 hL hsh _
  have hB := bins_of hL
  have hVV := valid_of W (tabs_in hL)
  have hMM := maxC_of hsh
  have hII := itoa_in hL
  have hval : ∀ (j : Nat) t v, Tryz.f7.params[j]? = some t → args[j]? = some v → Value.okWide Tryz.prog W .any base t v := hval0
  have hW' := hW
  obtain ⟨p, q, hA0, hV, rfl, hfz, hnd⟩ := hW
  have hA : DataW.TrodAll enc Tryz.prog W 0 (fun _ => true) true Tryz.f7.params.toList args.toList ds p := hA0
  have hsz : (DataW.weightsEach Tryz.prog (Tryz.f7.params.toList ++ Rows.textBackSpec.plain.varTypes Tryz.prog) (ds ++ gs)).all (· ≤ reachBytes) = true := hsz0
  rw [Tryz.params7] at hA hval hsz
  obtain ⟨v0, vs0, d0, ds0, p0, q0, hargs, rfl, rfl, h0, r0⟩ := trodAll_cons hA
  obtain ⟨v1, vs1, d1, ds1, p1, q1, rfl, rfl, rfl, h1, r1⟩ := trodAll_cons r0
  obtain ⟨v2, vs2, d2, ds2, p2, q2, rfl, rfl, rfl, h2, r2⟩ := trodAll_cons r1
  obtain ⟨rfl, rfl, rfl⟩ := trodAll_nil r2
  obtain rfl : args = #[v0, v1, v2] := by cases args; simp_all
  obtain ⟨rfl, rfl⟩ := trodVars_none hV
  obtain ⟨a0, rfl, rfl, rfl, wf0⟩ := open_int Tryz.underlying3 (hval 0 3 v0 rfl rfl) h0
  have w0 := wf_i64 wf0
  obtain ⟨a1, len1, cap1, rfl⟩ := okWide_slice Tryz.underlying22 (hval 1 22 v1 rfl rfl)
  obtain ⟨fuel1, hf1⟩ := h1
  obtain ⟨l1, hl1⟩ := open_raws hf1
  have hcp1 := open_raws_cap hf1
  have hle1 := open_raws_len hf1 l1 hl1
  obtain ⟨a2, len2, cap2, rfl⟩ := okWide_slice Tryz.underlying23 (hval 2 23 v2 rfl rfl)
  obtain ⟨fuel2, hf2⟩ := h2
  obtain ⟨l2, hl2, hI2, hm2⟩ := open_intz hf2
  refine (law5_TextBack W hB a0 w0 _ l1 hl1 (by have := textBack_reach hsz; omega) hcp1 _ l2 hl2 hI2 hm2 hMM hVV hII).mono fun e W' ⟨he, hg⟩ => ?_
  subst he
  exact ⟨_, rfl, law_post laidOut recs results Tryz.underlying4 rfl hW' rfl rfl rfl hg⟩
theorem row_holds : Rows.TextBackSaid :=
  OpenClaim.holds_of_wide 7 Tryz.f7 rfl rfl rfl rfl rfl rfl rfl ⟨rfl, rfl, rfl, rfl, rfl⟩ rfl rfl rfl rfl rfl (by kernel_rfl) Tryz.func7 (by kernel_rfl)
    (of_decide_eq_true (by kernel_rfl)) (by unfold Func.isWrapper; first | (rw [if_pos (by decide +kernel)]; kernel_rfl) | (rw [if_neg (by decide +kernel)]; exact ⟨rfl, rfl⟩))
    (fun os started H enc _ => lifted os started H enc)
theorem proved : Rows.TextBackCardSaid :=
  Claim7.holds_tied_plain_at .later [] [.data, .data, .data, .data, .data, .pinned] true (true, "e3c0eebf6111878957ccb342e6781554c1ceb6a143c30b02f2b8f59be995fc0e") false
    row_holds (fun _ h => by cases h) (by kernel_rfl) (fun _ h => by cases h) textBack_row_tie rfl ⟨rfl, rfl⟩ (by kernel_rfl) rfl
    (fun f fn hf hfn => by
      obtain rfl : f = 7 := Option.some.inj ((show Tryz.prog.funcNamed "taciturn/taciturnlaw5.TextBack" = some 7 by kernel_rfl).symm.trans hf) |>.symm
      obtain rfl : fn = Tryz.f7 := (Option.some.inj (Tryz.func7.symm.trans hfn)).symm
      exact ⟨by kernel_rfl, fun j t ht => by
        rw [Tryz.params7] at ht
        have hm : t ∈ [3, 22, 23] := by simpa using Array.mem_of_getElem? ht
        have hall : ([3, 22, 23].all fun u => !Tryz.prog.wantsStandIn u) = true := by kernel_rfl
        exact (show Tryz.prog.wantsStandIn t = false by simpa using List.all_eq_true.1 hall t hm)⟩)
    (by kernel_rfl)
#print axioms proved
end Go.Proofs.YteebapopeaafhaaGreatDoor.textBack
