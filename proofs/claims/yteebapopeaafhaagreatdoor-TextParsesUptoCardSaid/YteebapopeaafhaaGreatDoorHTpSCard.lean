/-
  STATEMENT PROVED: TextParses: any text is an applet, or refused at a line, as the document says (its second form: what it reads is of bulk at most 1048576). Conditions: none beside the statement's own (a tied card).
-/
import Derived.Test.YteebapopeaafhaaGreatDoorHTpS
import Derived.Test.YteebapopeaafhaaGreatDoorHBulk
import Derived.Test.YteebapopeaafhaaGreatDoorHItw
import Derived.Test.YteebapopeaafhaaGreatDoorHValT
import Derived.Test.YteebapopeaafhaaGreatDoorTie
import Derived.Test.YteebapopeaafhaaGreatDoorCards
import Derived.SevenTiedAt
import Derived.LaidMore
import Derived.LaidHandle
import Derived.MakeChecks
import Derived.Lay
import Derived.Lib.LaidTab
import Derived.Stop.Joined
import Derived.Deep.DeepHandedRow
namespace Go.Proofs.YteebapopeaafhaaGreatDoor.textParses
open Go.ChangeShapes Go.WideShapes Go.ChangeAt Go.RowKit Go.Tcn
set_option linter.unusedVariables false
set_option linter.unusedSimpArgs false
theorem own : ownKnob Tryz.prog.godebug = none := by kernel_rfl
theorem laidOut : laidOutB Tryz.prog = true := by kernel_rfl
theorem recs : ∀ t ∈ Tryz.f3.params.toList, Tryz.prog.readableRec t = true ∧ t < Tryz.prog.types.size := by
  rw [Tryz.params3]
  intro t ht
  simp at ht
  rcases ht with rfl | rfl | rfl | rfl | rfl
  all_goals exact ⟨by kernel_rfl, of_decide_eq_true (by kernel_rfl)⟩
theorem results : Tryz.f3.resultTypes = #[4] := by kernel_rfl
theorem gBins : Tryz.prog.globalNamed "taciturn/taciturnhand.bins" = some 2 := by kernel_rfl
theorem tBins : (Tryz.prog.globals[2]?).map (·.type) = some 144 := by kernel_rfl
def tab : List Int := [6, 7, 8, 9, 10, 11, 12, 13, 14, 19, 20, 21]
theorem laid_in {W : World} (h : laidMetH Tryz.prog Rows.textParsesUptoRow.laid W) : laidMet Tryz.prog [("unicode/utf8.acceptRanges", Rows.laid_unicode_utf8_acceptRanges), ("taciturn/taciturnhand.bins", Lib.tabData .i64 tab), ("unicode/utf8.first", Rows.laid_unicode_utf8_first)] W := by
  rw [MakeChecks.laidMetH_plain _ _ _ (by kernel_rfl)] at h
  exact h
theorem tabs_in {W : World} (h : laidMetH Tryz.prog Rows.textParsesUptoRow.laid W) : Lib.Utf8Tabs 0 1 W :=
  tabs_of W (Lib.laidMet.reads (laid_in h) (.tail _ (.tail _ (.head _)))) (Lib.laidMet.reads (laid_in h) (.head _))
theorem bins_of {W : World} (h : laidMetH Tryz.prog Rows.textParsesUptoRow.laid W) : Bins W 2 := by
  have hr := Lib.laidMet.reads (laid_in h) (.tail _ (.head _))
  have ht : Lib.TabIs Tryz.prog W "taciturn/taciturnhand.bins" .i64 tab := by
    obtain ⟨g', t', cs, fuel, p, hg', ht', hvar, hd⟩ := hr
    obtain rfl := Option.some.inj (gBins.symm.trans hg')
    obtain rfl := Option.some.inj (tBins.symm.trans ht')
    unfold Lib.TabIs
    rw [hvar, ← Lib.cells_of_tab Tryz.underlying144 Tryz.underlying3 (by kernel_rfl) (by kernel_rfl) hd]
  intro j hj
  have hc := Lib.TabIs.cell ht gBins j hj
  refine ⟨tab.getD j 0, ?_, hc⟩
  have hall : ∀ j, j < 12 → (6 ≤ tab.getD j 0 ∧ tab.getD j 0 ≤ 14 ∨ 19 ≤ tab.getD j 0 ∧ tab.getD j 0 ≤ 21) := by decide
  exact hall j hj
theorem wf_i64 {n : Int} (h : (Lit.int .i64 n).wf = true) : -9223372036854775808 ≤ n ∧ n ≤ 9223372036854775807 := by
  simp [Lit.wf, IntKind.min, IntKind.max, IntKind.signed, IntKind.bits] at h
  exact h
theorem textParses_reach_b : Tryz.prog.bytesOf 101 = 32 := by kernel_rfl
theorem textParses_reach {H : Type} {d0 d1 d2 d3 d4 : DataW H} (hsz : (DataW.weightsEach Tryz.prog ((#[3, 22, 9, 4, 23] : Array TypeId).toList ++ Rows.textParsesSpec.plain.varTypes Tryz.prog) (d0 :: d1 :: d2 :: d3 :: d4 :: [] ++ [])).all (· ≤ reachBytes) = true) : dlen d1 ≤ 5000000000000 := by
  cases d1 with
  | slice elems spare =>
    have := sized_slice hsz (j := 1) (t := 22) (e := 101) rfl rfl Tryz.underlying22
    rw [textParses_reach_b] at this
    simp only [reachBytes] at this
    simp only [dlen]
    omega
  | _ => simp [dlen]
set_option maxRecDepth 100000 in
theorem contract (H : Type) (enc : TypeId × Value → H) (W : World) (base : Nat) (args : Array Value) (ds gs : List (DataW H)) (before : List MemPlace)
    (hval0 : ∀ (j : Nat) t v, Tryz.f3.params[j]? = some t → args[j]? = some v → Value.okWide Tryz.prog W .any base t v)
    (hW : DataW.Whole enc Tryz.prog Tryz.f3.params.toList Rows.textParsesSpec.vars false W args.toList ds gs before) (hk : Rows.uptoSmall H (ds ++ gs) = true)
    (hsz0 : (DataW.weightsEach Tryz.prog (Tryz.f3.params.toList ++ Rows.textParsesSpec.plain.varTypes Tryz.prog) (ds ++ gs)).all (· ≤ reachBytes) = true)
    (hL : laidMetH Tryz.prog Rows.textParsesUptoRow.laid W) (hsh : W.ShapedOpen Tryz.prog) :
    Calls Tryz.prog 3 args W fun e W' => ∃ v, e = .returned v ∧ Rows.textParsesSpec.post enc Tryz.prog Tryz.f3 false true false false W args v W' := by
  have hB := bins_of hL
  have hVV := valid_of W (tabs_in hL)
  have hMM := maxC_of hsh
  have hval : ∀ (j : Nat) t v, Tryz.f3.params[j]? = some t → args[j]? = some v → Value.okWide Tryz.prog W .any base t v := hval0
  have hW' := hW
  obtain ⟨p, q, hA0, hV, rfl, hfz, hnd⟩ := hW
  have hA : DataW.TrodAll enc Tryz.prog W 0 (fun _ => true) true Tryz.f3.params.toList args.toList ds p := hA0
  have hsz : (DataW.weightsEach Tryz.prog (Tryz.f3.params.toList ++ Rows.textParsesSpec.plain.varTypes Tryz.prog) (ds ++ gs)).all (· ≤ reachBytes) = true := hsz0
  rw [Tryz.params3] at hA hval hsz
  obtain ⟨v0, vs0, d0, ds0, p0, q0, hargs, rfl, rfl, h0, r0⟩ := trodAll_cons hA
  obtain ⟨v1, vs1, d1, ds1, p1, q1, rfl, rfl, rfl, h1, r1⟩ := trodAll_cons r0
  obtain ⟨v2, vs2, d2, ds2, p2, q2, rfl, rfl, rfl, h2, r2⟩ := trodAll_cons r1
  obtain ⟨v3, vs3, d3, ds3, p3, q3, rfl, rfl, rfl, h3, r3⟩ := trodAll_cons r2
  obtain ⟨v4, vs4, d4, ds4, p4, q4, rfl, rfl, rfl, h4, r4⟩ := trodAll_cons r3
  obtain ⟨rfl, rfl, rfl⟩ := trodAll_nil r4
  obtain rfl : args = #[v0, v1, v2, v3, v4] := by cases args; simp_all
  obtain ⟨rfl, rfl⟩ := trodVars_none hV
  obtain ⟨a0, rfl, rfl, rfl, wf0⟩ := open_int Tryz.underlying3 (hval 0 3 v0 rfl rfl) h0
  have w0 := wf_i64 wf0
  obtain ⟨a1, len1, cap1, rfl⟩ := okWide_slice Tryz.underlying22 (hval 1 22 v1 rfl rfl)
  obtain ⟨fuel1, hf1⟩ := h1
  obtain ⟨l1, hl1⟩ := open_raws hf1
  have hcp1 := open_raws_cap hf1
  have hle1 := open_raws_len hf1 l1 hl1
  obtain ⟨st2, rfl, rfl, rfl, hs2⟩ := Go.ChangeMaps.open_string Tryz.underlying9 (hval 2 9 v2 rfl rfl) h2
  obtain ⟨l2, hl2⟩ : ∃ l : List UInt8, st2 = ⟨l.toArray⟩ := ⟨st2.data.toList, by simp⟩
  subst hl2
  obtain ⟨b3, rfl, rfl, rfl⟩ := open_bool Tryz.underlying4 (hval 3 4 v3 rfl rfl) h3
  obtain ⟨a4, len4, cap4, rfl⟩ := okWide_slice Tryz.underlying23 (hval 4 23 v4 rfl rfl)
  obtain ⟨fuel4, hf4⟩ := h4
  obtain ⟨l4, hl4, hI4, hm4⟩ := open_intz hf4
  have hbd := bulk_bound hk
  simp only [List.append_nil, Rows.uptoBulkAll, Rows.uptoBulk] at hbd
  refine (law5_TextParses W hB a0 w0 _ l1 hl1 (by have := textParses_reach hsz; omega) hcp1 l2 (by omega) b3 _ l4 hl4 hI4 hm4 hMM hVV).mono fun e W' ⟨he, hg⟩ => ?_
  subst he
  exact ⟨_, rfl, law_post laidOut recs results Tryz.underlying4 rfl hW' rfl rfl rfl hg⟩
set_option maxRecDepth 100000 in
theorem lifted (os : Os) (started : os.Started) (H : Type) (enc : TypeId × Value → H) (F : Stop.Interp) :
    ReturnsInHanded {} Tryz.checked os 3 .any ((Rows.OpenSpec.upto Rows.textParsesSpec).preRow enc Tryz.prog Tryz.f3 Rows.textParsesUptoRow.domain false Rows.textParsesUptoRow.laid) (((Rows.OpenSpec.upto Rows.textParsesSpec).at F).post enc Tryz.prog Tryz.f3 false true false false) := by
  obtain ⟨places, hx⟩ : ∃ places, DataW.whole enc Tryz.prog (((World.laidAll Tryz.prog os Rows.textParsesUptoRow.laid)).forCall (fun _ _ => 0) ⟨#[], #[.int .i64 0, .slice none 0 0, .string ⟨#[]⟩, .bool false, .slice none 0 0], []⟩).memory Tryz.f3.params.toList Rows.textParsesSpec.vars false (#[.int .i64 0, .slice none 0 0, .string ⟨#[]⟩, .bool false, .slice none 0 0] : Array Value).toList 8 = some ([.lit (.int .i64 0), .nil, .lit (.string []), .lit (.bool false), .nil], [], places) := ⟨[], by kernel_rfl⟩
  have hok : Input.okWideB Tryz.prog ((World.laidAll Tryz.prog os Rows.textParsesUptoRow.laid).forCall (fun _ _ => 0) ⟨#[], #[.int .i64 0, .slice none 0 0, .string ⟨#[]⟩, .bool false, .slice none 0 0], []⟩) 3 ⟨#[], #[.int .i64 0, .slice none 0 0, .string ⟨#[]⟩, .bool false, .slice none 0 0], []⟩ = true := by kernel_rfl
  refine returnsInHanded_of_row (C := Tryz.checked) (s := Rows.OpenSpec.upto Rows.textParsesSpec) own started (by kernel_rfl) Tryz.func3
    ⟨World.laidAll Tryz.prog os Rows.textParsesUptoRow.laid, fun _ _ => 0, ⟨#[], #[.int .i64 0, .slice none 0 0, .string ⟨#[]⟩, .bool false, .slice none 0 0], []⟩, World.laidAll_os _ _ _, World.shaped_of_ZipB (by kernel_rfl) (by kernel_rfl), (Input.okWide_of_okWideB (base := 0) hok).1, (Input.okWide_of_okWideB hok).2,
      OpenSpec.preRow_of_cond 8 hx (by kernel_rfl) (fun k hk => by cases hk; kernel_rfl) (by kernel_rfl) (by rw [MakeChecks.laidMetH_plain _ _ _ (by kernel_rfl)]; exact laidMet_laidAll _ (by kernel_rfl) (by kernel_rfl)), by
        simp only [Assume.holds]
        exact ⟨by simp, by simp, fun _ => Modest.zero, by simp, by simp⟩⟩ ?_
  intro W base args ds gs before hval0 hW _ hcond hsz0 hL hsh _
  exact contract H enc W base args ds gs before hval0 hW (hcond _ rfl) hsz0 hL hsh
theorem row_holds : Rows.TextParsesUptoSaid :=
  OpenClaim.holds_of_cond 3 Tryz.f3 rfl rfl rfl rfl rfl rfl rfl ⟨rfl, rfl, rfl, rfl, rfl⟩ rfl rfl rfl rfl rfl (by kernel_rfl) Tryz.func3 (by kernel_rfl)
    (of_decide_eq_true (by kernel_rfl)) (by unfold Func.isWrapper; first | (rw [if_pos (by decide +kernel)]; kernel_rfl) | (rw [if_neg (by decide +kernel)]; exact ⟨rfl, rfl⟩))
    (fun os started H enc _ F => by rw [OpenClaim.pre_eq_preRow]; exact lifted os started H enc F)
theorem proved : Rows.TextParsesUptoCardSaid :=
  Claim7.holds_tied_plain_at .later [] [.data, .data, .pinned] true (true, "e3c0eebf6111878957ccb342e6781554c1ceb6a143c30b02f2b8f59be995fc0e") false
    row_holds (fun _ h => by cases h) (by kernel_rfl) (fun _ h => by cases h) textParsesUpto_row_tie rfl ⟨rfl, rfl⟩ (by kernel_rfl) rfl
    (fun f fn hf hfn => by
      obtain rfl : f = 3 := Option.some.inj ((show Tryz.prog.funcNamed "taciturn/taciturnlaw5.TextParses" = some 3 by kernel_rfl).symm.trans hf) |>.symm
      obtain rfl : fn = Tryz.f3 := (Option.some.inj (Tryz.func3.symm.trans hfn)).symm
      exact ⟨by kernel_rfl, fun j t ht => by
        rw [Tryz.params3] at ht
        have hm : t ∈ [3, 22, 9, 4, 23] := by simpa using Array.mem_of_getElem? ht
        have hall : ([3, 22, 9, 4, 23].all fun u => !Tryz.prog.wantsStandIn u) = true := by kernel_rfl
        exact (show Tryz.prog.wantsStandIn t = false by simpa using List.all_eq_true.1 hall t hm)⟩)
    (by kernel_rfl)
#print axioms proved
end Go.Proofs.YteebapopeaafhaaGreatDoor.textParses
