/-
  CONTRACTS: image.isImport. Conditions: utf8's tables as they are laid.
-/
import Derived.Test.YtapephelfijcbaaDoorNam
import Derived.Test.YtapephelfijcbaaDoorQui
namespace Go.Tcn
set_option linter.unusedVariables false
set_option linter.unusedSimpArgs false
def impB (x : Imp) : Bool := nameB x.name && decide (0 ≤ x.exp ∧ x.exp < 4) && kindsB x.params 4 && resB x.result
end Go.Tcn
namespace Go.Proofs.YtapephelfijcbaaDoor
open Go.RowKit Go.Tcn
set_option linter.unusedVariables false
set_option linter.unusedSimpArgs false
set_option maxRecDepth 100000 in
set_option maxHeartbeats 4000000 in
theorem im_isImport (w : World) (x : Imp) (vp : Value) (hp : RInts w [] vp x.params) (hm : x.params.length ≤ 9223372036854775807) (hV : x.name.length ≤ 16 → ∀ w', Tch [] w w' → Calls Tryd.prog 40 #[.string ⟨x.name.toArray⟩] w' fun e w'' => e = .returned (.bool (Lib.validD x.name)) ∧ Tch [] w' w'') :
    Calls Tryd.prog 44 #[.agg #[.string ⟨x.name.toArray⟩, .int .i64 x.exp, vp, .int .i64 x.result]] w fun e w' => e = .returned (.bool (impB x)) ∧ Tch [] w w' := by
  obtain ⟨ap, cp, rfl⟩ := hp.form
  obtain ⟨V, hVd⟩ : ∃ V, V = w.alloc (.cells #[.string ⟨x.name.toArray⟩, .int .i64 x.exp, .slice ap x.params.length cp, .int .i64 x.result] 59) := ⟨_, rfl⟩
  have tV : Tch [] w V := by rw [hVd]; exact (Tch.refl [] w).alloc _
  have hB : Bq V w.heap.size (.string ⟨x.name.toArray⟩) (.int .i64 x.exp) (.slice ap x.params.length cp) (.int .i64 x.result) := by rw [hVd]; exact Bq.new _ _ _ _ _ _
  have hI := im_IsName V x.name (fun h16 w' t => hV h16 w' (tV.then t))
  go_enter Tryd.func44, Tryd.ntmps44
  go_upto_region 1 with fail
  rw [← hVd]
  clear hVd
  obtain ⟨b0, b1, b2, b3⟩ := hB
  go_wp2_with fail
  refine hI.mono ?_
  rintro e w1 ⟨rfl, t1⟩
  have hB1 := (Bq.mk b0 b1 b2 b3).tch t1 (by simp)
  clear b0 b1 b2 b3
  obtain ⟨b0, b1, b2, b3⟩ := hB1
  have T1 := tV.then t1
  cases hn : nameB x.name
  · have hr : impB x = false := by unfold impB; simp [hn]
    have HR := Lib.hid hr; clear hr
    go_wp2_with fail
    go_ret
    exact ⟨by rw [HR.out]; rfl, T1⟩
  · by_cases he : 0 ≤ x.exp ∧ x.exp < 4
    · have hr : impB x = (kindsB x.params 4 && resB x.result) := by unfold impB; simp [hn, he]
      have HR := Lib.hid hr; clear hr
      obtain ⟨e1, e2⟩ := he
      have hk := im_kinds w1 _ x.params (hp.tch T1 (by simp)) hm 4
      have hr2 := fun w => im_isResult w x.result
      generalize x.exp = xe at *
      generalize x.result = xr at *
      generalize kindsB x.params 4 = kb at *
      cases kb
      · go_wp2_with fail
        refine hk.mono ?_
        rintro e w2 ⟨rfl, rfl⟩
        go_wp2_with fail
        go_ret
        exact ⟨by rw [HR.out]; rfl, T1⟩
      · go_wp2_with fail
        refine hk.mono ?_
        rintro e w2 ⟨rfl, rfl⟩
        go_wp2_with fail
        refine (hr2 _).mono ?_
        rintro e w2 ⟨rfl, rfl⟩
        go_wp2_with fail
        go_ret
        exact ⟨by rw [HR.out]; rfl, T1⟩
    · have hr : impB x = false := by
        unfold impB
        rw [decide_eq_false he]
        simp
      have HR := Lib.hid hr; clear hr
      have hcs : decide (0 ≤ x.exp) = false ∨ (decide (0 ≤ x.exp) = true ∧ decide (x.exp < 4) = false) := by
        by_cases h1 : 0 ≤ x.exp
        · exact .inr ⟨decide_eq_true h1, decide_eq_false (fun h2 => he ⟨h1, h2⟩)⟩
        · exact .inl (decide_eq_false h1)
      clear he
      generalize x.exp = xe at *
      rcases hcs with h1 | ⟨h1, h2⟩
      · go_wp2_with fail
        go_ret
        exact ⟨by rw [HR.out]; rfl, T1⟩
      · go_wp2_with fail
        go_ret
        exact ⟨by rw [HR.out]; rfl, T1⟩
end Go.Proofs.YtapephelfijcbaaDoor
