/-
  CONTRACTS over []int: JoinAll. Conditions: the numbers are of 64 bits.
-/
import Derived.Test.YtkakoefdfjooeaaList
namespace Go.Proofs.Ytkakoefdfjooeaa
open Go.RowKit Go.Tcn
set_option linter.unusedVariables false
set_option linter.unusedSimpArgs false

set_option maxRecDepth 100000 in
set_option maxHeartbeats 2000000 in
theorem lab_JoinAll (w : World) (L M : List Nat) (va vb : Value) (x y : List Int) (ha : Src w L va x.length (ins x)) (hb : Src w M vb y.length (ins y)) (hxl : x.length ≤ 1000) (hyl : y.length ≤ 1000) :
    Calls Try.prog 55 #[va, vb] w fun e w' => ∃ ao cap, e = .returned (.tuple #[.slice ao (joinO x y).length cap, .bool (joinK x y)]) ∧ w'.ownsRow 0 3 1 (.slice ao (joinO x y).length cap) (joinO x y).length (ins (joinO x y)) ∧
      (∀ g, (Value.slice ao (joinO x y).length cap).ownBlock = some g → w.heap.size ≤ g) ∧ Tch [] w w' := by
  obtain ⟨i0, hi, hz0, hz1, hz2⟩ := info_parts info_int
  obtain ⟨ao, ca, rfl⟩ := ha.form
  obtain ⟨bo, cb, rfl⟩ := hb.form
  by_cases hl : x.length = y.length
  · go_enter Try.func55, Try.ntmps55
    go_wp2_with fail
    go_loopw [6, 17] (fun o i wr => ∃ (k : Nat) (m : List Int), k ≤ x.length ∧ i = .int .i64 k ∧ m.length = k ∧ joinL x y = (joinL (x.drop k) (y.drop k)).map (m ++ ·) ∧ wr.ownsRow 0 3 1 o m.length (ins m) ∧ (∀ g, o.ownBlock = some g → w.heap.size ≤ g) ∧ Tch [] w wr) (fun _ i _ => x.length - (intOf i).toNat)
    case atStart => exact ⟨0, [], by omega, rfl, rfl, by simp, World.ownsRow_nil _ _ _ _, by simp [Value.ownBlock], Tch.refl _ _⟩
    case round =>
      obtain ⟨k, m, hk, rfl, hm, he, ho, hg, ht⟩ := hrel
      obtain ⟨oo, oc, rfl⟩ := ownsRow_form ho
      by_cases hkl : k < x.length
      · have hky : k < y.length := hl ▸ hkl
        obtain ⟨ad, rfl, h1, h2, h3⟩ := (ha.tch ht (by simp)).num hkl
        obtain ⟨bd, rfl, h4, h5, h6⟩ := (hb.tch ht (by simp)).num hky
        rw [joinL_at x y k hkl hky] at he
        have hE := Lib.hid he; clear he
        have hbnd : m.length + 1 ≤ 9223372036854775807 ∧ (m.length + 1) * 8 ≤ 140737488355328 := by omega
        have HM := Lib.hid hm; clear hm
        have HL := Lib.hid hl; clear hl
        have hj := fun w => lab_Join x[k] y[k] w
        cases hxy : joinB x[k] y[k]
        · rw [hxy] at hj
          have hN : joinL x y = none := by rw [hE.out]; simp [hxy]
          have HN := Lib.hid hN; clear hN
          go_wp2_with fail
          go_quiet ((go_at_call 25; exact Calls.quiet_of_same ((hj _).mono fun _ _ h => ⟨h.1, h.2.symm⟩)))
          go_wp2_with fail
          go_ret2
          simp only [joinO, joinK, HN.out]
          exact ⟨none, 0, rfl, World.ownsRow_nil _ _ _ _, by simp [Value.ownBlock], ht.drewN _⟩
        · rw [hxy] at hj
          go_wp2_with fail
          go_quiet ((go_at_call 25; exact Calls.quiet_of_same ((hj _).mono fun _ _ h => ⟨h.1, h.2.symm⟩)))
          have hq := ht.drewN nq
          have hoq : (wr.drewN nq).ownsRow 0 3 1 (.slice oo m.length oc) m.length (ins m) := ho
          clear ho h3 h6
          generalize wr.drewN nq = wq at *
          have hown0 : (wq.alloc (Obj.cells #[Value.int IntKind.i64 (joinV x[k] y[k])] 3)).ownsRow 0 3 1 (.slice oo m.length oc) m.length (ins m) := hoq.alloc _
          have hsrc : Src (wq.alloc (Obj.cells #[Value.int IntKind.i64 (joinV x[k] y[k])] 3)) [] (.slice (some ⟨wq.heap.size, 0, none⟩) 1 1) 1 [Value.int IntKind.i64 (joinV x[k] y[k])] := src_new wq _ [] #[Value.int IntKind.i64 (joinV x[k] y[k])] 3 1 1 (Tch.refl [] _) (by simp)
          have h1c : ∀ u ∈ [Value.int IntKind.i64 (joinV x[k] y[k])], u.oneCell' = true := by intro u hu; simp at hu; subst hu; rfl
          go_wp2_with (at_builtin; refine wpList_append_any _ rfl _ _ 54 rfl 3 i0 (.int .i64 0) 1 8 Try.underlying54 hi hz0 hz1 hz2 rfl (by decide) (.slice oo m.length oc) m.length (ins m) rfl hown0 [] _ 1 [Value.int IntKind.i64 (joinV x[k] y[k])] rfl hsrc rfl h1c hbnd ?_; intro ao1 cap1 w1 hown hgrow hat)
          go_roundw
          case rel =>
            refine ⟨k + 1, m ++ [joinV x[k] y[k]], by omega, by go_num, by simp [HM.out], ?_, ?_, ?_, (hq.alloc _).grown hgrow (fun g h => .inr (hg g h))⟩
            · rw [hE.out]
              simp [hxy, Function.comp_def]
            · simpa [ins] using hown
            · intro g h
              rcases hat with e | e
              · exact hg g (e ▸ h)
              · rw [e] at h
                have := hq.size
                simp at h
                omega
          case measure => simp [intOf]; omega
      · go_wp2_with fail
        go_ret2
        rw [List.drop_eq_nil_of_le (by omega), List.drop_eq_nil_of_le (by omega)] at he
        have hs : joinL x y = some m := by rw [he]; simp [joinL]
        simp only [joinO, joinK, hs]
        exact ⟨oo, oc, rfl, ho, hg, ht⟩
  · go_enter Try.func55, Try.ntmps55
    go_wp2_with fail
    go_ret2
    simp only [joinO, joinK, joinL_length x y hl]
    exact ⟨none, 0, rfl, World.ownsRow_nil _ _ _ _, by simp [Value.ownBlock], Tch.refl _ _⟩

set_option maxRecDepth 100000 in
set_option maxHeartbeats 2000000 in
theorem ref_JoinAll (w : World) (L M : List Nat) (va vb : Value) (x y : List Int) (ha : Src w L va x.length (ins x)) (hb : Src w M vb y.length (ins y)) (hxl : x.length ≤ 1000) (hyl : y.length ≤ 1000) :
    Calls Try.prog 56 #[va, vb] w fun e w' => ∃ ao cap, e = .returned (.tuple #[.slice ao (joinO x y).length cap, .bool (joinK x y)]) ∧ w'.ownsRow 0 3 1 (.slice ao (joinO x y).length cap) (joinO x y).length (ins (joinO x y)) ∧
      (∀ g, (Value.slice ao (joinO x y).length cap).ownBlock = some g → w.heap.size ≤ g) ∧ Tch [] w w' := by
  obtain ⟨i0, hi, hz0, hz1, hz2⟩ := info_parts info_int
  obtain ⟨ao, ca, rfl⟩ := ha.form
  obtain ⟨bo, cb, rfl⟩ := hb.form
  by_cases hl : x.length = y.length
  · go_enter Try.func56, Try.ntmps56
    go_wp2_with fail
    go_loopw [6, 7] (fun o i wr => ∃ (k : Nat) (m : List Int), k ≤ x.length ∧ i = .int .i64 k ∧ m.length = k ∧ joinL x y = (joinL (x.drop k) (y.drop k)).map (m ++ ·) ∧ wr.ownsRow 0 3 1 o m.length (ins m) ∧ (∀ g, o.ownBlock = some g → w.heap.size ≤ g) ∧ Tch [] w wr) (fun _ i _ => x.length - (intOf i).toNat)
    case atStart => exact ⟨0, [], by omega, rfl, rfl, by simp, World.ownsRow_nil _ _ _ _, by simp [Value.ownBlock], Tch.refl _ _⟩
    case round =>
      obtain ⟨k, m, hk, rfl, hm, he, ho, hg, ht⟩ := hrel
      obtain ⟨oo, oc, rfl⟩ := ownsRow_form ho
      by_cases hkl : k < x.length
      · have hky : k < y.length := hl ▸ hkl
        obtain ⟨ad, rfl, h1, h2, h3⟩ := (ha.tch ht (by simp)).num hkl
        obtain ⟨bd, rfl, h4, h5, h6⟩ := (hb.tch ht (by simp)).num hky
        rw [joinL_at x y k hkl hky] at he
        have hE := Lib.hid he; clear he
        have hbnd : m.length + 1 ≤ 9223372036854775807 ∧ (m.length + 1) * 8 ≤ 140737488355328 := by omega
        have HM := Lib.hid hm; clear hm
        have HL := Lib.hid hl; clear hl
        have hj := fun w => ref_Join x[k] y[k] w
        cases hxy : joinB x[k] y[k]
        · rw [hxy] at hj
          have hN : joinL x y = none := by rw [hE.out]; simp [hxy]
          have HN := Lib.hid hN; clear hN
          go_wp2_with fail
          go_quiet ((go_at_call 36; exact Calls.quiet_of_same ((hj _).mono fun _ _ h => ⟨h.1, h.2.symm⟩)))
          go_wp2_with fail
          go_ret2
          simp only [joinO, joinK, HN.out]
          exact ⟨none, 0, rfl, World.ownsRow_nil _ _ _ _, by simp [Value.ownBlock], ht.drewN _⟩
        · rw [hxy] at hj
          go_wp2_with fail
          go_quiet ((go_at_call 36; exact Calls.quiet_of_same ((hj _).mono fun _ _ h => ⟨h.1, h.2.symm⟩)))
          have hq := ht.drewN nq
          have hoq : (wr.drewN nq).ownsRow 0 3 1 (.slice oo m.length oc) m.length (ins m) := ho
          clear ho h3 h6
          generalize wr.drewN nq = wq at *
          have hown0 : (wq.alloc (Obj.cells #[Value.int IntKind.i64 (joinV x[k] y[k])] 3)).ownsRow 0 3 1 (.slice oo m.length oc) m.length (ins m) := hoq.alloc _
          have hsrc : Src (wq.alloc (Obj.cells #[Value.int IntKind.i64 (joinV x[k] y[k])] 3)) [] (.slice (some ⟨wq.heap.size, 0, none⟩) 1 1) 1 [Value.int IntKind.i64 (joinV x[k] y[k])] := src_new wq _ [] #[Value.int IntKind.i64 (joinV x[k] y[k])] 3 1 1 (Tch.refl [] _) (by simp)
          have h1c : ∀ u ∈ [Value.int IntKind.i64 (joinV x[k] y[k])], u.oneCell' = true := by intro u hu; simp at hu; subst hu; rfl
          go_wp2_with (at_builtin; refine wpList_append_any _ rfl _ _ 54 rfl 3 i0 (.int .i64 0) 1 8 Try.underlying54 hi hz0 hz1 hz2 rfl (by decide) (.slice oo m.length oc) m.length (ins m) rfl hown0 [] _ 1 [Value.int IntKind.i64 (joinV x[k] y[k])] rfl hsrc rfl h1c hbnd ?_; intro ao1 cap1 w1 hown hgrow hat)
          go_roundw
          case rel =>
            refine ⟨k + 1, m ++ [joinV x[k] y[k]], by omega, by go_num, by simp [HM.out], ?_, ?_, ?_, (hq.alloc _).grown hgrow (fun g h => .inr (hg g h))⟩
            · rw [hE.out]
              simp [hxy, Function.comp_def]
            · simpa [ins] using hown
            · intro g h
              rcases hat with e | e
              · exact hg g (e ▸ h)
              · rw [e] at h
                have := hq.size
                simp at h
                omega
          case measure => simp [intOf]; omega
      · go_wp2_with fail
        go_ret2
        rw [List.drop_eq_nil_of_le (by omega), List.drop_eq_nil_of_le (by omega)] at he
        have hs : joinL x y = some m := by rw [he]; simp [joinL]
        simp only [joinO, joinK, hs]
        exact ⟨oo, oc, rfl, ho, hg, ht⟩
  · go_enter Try.func56, Try.ntmps56
    go_wp2_with fail
    go_ret2
    simp only [joinO, joinK, joinL_length x y hl]
    exact ⟨none, 0, rfl, World.ownsRow_nil _ _ _ _, by simp [Value.ownBlock], Tch.refl _ _⟩
end Go.Proofs.Ytkakoefdfjooeaa
