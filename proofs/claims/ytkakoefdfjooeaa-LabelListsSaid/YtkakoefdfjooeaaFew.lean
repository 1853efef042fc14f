/-
  CONTRACT: taciturnlaw6.few: kinds of raw numbers. Conditions: the numbers are of 64 bits.
-/
import Derived.Test.YtkakoefdfjooeaaJoin
import Derived.Test.YtkakoefdfjooeaaQui
namespace Go.Proofs.Ytkakoefdfjooeaa
open Go.RowKit Go.Tcn
set_option linter.unusedVariables false
set_option linter.unusedSimpArgs false
theorem kindOf_raw (n : Int) (any : Bool) (h : ¬ (any = true ∧ n.tmod 17 = 16)) : kindOf n any = 1 + n % 4 := by unfold kindOf; rw [if_neg h]
theorem kindOf_any (n : Int) (h : n.tmod 17 = 16) : kindOf n true = n.tmod 7 := by unfold kindOf; rw [if_pos ⟨rfl, h⟩]
theorem I64_kind (l : List Int) (any : Bool) : ∀ x ∈ fewK l any, -7 ≤ x ∧ x ≤ 7 := by
  intro x hx
  unfold fewK at hx
  obtain ⟨n, _, rfl⟩ := List.mem_map.1 hx
  unfold kindOf
  split
  · have h1 := Int.tmod_lt_of_pos n (show (0 : Int) < 7 by omega)
    have h2 := Int.lt_tmod_of_pos n (show (0 : Int) < 7 by omega)
    omega
  · omega
set_option maxRecDepth 100000 in
set_option maxHeartbeats 2000000 in
theorem lab_few (w : World) (L : List Nat) (v : Value) (l : List Int) (hs : Src w L v l.length (ins l)) (hb : I64 l) (hm : l.length ≤ 9223372036854775807) (any : Bool) :
    Calls Try.prog 54 #[v, .bool any] w fun e w' => ∃ ao cap, e = .returned (.slice ao (fewK l any).length cap) ∧ w'.ownsRow 0 3 1 (.slice ao (fewK l any).length cap) (fewK l any).length (ins (fewK l any)) ∧
      (∀ g, (Value.slice ao (fewK l any).length cap).ownBlock = some g → w.heap.size ≤ g) ∧ Tch [] w w' := by
  obtain ⟨i0, hi, hz0, hz1, hz2⟩ := info_parts info_int
  obtain ⟨ao, ca, rfl⟩ := hs.form
  go_enter Try.func54, Try.ntmps54
  go_wp2_with fail
  go_loopw [5, 6, 7] (fun o i j wr => ∃ k : Nat, k ≤ l.length ∧ k ≤ 10 ∧ i = .int .i64 k ∧ (∃ m : List Int, m.length = k ∧ m = (l.take k).map (kindOf · any) ∧ wr.ownsRow 0 3 1 o m.length (ins m)) ∧ (∀ g, o.ownBlock = some g → w.heap.size ≤ g) ∧ Tch [] w wr) (fun _ i _ _ => l.length - (intOf i).toNat)
  case atStart => exact ⟨0, by omega, by omega, rfl, ⟨[], rfl, rfl, World.ownsRow_nil _ _ _ _⟩, by simp [Value.ownBlock], Tch.refl _ _⟩
  case round =>
    obtain ⟨k, hk, hk10, rfl, ⟨m, hml, hmm, ho⟩, hg, ht⟩ := hrel
    obtain ⟨oo, oc, rfl⟩ := ownsRow_form ho
    by_cases hkl : k < l.length ∧ k < 10
    · obtain ⟨hkl, hk2⟩ := hkl
      obtain ⟨ad, rfl, h1, h2, h3⟩ := (hs.tch ht (by simp)).num hkl
      have hr := hb l[k] (List.getElem_mem hkl)
      have hts := take_kind l any k hkl
      rw [← hmm] at hts
      have HT := Lib.hid hts; clear hts hmm
      have hbnd : m.length + 1 ≤ 9223372036854775807 ∧ (m.length + 1) * 8 ≤ 140737488355328 := by omega
      have HM := Lib.hid hml; clear hml
      have hpk := fun w => hand_Pick l[k] 4 hr (by omega) (by omega) w
      have r4 : 0 ≤ l[k] % 4 ∧ l[k] % 4 < 4 := by omega
      have r7 := Int.tmod_lt_of_pos l[k] (show (0 : Int) < 7 by omega)
      have r7' := Int.lt_tmod_of_pos l[k] (show (0 : Int) < 7 by omega)
      have r17 := Int.tmod_lt_of_pos l[k] (show (0 : Int) < 17 by omega)
      have r17' := Int.lt_tmod_of_pos l[k] (show (0 : Int) < 17 by omega)
      have hkind : (any = true ∧ l[k].tmod 17 = 16 ∧ kindOf l[k] any = l[k].tmod 7) ∨ (any = false ∧ kindOf l[k] any = 1 + l[k] % 4) ∨ (any = true ∧ l[k].tmod 17 ≠ 16 ∧ kindOf l[k] any = 1 + l[k] % 4) := by
        cases any
        · exact .inr (.inl ⟨rfl, kindOf_raw _ _ (by simp)⟩)
        · by_cases h : l[k].tmod 17 = 16
          · exact .inl ⟨rfl, h, kindOf_any _ h⟩
          · exact .inr (.inr ⟨rfl, h, kindOf_raw _ _ (by simp [h])⟩)
      generalize l[k] = x at *
      rcases hkind with ⟨rfl, hx, hkv⟩ | ⟨rfl, hkv⟩ | ⟨rfl, hx, hkv⟩
      · have HK := Lib.hid hkv; clear hkv
        have hx2 := beq_iff_eq.2 hx; clear hx
        have hown0 : (wr.alloc (Obj.cells #[Value.int IntKind.i64 (x.tmod 7)] 3)).ownsRow 0 3 1 (.slice oo m.length oc) m.length (ins m) := ho.alloc _
        have hsrc : Src (wr.alloc (Obj.cells #[Value.int IntKind.i64 (x.tmod 7)] 3)) [] (.slice (some ⟨wr.heap.size, 0, none⟩) 1 1) 1 [Value.int IntKind.i64 (x.tmod 7)] := src_new wr _ [] #[Value.int IntKind.i64 (x.tmod 7)] 3 1 1 (Tch.refl [] _) (by simp)
        have h1c : ∀ u ∈ [Value.int IntKind.i64 (x.tmod 7)], u.oneCell' = true := by intro u hu; simp at hu; subst hu; rfl
        go_wp2_with (first | (go_at_call 13; refine (hpk _).mono ?_; rintro e w' ⟨rfl, rfl⟩) | (at_builtin; refine wpList_append_any _ rfl _ _ 54 rfl 3 i0 (.int .i64 0) 1 8 Try.underlying54 hi hz0 hz1 hz2 rfl (by decide) (.slice oo m.length oc) m.length (ins m) rfl hown0 [] _ 1 [Value.int IntKind.i64 (x.tmod 7)] rfl hsrc rfl h1c hbnd ?_; intro ao1 cap1 w1 hown hgrow hat))
        go_roundw
        case rel =>
          refine ⟨k + 1, by omega, by omega, by go_num, ⟨m ++ [x.tmod 7], by simp [HM.out], by rw [HT.out, HK.out], by simpa [ins] using hown⟩, ?_, (ht.alloc _).grown hgrow (fun g h => .inr (hg g h))⟩
          intro g h
          rcases hat with e | e
          · exact hg g (e ▸ h)
          · rw [e] at h
            have := ht.size
            simp at h
            omega
        case measure => simp [intOf]; omega
      · have HK := Lib.hid hkv; clear hkv
        skip
        have hown0 : (wr.alloc (Obj.cells #[Value.int IntKind.i64 (1 + x % 4)] 3)).ownsRow 0 3 1 (.slice oo m.length oc) m.length (ins m) := ho.alloc _
        have hsrc : Src (wr.alloc (Obj.cells #[Value.int IntKind.i64 (1 + x % 4)] 3)) [] (.slice (some ⟨wr.heap.size, 0, none⟩) 1 1) 1 [Value.int IntKind.i64 (1 + x % 4)] := src_new wr _ [] #[Value.int IntKind.i64 (1 + x % 4)] 3 1 1 (Tch.refl [] _) (by simp)
        have h1c : ∀ u ∈ [Value.int IntKind.i64 (1 + x % 4)], u.oneCell' = true := by intro u hu; simp at hu; subst hu; rfl
        go_wp2_with (first | (go_at_call 13; refine (hpk _).mono ?_; rintro e w' ⟨rfl, rfl⟩) | (at_builtin; refine wpList_append_any _ rfl _ _ 54 rfl 3 i0 (.int .i64 0) 1 8 Try.underlying54 hi hz0 hz1 hz2 rfl (by decide) (.slice oo m.length oc) m.length (ins m) rfl hown0 [] _ 1 [Value.int IntKind.i64 (1 + x % 4)] rfl hsrc rfl h1c hbnd ?_; intro ao1 cap1 w1 hown hgrow hat))
        go_roundw
        case rel =>
          refine ⟨k + 1, by omega, by omega, by go_num, ⟨m ++ [1 + x % 4], by simp [HM.out], by rw [HT.out, HK.out], by simpa [ins] using hown⟩, ?_, (ht.alloc _).grown hgrow (fun g h => .inr (hg g h))⟩
          intro g h
          rcases hat with e | e
          · exact hg g (e ▸ h)
          · rw [e] at h
            have := ht.size
            simp at h
            omega
        case measure => simp [intOf]; omega
      · have HK := Lib.hid hkv; clear hkv
        have hx2 := beq_eq_false_iff_ne.2 hx; clear hx
        have hown0 : (wr.alloc (Obj.cells #[Value.int IntKind.i64 (1 + x % 4)] 3)).ownsRow 0 3 1 (.slice oo m.length oc) m.length (ins m) := ho.alloc _
        have hsrc : Src (wr.alloc (Obj.cells #[Value.int IntKind.i64 (1 + x % 4)] 3)) [] (.slice (some ⟨wr.heap.size, 0, none⟩) 1 1) 1 [Value.int IntKind.i64 (1 + x % 4)] := src_new wr _ [] #[Value.int IntKind.i64 (1 + x % 4)] 3 1 1 (Tch.refl [] _) (by simp)
        have h1c : ∀ u ∈ [Value.int IntKind.i64 (1 + x % 4)], u.oneCell' = true := by intro u hu; simp at hu; subst hu; rfl
        go_wp2_with (first | (go_at_call 13; refine (hpk _).mono ?_; rintro e w' ⟨rfl, rfl⟩) | (at_builtin; refine wpList_append_any _ rfl _ _ 54 rfl 3 i0 (.int .i64 0) 1 8 Try.underlying54 hi hz0 hz1 hz2 rfl (by decide) (.slice oo m.length oc) m.length (ins m) rfl hown0 [] _ 1 [Value.int IntKind.i64 (1 + x % 4)] rfl hsrc rfl h1c hbnd ?_; intro ao1 cap1 w1 hown hgrow hat))
        go_roundw
        case rel =>
          refine ⟨k + 1, by omega, by omega, by go_num, ⟨m ++ [1 + x % 4], by simp [HM.out], by rw [HT.out, HK.out], by simpa [ins] using hown⟩, ?_, (ht.alloc _).grown hgrow (fun g h => .inr (hg g h))⟩
          intro g h
          rcases hat with e | e
          · exact hg g (e ▸ h)
          · rw [e] at h
            have := ht.size
            simp at h
            omega
        case measure => simp [intOf]; omega
    · have hcases : ¬ k < l.length ∨ (k < l.length ∧ ¬ k < 10) := by omega
      have hall : m = fewK l any := by
        rw [hmm]; unfold fewK
        rcases hcases with h | h
        · rw [List.take_of_length_le (by omega), List.take_of_length_le (by omega)]
        · rw [show k = 10 by omega]
      clear hmm hml
      rcases hcases with hk0 | ⟨hk0, hk3⟩
      all_goals
        go_wp2_with fail
        go_ret
        rw [hall] at ho hg ⊢
        exact ⟨oo, oc, rfl, ho, hg, ht⟩
end Go.Proofs.Ytkakoefdfjooeaa
