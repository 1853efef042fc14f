/-
  CONTRACTS: names, Name, Op, within, Right of taciturnref1. Conditions: none.
-/
import Derived.Test.YtkhoipeblakgiaaCode2
import Derived.Test.YtkhoipeblakgiaaImg
namespace Go.Proofs.Ytkhoipeblakgiaa
open Go.RowKit Go.Tcn
set_option linter.unusedVariables false
set_option linter.unusedSimpArgs false
theorem addr0 (b k : Nat) : (⟨b, 0, none⟩ : Addr).add k = ⟨b, k, none⟩ := by
  unfold Addr.add
  split
  · rename_i h; rw [h]
  · simp
def nmVals : List Value := ([] :: nmTab).map fun l => Value.string ⟨l.toArray⟩
theorem nmVals_length : nmVals.length = 40 := rfl
set_option maxRecDepth 100000 in
theorem ref_names (w : World) : Calls Try.prog 47 #[] w fun e w' => e = .returned (.slice (some ⟨w.heap.size, 0, none⟩) 40 40) ∧ Src w' [] (.slice (some ⟨w.heap.size, 0, none⟩) 40 40) 40 nmVals ∧ Tch [] w w' := by
  go_enter Try.func47, Try.ntmps47
  go_wp2
  go_ret
  exact ⟨rfl, src_new w _ [] _ 9 40 40 (Tch.refl [] _) (by simp), (Tch.refl [] w).alloc _⟩
theorem nmVals_at (k : Nat) (h1 : 1 ≤ k) (h2 : k ≤ 39) : nmVals[k]'(by rw [nmVals_length]; omega) = .string ⟨(nmTab[k - 1]'(by show _ < 39; omega)).toArray⟩ := by
  obtain ⟨j, rfl⟩ : ∃ j, k = j + 1 := ⟨k - 1, by omega⟩
  simp [nmVals]
theorem nmAt_at (k : Nat) (h1 : 1 ≤ k) (h2 : k ≤ 39) : nmAt (k : Int) = nmTab[k - 1]'(by show _ < 39; omega) := by
  unfold nmAt
  rw [if_pos (by omega)]
  have hl : k - 1 < nmTab.length := by show _ < 39; omega
  simp [List.getD, hl]
set_option maxRecDepth 100000 in
set_option maxHeartbeats 2000000 in
theorem ref_Name (op : Int) (w : World) : Calls Try.prog 25 #[.int .i64 op] w fun e w' => e = .returned (.string ⟨(nmAt op).toArray⟩) ∧ Tch [] w w' := by
  by_cases h1 : 1 ≤ op
  · obtain ⟨k, rfl⟩ := Int.eq_ofNat_of_zero_le (show 0 ≤ op by omega)
    have h1b : decide ((k : Int) < 1) = false := by simp; omega
    by_cases h2 : k ≤ 39
    · have hn := nmAt_at k (by omega) h2
      rw [← hn.symm] at hn
      have hv := nmVals_at k (by omega) h2
      rw [← nmAt_at k (by omega) h2] at hv
      have h2b : decide ((40 : Int) ≤ (k : Int)) = false := by simp; omega
      go_enter Try.func25, Try.ntmps25
      go_wp2_with fail
      refine (ref_names _).mono ?_
      rintro e w1 ⟨rfl, hs, t1⟩
      obtain ⟨ad, e1, _, _, hc⟩ := hs.at (j := k) (by rw [nmVals_length]; omega)
      simp only [Option.some.injEq] at e1
      subst e1
      rw [hv] at hc
      have hc2 : w1.cell? ⟨w.heap.size, k, none⟩ = some (.string ⟨(nmAt k).toArray⟩) := by
        rw [addr0] at hc; exact hc
      clear hc hs hv
      have hkl : (k : Int) < 40 := by omega
      obtain ⟨nm, hnm⟩ : ∃ nm, nm = nmAt (k : Int) := ⟨_, rfl⟩
      rw [← hnm] at hc2
      have HN := Lib.hid hnm; clear hnm
      go_wp2_with fail
      go_ret
      exact ⟨by rw [← HN.out]; rfl, t1⟩
    · have hn : nmAt (k : Int) = [] := (nmAt_nil _).2 (by omega)
      have HN := Lib.hid hn; clear hn
      have h2b : decide ((40 : Int) ≤ (k : Int)) = true := by simp; omega
      go_enter Try.func25, Try.ntmps25
      go_wp2_with fail
      refine (ref_names _).mono ?_
      rintro e w1 ⟨rfl, hs, t1⟩
      clear hs
      go_wp2_with fail
      go_ret
      exact ⟨by rw [HN.out]; rfl, t1⟩
  · have hn : nmAt op = [] := (nmAt_nil _).2 (by omega)
    have HN := Lib.hid hn; clear hn
    have h1b : op < 1 := by omega
    go_enter Try.func25, Try.ntmps25
    go_wp2_with fail
    refine (ref_names _).mono ?_
    rintro e w1 ⟨rfl, hs, t1⟩
    clear hs
    go_wp2_with fail
    go_ret
    exact ⟨by rw [HN.out]; rfl, t1⟩
theorem opAt_def (s : List UInt8) : opAt s = match firstW (fun _ w => w == s) nmTab 1 with | some (n, _) => (n : Int) | none => 0 := rfl
set_option maxRecDepth 100000 in
set_option maxHeartbeats 2000000 in
theorem ref_Op (s : List UInt8) (w : World) : Calls Try.prog 29 #[.string ⟨s.toArray⟩] w fun e w' => e = .returned (.int .i64 (opAt s)) ∧ Tch [] w w' := by
  go_enter Try.func29, Try.ntmps29
  go_wp2_with fail
  refine (ref_names _).mono ?_
  rintro e w1 ⟨rfl, hs, t1⟩
  go_wp2_with fail
  go_loop [4] (fun i => ∃ k : Nat, 1 ≤ k ∧ k ≤ 40 ∧ i = .int .i64 k ∧ Hid (firstW (fun _ w => w == s) (nmTab.drop (k - 1)) k = firstW (fun _ w => w == s) nmTab 1)) (fun i => (40 - intOf i).toNat)
  case atStart => exact ⟨1, by omega, by omega, rfl, Lib.hid rfl⟩
  case round =>
    obtain ⟨k, hk1, hk2, rfl, HF⟩ := hrel
    by_cases hlt : k < 40
    · have hv := nmVals_at k hk1 (by omega)
      obtain ⟨ad, e1, _, _, hc⟩ := hs.at (j := k) (by rw [nmVals_length]; omega)
      simp only [Option.some.injEq] at e1
      subst e1
      rw [hv] at hc
      have hl : k - 1 < nmTab.length := by show _ < 39; omega
      have hf := HF.out
      rw [List.drop_eq_getElem_cons hl, firstW] at hf
      rw [show k - 1 + 1 = k + 1 - 1 by omega] at hf
      have hc2 : w1.cell? ⟨w.heap.size, k, none⟩ = some (.string ⟨(nmTab[k - 1]).toArray⟩) := by
        rw [addr0] at hc; exact hc
      clear hc hs hv HF
      generalize nmTab[k - 1] = nm at *
      have hkl : k < 40 := hlt
      cases he : (nm == s)
      · rw [he, if_neg (by simp)] at hf
        have HF2 := Lib.hid hf; clear hf
        go_wp2_with fail
        go_round
        case rel => exact ⟨k + 1, by omega, by omega, by go_num, HF2⟩
        case measure => simp [intOf]; omega
      · rw [he, if_pos rfl] at hf
        have ho : opAt s = (k : Int) := by rw [opAt_def, ← hf]
        have HO := Lib.hid ho; clear ho hf
        go_wp2_with fail
        go_ret
        exact ⟨by rw [HO.out]; rfl, t1⟩
    · have hf := HF.out
      rw [List.drop_eq_nil_of_le (by show 39 ≤ _; omega), firstW] at hf
      have ho : opAt s = 0 := by rw [opAt_def, ← hf]
      have HO := Lib.hid ho; clear ho hf HF hs
      go_wp2_with fail
      go_ret
      exact ⟨by rw [HO.out]; rfl, t1⟩
theorem ref_within (n lo hi : Int) (w : World) : Calls Try.prog 30 #[.int .i64 n, .int .i64 lo, .int .i64 hi] w fun e w' => e = .returned (.bool (decide (lo ≤ n ∧ n ≤ hi))) ∧ w = w' := by
  by_cases h1 : lo ≤ n
  · by_cases h2 : n ≤ hi
    · go_enter Try.func30, Try.ntmps30
      go_wp2
      go_ret
      exact ⟨by simp [h1, h2], rfl⟩
    · go_enter Try.func30, Try.ntmps30
      go_wp2
      go_ret
      exact ⟨by simp [h1, h2], rfl⟩
  · have h1' : n < lo := by omega
    go_enter Try.func30, Try.ntmps30
    go_wp2
    go_ret
    exact ⟨by simp; omega, rfl⟩
end Go.Proofs.Ytkhoipeblakgiaa
