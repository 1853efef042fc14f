/-
  CONTRACTS over []int: few, ints, JoinAll, FitsAll. Conditions: the numbers are of 64 bits.
-/
import Derived.Test.YtkakoefdfjooeaaInts
import Derived.Deep.QuietTactic
import Derived.BigQuiet
namespace Go.Proofs.Ytkakoefdfjooeaa
open Go.RowKit Go.Tcn
set_option linter.unusedVariables false
set_option linter.unusedSimpArgs false
theorem info_int : (Try.prog.info? 3).map (fun i => (i.zero, i.size, i.bytes)) = some (some (.int .i64 0), 1, 8) := by kernel_rfl

set_option maxRecDepth 100000 in
set_option maxHeartbeats 2000000 in
theorem ints_eq (w : World) (L M : List Nat) (va vb : Value) (x y : List Int) (ha : Src w L va x.length (ins x)) (hb : Src w M vb y.length (ins y)) (hxl : x.length ≤ 9223372036854775807) (hyl : y.length ≤ 9223372036854775807) :
    Calls Try.prog 57 #[va, vb] w fun e w' => e = .returned (.bool (decide (x = y))) ∧ Tch [] w w' := by
  obtain ⟨ao, ca, rfl⟩ := ha.form
  obtain ⟨bo, cb, rfl⟩ := hb.form
  by_cases hl : x.length = y.length
  · go_enter Try.func57, Try.ntmps57
    go_wp2_with fail
    go_loopw [5] (fun i wr => ∃ k : Nat, k ≤ x.length ∧ i = .int .i64 k ∧ (x = y) = (x.drop k = y.drop k) ∧ Tch [] w wr) (fun i _ => x.length - (intOf i).toNat)
    case atStart => exact ⟨0, by omega, rfl, by simp, Tch.refl _ _⟩
    case round =>
      obtain ⟨k, hk, rfl, he, ht⟩ := hrel
      by_cases hkl : k < x.length
      · obtain ⟨ad, rfl, h1, h2, h3⟩ := (ha.tch ht (by simp)).num hkl
        obtain ⟨bd, rfl, h4, h5, h6⟩ := (hb.tch ht (by simp)).num (k := k) (by omega)
        rw [eq_at x y k hkl (by omega)] at he
        have hE := Lib.hid he; clear he
        have hky : k < y.length := by omega
        by_cases hxy : x[k] = y[k]
        · go_wp2_with fail
          go_quiet (fail)
          go_wp2_with fail
          go_roundw
          case rel => exact ⟨k + 1, by omega, by go_num, by rw [hE.out]; simp [hxy], ht.drewN _⟩
          case measure => simp [intOf]; omega
        · go_wp2_with fail
          go_quiet (fail)
          go_wp2_with fail
          go_ret
          exact ⟨by simp [show ¬ x = y from by rw [hE.out]; simp [hxy]], ht.drewN _⟩
      · go_wp2_with fail
        go_ret
        rw [List.drop_eq_nil_of_le (by omega), List.drop_eq_nil_of_le (by omega)] at he
        exact ⟨by simp [he], ht⟩
  · go_enter Try.func57, Try.ntmps57
    go_wp2_with fail
    go_ret
    exact ⟨by simp [show ¬ x = y from fun h => hl (congrArg List.length h)], Tch.refl _ _⟩

set_option maxRecDepth 100000 in
set_option maxHeartbeats 2000000 in
theorem lab_FitsAll (w : World) (L M : List Nat) (va vb : Value) (x y : List Int) (ha : Src w L va x.length (ins x)) (hb : Src w M vb y.length (ins y)) (hxl : x.length ≤ 9223372036854775807) (hyl : y.length ≤ 9223372036854775807) :
    Calls Try.prog 58 #[va, vb] w fun e w' => e = .returned (.bool (fitsL x y)) ∧ Tch [] w w' := by
  obtain ⟨ao, ca, rfl⟩ := ha.form
  obtain ⟨bo, cb, rfl⟩ := hb.form
  by_cases hl : x.length = y.length
  · go_enter Try.func58, Try.ntmps58
    go_wp2_with fail
    skip
    go_loopw [13] (fun i wr => ∃ k : Nat, k ≤ x.length ∧ i = .int .i64 k ∧ fitsL x y = fitsL (x.drop k) (y.drop k) ∧ Tch [] w wr) (fun i _ => x.length - (intOf i).toNat)
    case atStart => exact ⟨0, by omega, rfl, by simp, Tch.refl _ _⟩
    case round =>
      obtain ⟨k, hk, rfl, he, ht⟩ := hrel
      by_cases hkl : k < x.length
      · obtain ⟨ad, rfl, h1, h2, h3⟩ := (ha.tch ht (by simp)).num hkl
        obtain ⟨bd, rfl, h4, h5, h6⟩ := (hb.tch ht (by simp)).num (k := k) (by omega)
        rw [fitsL_at x y k hkl (by omega)] at he
        have hE := Lib.hid he; clear he
        have hky : k < y.length := by omega
        cases hxy : fitsB x[k] y[k]
        · have hf : ∀ w, Calls Try.prog 27 #[.int .i64 x[k], .int .i64 y[k]] w fun e w' => e = .returned (.bool false) ∧ w' = w := fun w => (lab_Fits _ _ w).mono fun _ _ h => ⟨by rw [h.1, hxy], h.2.symm⟩
          go_wp2_with fail
          go_quiet ((go_at_call 27; exact Calls.quiet_of_same (hf _)))
          go_wp2_with fail
          go_ret
          exact ⟨by simp [show fitsL x y = false from by rw [hE.out]; simp [hxy]], ht.drewN _⟩
        · have hf : ∀ w, Calls Try.prog 27 #[.int .i64 x[k], .int .i64 y[k]] w fun e w' => e = .returned (.bool true) ∧ w' = w := fun w => (lab_Fits _ _ w).mono fun _ _ h => ⟨by rw [h.1, hxy], h.2.symm⟩
          go_wp2_with fail
          go_quiet ((go_at_call 27; exact Calls.quiet_of_same (hf _)))
          go_wp2_with fail
          go_roundw
          case rel => exact ⟨k + 1, by omega, by go_num, by rw [hE.out]; simp [hxy], ht.drewN _⟩
          case measure => simp [intOf]; omega
      · go_wp2_with fail
        go_ret
        rw [List.drop_eq_nil_of_le (by omega), List.drop_eq_nil_of_le (by omega)] at he
        exact ⟨by simp [he, fitsL], ht⟩
  · go_enter Try.func58, Try.ntmps58
    go_wp2_with fail
    go_ret
    exact ⟨by simp [show fitsL x y = false from fitsL_length x y hl], Tch.refl _ _⟩

set_option maxRecDepth 100000 in
set_option maxHeartbeats 2000000 in
theorem ref_FitsAll (w : World) (L M : List Nat) (va vb : Value) (x y : List Int) (ha : Src w L va x.length (ins x)) (hb : Src w M vb y.length (ins y)) (hxl : x.length ≤ 9223372036854775807) (hyl : y.length ≤ 9223372036854775807) :
    Calls Try.prog 59 #[va, vb] w fun e w' => e = .returned (.bool (fitsL x y)) ∧ Tch [] w w' := by
  obtain ⟨ao, ca, rfl⟩ := ha.form
  obtain ⟨bo, cb, rfl⟩ := hb.form
  by_cases hl : x.length = y.length
  · go_enter Try.func59, Try.ntmps59
    go_wp2_with fail
    skip
    go_loopw [5] (fun i wr => ∃ k : Nat, k ≤ x.length ∧ i = .int .i64 k ∧ fitsL x y = fitsL (x.drop k) (y.drop k) ∧ Tch [] w wr) (fun i _ => x.length - (intOf i).toNat)
    case atStart => exact ⟨0, by omega, rfl, by simp, Tch.refl _ _⟩
    case round =>
      obtain ⟨k, hk, rfl, he, ht⟩ := hrel
      by_cases hkl : k < x.length
      · obtain ⟨ad, rfl, h1, h2, h3⟩ := (ha.tch ht (by simp)).num hkl
        obtain ⟨bd, rfl, h4, h5, h6⟩ := (hb.tch ht (by simp)).num (k := k) (by omega)
        rw [fitsL_at x y k hkl (by omega)] at he
        have hE := Lib.hid he; clear he
        have hky : k < y.length := by omega
        cases hxy : fitsB x[k] y[k]
        · have hf : ∀ w, Calls Try.prog 37 #[.int .i64 x[k], .int .i64 y[k]] w fun e w' => e = .returned (.bool false) ∧ w' = w := fun w => (ref_Fits _ _ w).mono fun _ _ h => ⟨by rw [h.1, hxy], h.2.symm⟩
          go_wp2_with fail
          go_quiet ((go_at_call 37; exact Calls.quiet_of_same (hf _)))
          go_wp2_with fail
          go_ret
          exact ⟨by simp [show fitsL x y = false from by rw [hE.out]; simp [hxy]], ht.drewN _⟩
        · have hf : ∀ w, Calls Try.prog 37 #[.int .i64 x[k], .int .i64 y[k]] w fun e w' => e = .returned (.bool true) ∧ w' = w := fun w => (ref_Fits _ _ w).mono fun _ _ h => ⟨by rw [h.1, hxy], h.2.symm⟩
          go_wp2_with fail
          go_quiet ((go_at_call 37; exact Calls.quiet_of_same (hf _)))
          go_wp2_with fail
          go_roundw
          case rel => exact ⟨k + 1, by omega, by go_num, by rw [hE.out]; simp [hxy], ht.drewN _⟩
          case measure => simp [intOf]; omega
      · go_wp2_with fail
        go_ret
        rw [List.drop_eq_nil_of_le (by omega), List.drop_eq_nil_of_le (by omega)] at he
        exact ⟨by simp [he, fitsL], ht⟩
  · go_enter Try.func59, Try.ntmps59
    go_wp2_with fail
    go_ret
    exact ⟨by simp [show fitsL x y = false from fitsL_length x y hl], Tch.refl _ _⟩
end Go.Proofs.Ytkakoefdfjooeaa
