/-
  CONTRACTS: image: which kinds and results may be, and lists of them. Conditions: none.
-/
import Derived.Test.YtapephelfijcbaaDoorImg
import Derived.Test.YtapephelfijcbaaDoorBase
import Derived.Test.YtapephelfijcbaaDoorHand
namespace Go.Tcn
open Go.RowKit
set_option linter.unusedVariables false
set_option linter.unusedSimpArgs false
def kindB (k : Int) : Bool := decide (1 ≤ k ∧ k ≤ 4)
def resB (k : Int) : Bool := decide (0 ≤ k ∧ k ≤ 4)
/-- The first that is no kind. -/
def badFrom : List Int → Nat → Int
  | [], _ => -1
  | x :: l, k => if kindB x = false then (k : Int) else badFrom l (k + 1)
theorem badFrom_drop (l : List Int) (k : Nat) (hk : k < l.length) : badFrom (l.drop k) k = if kindB l[k] = false then (k : Int) else badFrom (l.drop (k + 1)) (k + 1) := by
  rw [List.drop_eq_getElem_cons hk]; rfl
theorem badFrom_all (l : List Int) (k : Nat) : decide (0 ≤ badFrom l k) = !l.all kindB := by
  induction l generalizing k with
  | nil => rfl
  | cons x l ih =>
    unfold badFrom
    cases h : kindB x
    · rw [if_pos rfl]; simp [h]
    · rw [if_neg (by simp), ih]; simp [h]
def kindsB (l : List Int) (most : Int) : Bool := decide ((l.length : Int) ≤ most) && l.all kindB
def runeB (r : Int) : Bool := decide (97 ≤ r ∧ r ≤ 122 ∨ 48 ≤ r ∧ r ≤ 57 ∨ r = 45 ∨ r = 46 ∨ 224 ≤ r ∧ r ≤ 255)
end Go.Tcn
namespace Go.Proofs.YtapephelfijcbaaDoor
open Go.RowKit Go.Tcn
set_option linter.unusedVariables false
set_option linter.unusedSimpArgs false
set_option maxHeartbeats 4000000 in
theorem im_isKind (w : World) (k : Int) : Calls Tryd.prog 70 #[.int .i64 k] w fun e w' => e = .returned (.bool (kindB k)) ∧ w = w' := by
  go_enter Tryd.func70, Tryd.ntmps70
  go_wp2
  all_goals
    go_ret
    refine ⟨?_, rfl⟩
    first | (simp_all [kindB]; done) | (simp_all [kindB]; omega) | (congr 2; simp_all [kindB]; omega)
set_option maxHeartbeats 4000000 in
theorem im_kone (w : World) (k : Int) : Calls Tryd.prog 69 #[.int .i64 k] w fun e w' => e = .returned (.bool (!kindB k)) ∧ w = w' := by
  go_enter Tryd.func69, Tryd.ntmps69
  go_wp2_with fail
  refine (im_isKind _ k).mono ?_
  rintro e w1 ⟨rfl, rfl⟩
  go_wp2_with fail
  go_ret
  exact ⟨rfl, rfl⟩
set_option maxRecDepth 100000 in
set_option maxHeartbeats 4000000 in
theorem im_idx (w : World) (v : Value) (l : List Int) (h : RInts w [] v l) (hm : l.length ≤ 9223372036854775807) :
    Calls Tryd.prog 87 #[v, .func (.func 69) #[] #[]] w fun e w' => e = .returned (.int .i64 (badFrom l 0)) ∧ w = w' := by
  obtain ⟨a0, c0, rfl⟩ := h.form
  go_enter Tryd.func87, Tryd.ntmps87
  go_wp2_with fail
  go_loopw [8] (fun i wz => ∃ k : Nat, k ≤ l.length ∧ i = .int .i64 k ∧ badFrom l 0 = badFrom (l.drop k) k ∧ w = wz) (fun i _ => l.length - (intOf i).toNat)
  case atStart => exact ⟨0, by omega, rfl, rfl, rfl⟩
  case round =>
    obtain ⟨k, hk1, rfl, hf, rfl⟩ := hrel
    by_cases hk : k < l.length
    · obtain ⟨ad, rfl, _, _, hq⟩ := Src.at h (j := k) (by simpa using hk)
      have hq0 : w.cell? (ad.add k) = some (.int .i64 l[k]) := by simpa [ints] using hq
      have hfd := badFrom_drop l k hk
      clear hq
      generalize l[k] = x at *
      rw [hfd] at hf
      have HF := Lib.hid hf; clear hf hfd
      go_wp2_with fail
      refine (im_kone _ x).mono ?_
      rintro e w1 ⟨rfl, rfl⟩
      cases hb : kindB x
      · go_wp2_with fail
        (first | go_ret | go_ret2 | go_end0)
        exact ⟨by rw [HF.out, if_pos hb]; rfl, rfl⟩
      · go_wp2_with fail
        go_roundw
        case rel => exact ⟨k + 1, by omega, by go_num, by rw [HF.out, if_neg (by simp [hb])], by first | rfl | trivial⟩
        case measure => simp [intOf]; omega
    · have hn : badFrom l 0 = -1 := by rw [hf, List.drop_eq_nil_of_le (by omega)]; rfl
      clear hf
      go_wp2_with fail
      (first | go_ret | go_ret2 | go_end0)
      exact ⟨by rw [hn]; rfl, rfl⟩
set_option maxRecDepth 100000 in
set_option maxHeartbeats 4000000 in
theorem im_con (w : World) (v : Value) (l : List Int) (h : RInts w [] v l) (hm : l.length ≤ 9223372036854775807) :
    Calls Tryd.prog 68 #[v, .func (.func 69) #[] #[]] w fun e w' => e = .returned (.bool (!l.all kindB)) ∧ w = w' := by
  go_enter Tryd.func68, Tryd.ntmps68
  go_wp2_with fail
  refine (im_idx _ v l h hm).mono ?_
  rintro e w1 ⟨rfl, rfl⟩
  have hd := badFrom_all l 0
  generalize badFrom l 0 = b at *
  have HD := Lib.hid hd; clear hd
  go_wp2_with fail
  go_ret
  exact ⟨by rw [← HD.out]; rfl, rfl⟩
set_option maxRecDepth 100000 in
set_option maxHeartbeats 4000000 in
theorem im_kinds (w : World) (v : Value) (l : List Int) (h : RInts w [] v l) (hm : l.length ≤ 9223372036854775807) (most : Int) :
    Calls Tryd.prog 42 #[v, .int .i64 most] w fun e w' => e = .returned (.bool (kindsB l most)) ∧ w = w' := by
  have hC := im_con w v l h hm
  obtain ⟨a0, c0, rfl⟩ := h.form
  unfold kindsB
  by_cases hl : (l.length : Int) ≤ most
  · have hd : decide ((l.length : Int) ≤ most) = true := decide_eq_true hl
    go_enter Tryd.func42, Tryd.ntmps42
    go_wp2_with fail
    refine hC.mono ?_
    rintro e w1 ⟨rfl, rfl⟩
    cases hb : l.all kindB
    · go_wp2_with fail
      go_ret
      exact ⟨by rw [hd, hb]; rfl, rfl⟩
    · go_wp2_with fail
      go_ret
      exact ⟨by rw [hd, hb]; rfl, rfl⟩
  · have hd : decide ((l.length : Int) ≤ most) = false := decide_eq_false hl
    go_enter Tryd.func42, Tryd.ntmps42
    go_wp2_with fail
    go_ret
    exact ⟨by simp [hl], rfl⟩
set_option maxHeartbeats 4000000 in
theorem im_isResult (w : World) (k : Int) : Calls Tryd.prog 73 #[.int .i64 k] w fun e w' => e = .returned (.bool (resB k)) ∧ w = w' := by
  have hk : resB k = (decide (k = 0) || kindB k) := by
    apply Bool.eq_iff_iff.2
    simp [resB, kindB]
    omega
  by_cases h0 : k = 0
  · subst h0
    go_enter Tryd.func73, Tryd.ntmps73
    go_wp2_with fail
    go_ret
    exact ⟨rfl, rfl⟩
  · have hb : (k == 0) = false := beq_eq_false_iff_ne.2 h0
    go_enter Tryd.func73, Tryd.ntmps73
    go_wp2_with fail
    refine (im_isKind _ k).mono ?_
    rintro e w1 ⟨rfl, rfl⟩
    have HK := Lib.hid hk; clear hk
    go_wp2_with fail
    go_ret
    exact ⟨by rw [HK.out]; simp [h0], rfl⟩
set_option maxRecDepth 100000 in
set_option maxHeartbeats 8000000 in
theorem im_isRune (w : World) (r : Int) : Calls Tryd.prog 41 #[.int .i32 r] w fun e w' => e = .returned (.bool (runeB r)) ∧ w = w' := by
  go_enter Tryd.func41, Tryd.ntmps41
  go_wp2
  all_goals
    go_ret
    refine ⟨?_, rfl⟩
    first
      | rfl
      | (show Ending.returned (Value.bool true) = _; rw [show runeB _ = true by unfold runeB; simp; omega])
      | (show Ending.returned (Value.bool false) = _; rw [show runeB _ = false by unfold runeB; simp; omega])
      | (show Ending.returned (Value.bool _) = Ending.returned (Value.bool (runeB r)); congr 2; apply Bool.eq_iff_iff.2; simp [runeB]; omega)
end Go.Proofs.YtapephelfijcbaaDoor
