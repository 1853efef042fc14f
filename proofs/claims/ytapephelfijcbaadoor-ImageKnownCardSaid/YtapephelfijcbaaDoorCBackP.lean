/-
  PLAIN LAW: what is laid is read back. Conditions: none.
-/
import Derived.Test.YtapephelfijcbaaDoorKn3
import Derived.Test.YtapephelfijcbaaDoorBackPlain
namespace Go.Proofs.YtapephelfijcbaaDoor
open Go.RowKit Go.Tcn
set_option linter.unusedVariables false
set_option linter.unusedSimpArgs false
theorem tk_1 (v : Int) (r : List Int) : tk (putN v 1 ++ r) false 1 = (v % 256, r, false) := by
  obtain ⟨h1, h2, h3⟩ := rd_app (putN v 1) r 1 (by simp [putN_length])
  unfold tk; rw [h1, h2, h3, beN_put1]; rfl
theorem tk_2 (v : Int) (r : List Int) : tk (putN v 2 ++ r) false 2 = (v % 65536, r, false) := by
  obtain ⟨h1, h2, h3⟩ := rd_app (putN v 2) r 2 (by simp [putN_length])
  unfold tk; rw [h1, h2, h3, beN_put2]; rfl
theorem tk_4 (v : Int) (r : List Int) : tk (putN v 4 ++ r) false 4 = (v % 4294967296, r, false) := by
  obtain ⟨h1, h2, h3⟩ := rd_app (putN v 4) r 4 (by simp [putN_length])
  unfold tk; rw [h1, h2, h3, beN_put4]; rfl
theorem readI_ahead (op a b : Int) (ho : 1 ≤ op ∧ op ≤ 39) (hR : rightI op a b = true) (m r : List Int) (e : opsI op m false = ((a, b), r, false)) : readI (putN op 1 ++ m) false = ((op, a, b), 0, r, false) := by
  obtain ⟨h1, h2, h3⟩ := rd_app (putN op 1) m 1 (by simp [putN_length])
  rw [readI_ok (putN op 1 ++ m) false h1 op (by rw [h2, beN_put1]; omega) ho a b r false (by rw [h3]; exact e), hR]
  simp
theorem rightI_facts (op a b : Int) (h : rightI op a b = true) : 1 ≤ op ∧ op ≤ 39 ∧ limLo op ≤ a ∧ a ≤ limHi op ∧ (op = 27 → 0 ≤ b ∧ b ≤ 6) ∧ (op ≠ 27 → b = 0) := by
  unfold rightI at h
  simp only [decide_eq_true_eq] at h
  obtain ⟨h1, h2, h3, h4, h5⟩ := h
  refine ⟨h1, h2, h3, h4, fun e => ?_, fun e => ?_⟩
  · rw [if_pos e] at h5; omega
  · rw [if_neg e] at h5; exact h5
theorem limHi_le (op : Int) (h : op ≠ 1) : 0 ≤ limLo op ∧ limHi op ≤ 119 := by
  unfold limLo limHi
  rw [if_neg h, if_neg h]
  constructor <;> (repeat' split) <;> omega
theorem limHi_zero (op : Int) (h : op ≠ 1 ∧ op ≠ 23 ∧ op ≠ 24 ∧ op ≠ 27) (ho : opndN op ≠ 1) : limLo op = 0 ∧ limHi op = 0 := by
  unfold opndN at ho
  rw [if_neg (by omega)] at ho
  split at ho
  · omega
  · rename_i h2
    unfold limLo limHi
    constructor
    · (repeat rw [if_neg (by omega)])
    · (repeat rw [if_neg (by omega)])
theorem readI_enc (op a b : Int) (h : rightI op a b = true) (r : List Int) : readI (encI op a b ++ r) false = ((op, a, b), 0, r, false) := by
  obtain ⟨h1, h2, h3, h4, h5, h6⟩ := rightI_facts op a b h
  by_cases k1 : op = 1
  · subst k1
    have hb := h6 (by omega)
    subst hb
    have e3 : limLo 1 = -2147483648 := rfl
    have e4 : limHi 1 = 2147483647 := rfl
    rw [encI_1, List.append_assoc]
    refine readI_ahead _ _ _ ⟨h1, h2⟩ h _ _ ?_
    unfold opsI
    rw [if_pos rfl, tk_4]
    have : s32 (a % 4294967296) = a := by unfold s32; omega
    rw [this]
  have hlim := limHi_le op k1
  by_cases k2 : op = 23
  · subst k2
    have hb := h6 (by omega)
    subst hb
    rw [encI_23, List.append_assoc]
    refine readI_ahead _ _ _ ⟨h1, h2⟩ h _ _ ?_
    unfold opsI
    rw [if_neg (by omega), if_pos (by omega), tk_2]
    have : a % 65536 = a := by omega
    rw [this]
  by_cases k3 : op = 24
  · subst k3
    have hb := h6 (by omega)
    subst hb
    rw [encI_24, List.append_assoc]
    refine readI_ahead _ _ _ ⟨h1, h2⟩ h _ _ ?_
    unfold opsI
    rw [if_neg (by omega), if_pos (by omega), tk_2]
    have : a % 65536 = a := by omega
    rw [this]
  by_cases k4 : op = 27
  · subst k4
    have hb := h5 rfl
    rw [encI_27, List.append_assoc, List.append_assoc]
    refine readI_ahead _ _ _ ⟨h1, h2⟩ h _ _ ?_
    unfold opsI
    rw [if_neg (by omega), if_neg (by omega), if_pos rfl, tk_1, tk_1]
    have e1 : a % 256 = a := by omega
    have e2 : b % 256 = b := by omega
    rw [e1, e2]
  have hb := h6 k4
  subst hb
  by_cases k5 : opndN op = 1
  · rw [encI_one op a 0 ⟨k1, k2, k3, k4⟩ k5, List.append_assoc]
    refine readI_ahead _ _ _ ⟨h1, h2⟩ h _ _ ?_
    unfold opsI
    rw [if_neg k1, if_neg (by omega), if_neg k4, if_pos k5, tk_1]
    have : a % 256 = a := by omega
    rw [this]
  · rw [encI_zero op a 0 ⟨k1, k2, k3, k4⟩ k5]
    refine readI_ahead _ _ _ ⟨h1, h2⟩ h _ _ ?_
    unfold opsI
    rw [if_neg k1, if_neg (by omega), if_neg k4, if_neg k5]
    have hz := limHi_zero op ⟨k1, k2, k3, k4⟩ k5
    have : a = 0 := by omega
    rw [this]
end Go.Proofs.YtapephelfijcbaaDoor
