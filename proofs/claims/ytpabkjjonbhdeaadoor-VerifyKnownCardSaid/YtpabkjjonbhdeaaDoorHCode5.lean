/-
  CONTRACTS: code.split, Name, Op, Operands, limits, Right. Conditions: none.
  CONTRACTS: Operands, limits, Right, names, Name, Op of code and taciturnref1. Conditions: none.
  CONTRACTS: names, Name, Op, within, Right of taciturnref1. Conditions: none.
  CONTRACTS: Right of taciturnref1. Conditions: none.
  CONTRACTS: Right of taciturnref1, all of it. Conditions: none.
-/
import Derived.Test.YtpabkjjonbhdeaaDoorHCodeP
import Derived.Test.YtpabkjjonbhdeaaDoorRows
import Derived.Laws.RangeAny
import Derived.Laws.Runes
namespace Go.Proofs.YtpabkjjonbhdeaaDoor
open Go.RowKit Go.Tcn
set_option linter.unusedVariables false
set_option linter.unusedSimpArgs false
theorem words_size : wordsL.length = 176 := by decide +kernel
theorem words_ascii : ∀ c ∈ wordsL, c.toNat < 128 := by decide +kernel
theorem enc_ascii (c : UInt8) (h : c.toNat < 128) : Utf8.encode (c.toNat : Int) = ⟨#[c]⟩ := by
  unfold Utf8.encode
  have hv : Utf8.valid (c.toNat : Int) = true := by rw [validRune_eq]; unfold validRune; simp; omega
  simp [hv, h]
theorem mk_snoc (l : List UInt8) (c : UInt8) : (ByteArray.mk l.toArray ++ ByteArray.mk #[c]) = ByteArray.mk (l ++ [c]).toArray := by
  have := ByteArray.mk_append_mk l [c]
  simpa using this
/-- A name as a string. -/
theorem str_of_nil : (ByteArray.mk ([] : List UInt8).toArray) = ⟨#[]⟩ := rfl
theorem tol (l : List UInt8) : (ByteArray.mk l.toArray).toList = l := by rw [Go.ByteArray.toList_eq]
end Go.Proofs.YtpabkjjonbhdeaaDoor
namespace Go.Proofs.YtpabkjjonbhdeaaDoor
open Go.RowKit Go.Tcn
set_option linter.unusedVariables false
set_option linter.unusedSimpArgs false

set_option maxHeartbeats 2000000 in
theorem code_limits (op : Int) (w : World) : Calls Tryd.prog 59 #[.int .i64 op] w fun e w' => e = .returned (.tuple #[.int .i64 (limLo op), .int .i64 (limHi op)]) ∧ w = w' := by
  go_enter Tryd.func59, Tryd.ntmps59
  go_wp2
  all_goals
    go_ret2
    refine ⟨?_, rfl⟩
    simp only [beq_iff_eq, beq_eq_false_iff_ne, ne_eq] at *
    simp_all [limLo, limHi]
theorem andNot4 (b : Int) (h0 : 0 ≤ b) (h1 : b ≤ 9223372036854775807) : bits .andNot .i64 b 4 ≤ 2 ↔ (b ≤ 2 ∨ 4 ≤ b ∧ b ≤ 6) := by
  obtain ⟨n, rfl⟩ := Int.eq_ofNat_of_zero_le h0
  have hn : n < 9223372036854775808 := by omega
  have e : bits .andNot .i64 (n : Int) 4 = ((n &&& 18446744073709551611 : Nat) : Int) := by
    have hx : n &&& 18446744073709551611 ≤ n := Nat.and_le_left
    show IntKind.i64.wrap ((BitVec.ofInt 64 (n : Int) &&& ~~~BitVec.ofInt 64 (4 : Int)).toNat : Int) = _
    have e1 : (BitVec.ofInt 64 (n : Int)).toNat = n := by rw [BitVec.ofInt_natCast, BitVec.toNat_ofNat]; exact Nat.mod_eq_of_lt (by omega)
    have e2 : (~~~BitVec.ofInt 64 (4 : Int)).toNat = 18446744073709551611 := by decide
    rw [BitVec.toNat_and, e1, e2]
    exact IntWalk.i64_in _ (by omega)
  rw [e]
  by_cases h8 : n < 8
  · have h : n = 0 ∨ n = 1 ∨ n = 2 ∨ n = 3 ∨ n = 4 ∨ n = 5 ∨ n = 6 ∨ n = 7 := by omega
    rcases h with rfl | rfl | rfl | rfl | rfl | rfl | rfl | rfl <;> decide
  · have hs : (n &&& 18446744073709551611) / 8 = n / 8 := by
      have h3 := Nat.shiftRight_and_distrib (a := n) (b := 18446744073709551611) (i := 3)
      rw [Nat.shiftRight_eq_div_pow, Nat.shiftRight_eq_div_pow, Nat.shiftRight_eq_div_pow] at h3
      have e4 : (18446744073709551611 : Nat) / 2 ^ 3 = 2 ^ 61 - 1 := by decide
      rw [e4, Nat.and_two_pow_sub_one_eq_mod] at h3
      have e5 : (2 : Nat) ^ 3 = 8 := rfl
      rw [e5] at h3
      rw [h3]
      exact Nat.mod_eq_of_lt (by omega)
    constructor
    · intro h; omega
    · intro h; omega
set_option maxRecDepth 100000 in
set_option maxHeartbeats 4000000 in
theorem code_Right (op a b : Int) (w : World) (hb : -9223372036854775808 ≤ b ∧ b ≤ 9223372036854775807) : Calls Tryd.prog 42 #[.agg #[.int .i64 op, .int .i64 a, .int .i64 b]] w fun e w' => e = .returned (.bool (rightI op a b)) ∧ Tch [] w w' := by
  have hr : rightI op a b = decide (1 ≤ op ∧ op ≤ 39 ∧ limLo op ≤ a ∧ a ≤ limHi op ∧ (if op = 27 then (0 ≤ b ∧ b ≤ 2 ∨ 4 ≤ b ∧ b ≤ 6) else b = 0)) := rfl
  generalize rightI op a b = R at *
  have HR := Lib.hid hr; clear hr
  have hl := fun w => code_limits op w
  generalize limLo op = lo at *
  generalize limHi op = hi at *
  have tw : Tch [] w (w.alloc (.cells #[.int .i64 op, .int .i64 a, .int .i64 b] 24)) := (Tch.refl [] w).alloc _
  have hrc : (op < 1 ∧ R = false) ∨ (1 ≤ op ∧ 39 < op ∧ R = false) ∨ (1 ≤ op ∧ op ≤ 39 ∧ a < lo ∧ R = false) ∨ (1 ≤ op ∧ op ≤ 39 ∧ lo ≤ a ∧ hi < a ∧ R = false) ∨ (1 ≤ op ∧ op ≤ 39 ∧ lo ≤ a ∧ a ≤ hi ∧ op = 27 ∧ b < 0 ∧ R = false) ∨ (1 ≤ op ∧ op ≤ 39 ∧ lo ≤ a ∧ a ≤ hi ∧ op = 27 ∧ 0 ≤ b ∧ R = decide (bits .andNot .i64 b 4 ≤ 2)) ∨ (1 ≤ op ∧ op ≤ 39 ∧ lo ≤ a ∧ a ≤ hi ∧ op ≠ 27 ∧ R = (b == 0)) := by
    have h := HR.out
    by_cases h1 : 1 ≤ op
    · by_cases h2 : op ≤ 39
      · by_cases h3 : lo ≤ a
        · by_cases h4 : a ≤ hi
          · by_cases h5 : op = 27
            · by_cases h6 : 0 ≤ b
              · have h7 := andNot4 b h6 hb.2
                refine .inr (.inr (.inr (.inr (.inr (.inl ⟨h1, h2, h3, h4, h5, h6, ?_⟩)))))
                rw [h]
                simp only [h1, h2, h3, h4, h5, h6, if_true, true_and, h7]
                simp
              · refine .inr (.inr (.inr (.inr (.inl ⟨h1, h2, h3, h4, h5, by omega, ?_⟩))))
                rw [h]
                simp [h5]
                omega
            · refine .inr (.inr (.inr (.inr (.inr (.inr ⟨h1, h2, h3, h4, h5, ?_⟩)))))
              rw [h]
              simp only [h1, h2, h3, h4, h5, if_false, true_and]
              rfl
          · refine .inr (.inr (.inr (.inl ⟨h1, h2, h3, by omega, by rw [h]; simp; omega⟩)))
        · refine .inr (.inr (.inl ⟨h1, h2, by omega, by rw [h]; simp; omega⟩))
      · refine .inr (.inl ⟨h1, by omega, by rw [h]; simp; omega⟩)
    · refine .inl ⟨by omega, by rw [h]; simp; omega⟩
  clear HR
  rcases hrc with ⟨h1, rfl⟩ | ⟨h1, h2, rfl⟩ | ⟨h1, h2, h3, rfl⟩ | ⟨h1, h2, h3, h4, rfl⟩ | ⟨h1, h2, h3, h4, h5, h6, rfl⟩ | ⟨h1, h2, h3, h4, h5, h6, hR⟩ | ⟨h1, h2, h3, h4, h5, hR⟩
  all_goals
    first | (have HR := Lib.hid hR; clear hR) | skip
    first | (have h5b := beq_iff_eq.2 h5; clear h5) | (have h5b := beq_eq_false_iff_ne.2 h5; clear h5) | skip
    go_enter Tryd.func42, Tryd.ntmps42
    go_wp2_with (go_at_call 59; refine (hl _).mono ?_; rintro e w' ⟨rfl, rfl⟩)
    go_ret
    refine ⟨?_, tw⟩
    first | rfl | (rw [HR.out]; rfl)
end Go.Proofs.YtpabkjjonbhdeaaDoor
namespace Go.Proofs.YtpabkjjonbhdeaaDoor
open Go.RowKit Go.Tcn
set_option linter.unusedVariables false
set_option linter.unusedSimpArgs false
theorem addr0 (b k : Nat) : (⟨b, 0, none⟩ : Addr).add k = ⟨b, k, none⟩ := by
  unfold Addr.add
  split
  · rename_i h; rw [h]
  · simp
def nmVals : List Value := ([] :: nmTab).map fun l => Value.string ⟨l.toArray⟩
theorem nmVals_length : nmVals.length = 40 := rfl
theorem nmVals_at (k : Nat) (h1 : 1 ≤ k) (h2 : k ≤ 39) : nmVals[k]'(by rw [nmVals_length]; omega) = .string ⟨(nmTab[k - 1]'(by show _ < 39; omega)).toArray⟩ := by
  obtain ⟨j, rfl⟩ : ∃ j, k = j + 1 := ⟨k - 1, by omega⟩
  simp [nmVals]
theorem nmAt_at (k : Nat) (h1 : 1 ≤ k) (h2 : k ≤ 39) : nmAt (k : Int) = nmTab[k - 1]'(by show _ < 39; omega) := by
  unfold nmAt
  rw [if_pos (by omega)]
  have hl : k - 1 < nmTab.length := by show _ < 39; omega
  simp [List.getD, hl]
theorem opAt_def (s : List UInt8) : opAt s = match firstW (fun _ w => w == s) nmTab 1 with | some (n, _) => (n : Int) | none => 0 := rfl
end Go.Proofs.YtpabkjjonbhdeaaDoor
namespace Go.Proofs.YtpabkjjonbhdeaaDoor
open Go.RowKit Go.Tcn
set_option linter.unusedVariables false
set_option linter.unusedSimpArgs false
/-- Reads what was laid in a new block. -/
theorem tch_cell {w w' : World} {p : Addr} {v : Value} (t : Tch [] w w') (h : w.cell? p = some v) : w'.cell? p = some v := by rw [t.cell (cell_lt h) (by simp)]; exact h

end Go.Proofs.YtpabkjjonbhdeaaDoor
namespace Go.Proofs.YtpabkjjonbhdeaaDoor
open Go.RowKit Go.Tcn
set_option linter.unusedVariables false
set_option linter.unusedSimpArgs false

end Go.Proofs.YtpabkjjonbhdeaaDoor
