/-
  CONTRACTS: taciturnhand.Pick and Few. Conditions: the modulus is above 0; the bytes fit.
-/
import Derived.Test.YtapephelfijcbaaGreatDoorHRd
namespace Go.Proofs.YtapephelfijcbaaGreatDoor
open Go.RowKit Go.Tcn
set_option linter.unusedVariables false
set_option linter.unusedSimpArgs false
theorem emod_neg (n m : Int) (h0 : 0 < m) (h : n.tmod m < 0) : n.tmod m + m = n % m := by
  have h1 := Int.tmod_eq_emod (a := n) (b := m)
  have h2 := Int.emod_nonneg n (show m ≠ 0 by omega)
  split at h1 <;> omega
theorem emod_pos (n m : Int) (h0 : 0 < m) (h : 0 ≤ n.tmod m) : n.tmod m = n % m := by
  have h1 := Int.tmod_eq_emod (a := n) (b := m)
  have h2 := Int.emod_lt_of_pos n h0
  split at h1 <;> omega
theorem ret_int {k : IntKind} {a b : Int} (h : a = b) : Ending.returned (.int k a) = .returned (.int k b) := by rw [h]
set_option maxHeartbeats 400000 in
theorem hand_Pick (n m : Int) (hn : -9223372036854775808 ≤ n ∧ n ≤ 9223372036854775807) (h0 : 0 < m) (hm : m ≤ 4611686018427387904) (w : World) :
    Calls Tryz.prog 6 #[.int .i64 n, .int .i64 m] w fun e w' => e = .returned (.int .i64 (n % m)) ∧ w = w' := by
  have b1 := Int.emod_lt_of_pos n h0
  have b2 := Int.emod_nonneg n (show m ≠ 0 by omega)
  by_cases h : n.tmod m < 0
  · have e := emod_neg n m h0 h
    have b3 : -9223372036854775808 ≤ n.tmod m := by omega
    have E := Lib.hid e; clear e
    go_enter Tryz.func6, Tryz.ntmps6
    go_wp2
    go_ret
    exact ⟨ret_int E.out, rfl⟩
  · have e := emod_pos n m h0 (by omega)
    have E := Lib.hid e; clear e
    go_enter Tryz.func6, Tryz.ntmps6
    go_wp2
    go_ret
    exact ⟨ret_int E.out, rfl⟩
set_option maxHeartbeats 400000 in
/-- At most k bytes, in new memory. -/
theorem hand_Few (w : World) (L : List Nat) (x : Value) (b : List Int) (hx : Src w L x b.length (bys b)) (k : Nat) (hk : k ≤ 9223372036854775807) (hb : b.length ≤ 9223372036854775807) (hmb : min b.length k ≤ 140737488355328) :
    Calls Tryz.prog 12 #[x, .int .i64 k] w fun e w' => ∃ ao cap, e = .returned (.slice ao (b.take k).length cap) ∧ w'.ownsRow 0 5 1 (.slice ao (b.take k).length cap) (b.take k).length (bys (b.take k)) ∧ (∀ g, (Value.slice ao (b.take k).length cap).ownBlock = some g → w.heap.size ≤ g) ∧ Tch [] w w' := by
  obtain ⟨i0, hi, hz0, hz1, hz2⟩ := info_parts info_u8
  obtain ⟨ao, cap, rfl⟩ := hx.form
  have hcap : b.length ≤ cap := by
    rcases hx.ex with ⟨h1, h2, _⟩ | ⟨ad, c, h1, h2, _⟩
    · omega
    · simp only [Value.slice.injEq] at h1; omega
  obtain ⟨m, hm⟩ : ∃ m, m = min b.length k := ⟨_, rfl⟩
  have hml : m ≤ b.length := by omega
  have hmt : (b.take k).length = m := by rw [List.length_take]; omega
  have htk : b.take k = b.take m := by
    rw [hm]
    rcases Nat.le_total b.length k with h | h
    · rw [Nat.min_eq_left h, List.take_of_length_le h, List.take_of_length_le (Nat.le_refl _)]
    · rw [Nat.min_eq_right h]
  have hmin : min (b.length : Int) (k : Int) = (m : Int) := by omega
  have ta : Tch [] w (w.alloc (.cells #[] 5)) := (Tch.refl [] w).alloc _
  have hown0 : (w.alloc (.cells #[] 5)).ownsRow 0 5 1 (.slice (some ⟨w.heap.size, 0, none⟩) 0 0) 0 [] := World.ownsRow_lit w #[] 0 (Nat.zero_le _) (by decide) rfl
  have hsrc : Src (w.alloc (.cells #[] 5)) L (.slice ao m cap) m ((bys b).take (m * 1)) := (hx.cut_h hml).tch ta (by simp)
  have hone : ∀ u ∈ (bys b).take (m * 1), u.oneCell' = true := fun u hu => bys_one b u (List.mem_of_mem_take hu)
  have hbn : 0 + m ≤ 9223372036854775807 ∧ (0 + m) * 1 ≤ 140737488355328 := by omega
  have hs1 := run_cut_h (P := Tryz.prog) 30 5 1 Tryz.underlying30 cells_u8 isinfo_u8 ao b.length cap m (by omega)
  rw [hmt]
  have HT := Lib.hid htk; have HK := Lib.hid hmt; clear htk hmt hmin
  have hbl : (b.length : Int) ≤ 9223372036854775807 := by omega
  clear hmb
  rcases Nat.lt_or_ge k b.length with hkb | hkb
  · obtain rfl : m = k := by omega
    clear hm
    go_enter Tryz.func12, Tryz.ntmps12
    go_wp2_with (at_builtin; refine wpList_append_any _ rfl (.tmp 5) (.tmp 11) 30 rfl 5 i0 (.int .u8 0) 1 1 Tryz.underlying30 hi hz0 hz1 hz2 rfl (by decide) (.slice (some ⟨w.heap.size, 0, none⟩) 0 0) 0 [] rfl hown0 L (.slice ao m cap) m ((bys b).take (m * 1)) rfl hsrc (by simp; omega) hone hbn ?_; intro ao1 cap1 w1 hown hgrow hat)
    go_ret
    simp only [Nat.zero_add, List.nil_append, Nat.mul_one] at hown hat ⊢
    refine ⟨_, _, rfl, by simpa [bys] using hown, fun g hg => ?_, ta.grown hgrow (by intro k hk; simp [Value.ownBlock] at hk; omega)⟩
    rcases hat with h | h
    · rw [h] at hg; simp [Value.ownBlock] at hg; omega
    · rw [h] at hg; simp at hg; omega
  · obtain rfl : m = b.length := by omega
    clear hm
    go_enter Tryz.func12, Tryz.ntmps12
    go_wp2_with (at_builtin; refine wpList_append_any _ rfl (.tmp 5) (.tmp 11) 30 rfl 5 i0 (.int .u8 0) 1 1 Tryz.underlying30 hi hz0 hz1 hz2 rfl (by decide) (.slice (some ⟨w.heap.size, 0, none⟩) 0 0) 0 [] rfl hown0 L (.slice ao b.length cap) b.length ((bys b).take (b.length * 1)) rfl hsrc (by simp) hone hbn ?_; intro ao1 cap1 w1 hown hgrow hat)
    go_ret
    simp only [Nat.zero_add, List.nil_append, Nat.mul_one] at hown hat ⊢
    refine ⟨_, _, rfl, by rw [HT.out, List.take_length]; rw [List.take_of_length_le (by simp)] at hown; exact hown, fun g hg => ?_, ta.grown hgrow (by intro k hk; simp [Value.ownBlock] at hk; omega)⟩
    rcases hat with h | h
    · rw [h] at hg; simp [Value.ownBlock] at hg; omega
    · rw [h] at hg; simp at hg; omega
end Go.Proofs.YtapephelfijcbaaGreatDoor
