/-
  CONTRACTS: verify: next; slices.Clone of numbers. Conditions: sizes of 64 bits.
-/
import Derived.Test.YtpabkjjonbhdeaaDoorHVe1
import Derived.Lib.SliceRun
namespace Go.Proofs.YtpabkjjonbhdeaaDoor
open Go.RowKit Go.Tcn
set_option linter.unusedVariables false
set_option linter.unusedSimpArgs false
theorem NewI.old {w w1 w' : World} {e : Ending} {l : List Int} (h : NewI w1 w' e l) (t : w.heap.size ≤ w1.heap.size) : NewI w w' e l := by
  obtain ⟨ao, cap, h1, h2⟩ := h.ex
  exact ⟨ao, cap, h1, fun M hM => h2 M (fun i hi => Nat.lt_of_lt_of_le (hM i hi) t)⟩
theorem info_intC : (Tryd.prog.info? 3).map (fun i => (i.zero, i.size, i.bytes)) = some (some (.int .i64 0), 1, 8) := by kernel_rfl
set_option maxRecDepth 100000 in
set_option maxHeartbeats 4000000 in
theorem ve_Clone (w : World) (ao : Option Addr) (c : Nat) (l : List Int) (hl : RInts w [] (.slice ao l.length c) l) (hm : l.length ≤ 100000) :
    Calls Tryd.prog 45 #[.slice ao l.length c] w fun e w' => NewI w w' e l ∧ Tch [] w w' := by
  obtain ⟨i0, hi0, hz00, hz01, hz02⟩ := info_parts info_intC
  have hnil := fun (W : World) (a : Option Addr) (n d : Nat) => Lib.run_eql_slice_nil (P := Tryd.prog) W 22 3 a n d 0 0 Tryd.underlying22
  cases ao with
  | none =>
    rcases hl.ex with ⟨_, h0, _⟩ | ⟨ad, c', h0, _⟩
    · have hc : l = [] := List.eq_nil_of_length_eq_zero h0
      subst hc
      go_enter Tryd.func45, Tryd.ntmps45
      go_wp2_with fail
      go_ret
      exact ⟨⟨none, 0, rfl, fun M hM => ⟨.inl ⟨rfl, rfl, rfl⟩⟩⟩, Tch.refl _ _⟩
    · cases h0
  | some ad =>
    have hown0 : (w.alloc (.cells #[] 3)).ownsRow 0 3 1 (.slice (some ⟨w.heap.size, 0, none⟩) 0 0) 0 [] := World.ownsRow_lit w #[] 0 (Nat.zero_le _) (by decide) rfl
    have ta : Tch [] w (w.alloc (.cells #[] 3)) := (Tch.refl [] w).alloc _
    have hS : RInts (w.alloc (.cells #[] 3)) [] (.slice (some ad) l.length c) l := hl.tch ta (by simp)
    have hbnd : 0 + l.length ≤ 9223372036854775807 ∧ (0 + l.length) * 8 ≤ 140737488355328 := by omega
    go_enter Tryd.func45, Tryd.ntmps45
    go_wp2_with (at_builtin; refine wpList_append_any _ rfl (.tmp 5) (.tmp 6) 22 rfl 3 i0 (.int .i64 0) 1 8 Tryd.underlying22 hi0 hz00 hz01 hz02 rfl (by decide) (.slice (some ⟨w.heap.size, 0, none⟩) 0 0) 0 [] rfl hown0 [] (.slice (some ad) l.length c) l.length (ints l) rfl hS (by simp) (ints_one l) hbnd ?_; intro ao5 cap5 w5 hown5 hgrow5 hat5)
    go_ret
    simp only [Nat.zero_add, List.nil_append] at hown5 hat5 ⊢
    have hge : ∀ k, (Value.slice ao5 l.length cap5).ownBlock = some k → w.heap.size ≤ k := fun k hk => by
      rcases hat5 with e | e
      · rw [e] at hk; simp [Value.ownBlock] at hk; omega
      · rw [e] at hk; simp at hk; omega
    exact ⟨⟨ao5, cap5, rfl, fun M hM => src_of_owns hown5 M (fun k hk hx => by have := hge k hk; have := hM k hx; omega)⟩, ta.grown hgrow5 (fun k hk => .inr (by simp [Value.ownBlock] at hk; omega))⟩
set_option maxRecDepth 100000 in
set_option maxHeartbeats 4000000 in
theorem ve_next (w : World) (x : Ins) (pc : Nat) (hx : 0 ≤ x.a) (hp : pc ≤ 100000) :
    Calls Tryd.prog 30 #[.agg #[.int .i64 x.op, .int .i64 x.a, .int .i64 x.b], .int .i64 (pc : Int)] w fun e w' => NewI w w' e ((nextF x pc).map Int.ofNat) ∧ Tch [] w w' := by
  obtain ⟨op, a, b⟩ := x
  dsimp only at hx
  obtain ⟨k, hk⟩ : ∃ k : Nat, a = k := ⟨a.toNat, by omega⟩
  subst hk
  obtain ⟨V1, hV1⟩ : ∃ W, W = w.alloc (.cells #[.int .i64 op, .int .i64 (k : Int), .int .i64 b] 24) := ⟨_, rfl⟩
  have tV : Tch [] w V1 := by rw [hV1]; exact (Tch.refl [] w).alloc _
  have di : By V1 w.heap.size (.int .i64 op) (.int .i64 (k : Int)) (.int .i64 b) := by rw [hV1]; exact By.new _ _ _ _ _
  have zV := tV.size
  obtain ⟨g, hg⟩ : ∃ g, g = w.heap.size := ⟨_, rfl⟩
  rw [← hg] at di
  obtain ⟨d0, d1, d2, f0, f1, f2⟩ := di
  have hc : op = 23 ∨ op = 24 ∨ op = 39 ∨ (¬ op = 23 ∧ ¬ op = 24 ∧ ¬ op = 39) := by omega
  rcases hc with rfl | rfl | rfl | ⟨n1, n2, n3⟩
  · have ht : (nextF ⟨23, k, b⟩ pc).map Int.ofNat = [(k : Int)] := by simp [nextF]
    rw [ht]
    clear ht
    go_enter Tryd.func30, Tryd.ntmps30
    go_upto_region 1 with fail
    rw [← hV1, ← hg]
    clear hV1 hg
    go_wp2_with fail
    go_ret
    exact ⟨NewI.old ⟨_, _, rfl, new_lit V1 [(k : Int)] #[.int .i64 (k : Int)] rfl⟩ zV, tV.alloc _⟩
  · have ht : (nextF ⟨24, k, b⟩ pc).map Int.ofNat = [(pc : Int) + 1, (k : Int)] := by simp [nextF]
    rw [ht]
    clear ht
    go_enter Tryd.func30, Tryd.ntmps30
    go_upto_region 1 with fail
    rw [← hV1, ← hg]
    clear hV1 hg
    go_wp2_with fail
    go_ret
    exact ⟨NewI.old ⟨_, _, rfl, new_lit V1 [(pc : Int) + 1, (k : Int)] #[.int .i64 ((pc : Int) + 1), .int .i64 (k : Int)] rfl⟩ zV, tV.alloc _⟩
  · have ht : (nextF ⟨39, k, b⟩ pc).map Int.ofNat = [] := by simp [nextF]
    rw [ht]
    clear ht
    go_enter Tryd.func30, Tryd.ntmps30
    go_upto_region 1 with fail
    rw [← hV1, ← hg]
    clear hV1 hg
    go_wp2_with fail
    go_ret
    exact ⟨⟨none, 0, rfl, fun M hM => ⟨.inl ⟨rfl, rfl, rfl⟩⟩⟩, tV⟩
  · have ht : (nextF ⟨op, k, b⟩ pc).map Int.ofNat = [(pc : Int) + 1] := by simp [nextF, n1, n2, n3]
    rw [ht]
    clear ht
    go_enter Tryd.func30, Tryd.ntmps30
    go_upto_region 1 with fail
    rw [← hV1, ← hg]
    clear hV1 hg
    go_wp2_with fail
    go_ret
    exact ⟨NewI.old ⟨_, _, rfl, new_lit V1 [(pc : Int) + 1] #[.int .i64 ((pc : Int) + 1)] rfl⟩ zV, tV.alloc _⟩
end Go.Proofs.YtpabkjjonbhdeaaDoor
