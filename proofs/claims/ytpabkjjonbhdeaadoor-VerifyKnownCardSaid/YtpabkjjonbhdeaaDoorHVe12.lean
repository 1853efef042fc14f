/-
  CONTRACTS: slices.Grow and slices.Concat of numbers. Conditions: short lists.
-/
import Derived.Test.YtpabkjjonbhdeaaDoorHVe5
import Derived.Lib.AppendZerosOnto
namespace Go.Proofs.YtpabkjjonbhdeaaDoor
open Go.RowKit Go.Tcn
set_option linter.unusedVariables false
set_option linter.unusedSimpArgs false
set_option maxRecDepth 100000 in
set_option maxHeartbeats 4000000 in
theorem sl_Grow (w : World) (n : Nat) (h1 : 1 ≤ n) (hn : n ≤ 100000) :
    Calls Tryd.prog 44 #[.slice none 0 0, .int .i64 (n : Int)] w fun e w' => ∃ cap, e = .returned (.slice (some ⟨w.heap.size, 0, none⟩) 0 cap) ∧ w'.ownsRow 0 3 1 (.slice (some ⟨w.heap.size, 0, none⟩) 0 cap) 0 [] ∧ Tch [] w w' := by
  obtain ⟨i0, hi0, hz00, hz01, hz02⟩ := info_parts info_intC
  have hold : (Builtin.firstCells i0.size 0 (.slice none 0 0)).run Tryd.prog w.drew = .ok ([] : List Value).toArray w.drew := run_firstCells_none w.drew i0.size 0 0 0
  have hrz : ∀ ty, (Builtin.append_ #[22, 3] ty #[.slice none 0 0, .int .i64 (n : Int)]).run Tryd.prog w =
      .ok (.slice (some ⟨w.heap.size, 0, none⟩) n (grownCap w n 0 3)) (w.drew.alloc (.cells (([] : List Value).toArray ++ Builtin.zeroCells (Value.int .i64 0).cells n ++ Builtin.zeroCells (Value.int .i64 0).cells (grownCap w n 0 3 - n)) 3)) := fun ty => by
    have h := Lib.run_append_grow_zeros w 22 3 ty 3 i0 (.int .i64 0) .i64 .i64 Tryd.underlying22 Tryd.underlying3 hi0 hz00 none 0 0 [] hold n (by omega) (by rw [hz01]; omega) (by omega) (by omega) (by rw [hz02]; omega)
      (by rw [hz02]; exact growslice_fits (by omega) (by omega))
    rw [Nat.zero_add] at h
    exact h
  have hGn : n ≤ grownCap w n 0 3 := grownCap_ge w _ _ _
  have hG63 : grownCap w n 0 3 ≤ maxLen := grownCap_le_maxLen w n 0 3 (by unfold maxLen; omega)
  obtain ⟨G, hG⟩ : ∃ G, G = grownCap w n 0 3 := ⟨_, rfl⟩
  rw [← hG] at hrz hGn hG63
  have hown : (w.drew.alloc (.cells (([] : List Value).toArray ++ Builtin.zeroCells (Value.int .i64 0).cells n ++ Builtin.zeroCells (Value.int .i64 0).cells (G - n)) 3)).ownsRow 0 3 1 (.slice (some ⟨w.heap.size, 0, none⟩) 0 G) 0 [] :=
    ⟨by simp, .inr ⟨w.heap.size, G, _, rfl, Nat.zero_le _, heap_alloc_new w.drew _, Nat.zero_le _, hG63, by simp [Builtin.zeroCells, Value.cells]; omega, by simp⟩⟩
  have tA : Tch [] w (w.drew.alloc (.cells (([] : List Value).toArray ++ Builtin.zeroCells (Value.int .i64 0).cells n ++ Builtin.zeroCells (Value.int .i64 0).cells (G - n)) 3)) := ((Tch.refl [] w).drew).alloc _
  clear hold hG
  generalize w.drew.alloc (.cells (([] : List Value).toArray ++ Builtin.zeroCells (Value.int .i64 0).cells n ++ Builtin.zeroCells (Value.int .i64 0).cells (G - n)) 3) = W at *
  go_enter Tryd.func44, Tryd.ntmps44
  go_wp2_with (at_builtin; refine Lib.wpList_append_run _ rfl _ _ _ _ rfl _ _ rfl rfl _ _ (hrz _) ?_)
  all_goals (go_ret; exact ⟨G, rfl, hown, tA⟩)
def CatR (nl nm : Nat) (l m : List Int) (k cnt : Nat) (xs : List Int) : Prop := (k = 0 ∧ cnt = 0 ∧ xs = []) ∨ (k = 1 ∧ cnt = nl ∧ xs = l) ∨ (k = 2 ∧ cnt = nl + nm ∧ xs = l ++ m)
set_option maxRecDepth 100000 in
set_option maxHeartbeats 16000000 in
theorem sl_Concat (w : World) (g : Nat) (T : TypeId) (ao bo : Option Addr) (c d : Nat) (l m : List Int) (hg : w.heap[g]? = some (.cells #[.slice ao l.length c, .slice bo m.length d] T (0, 0))) (hl : RInts w [] (.slice ao l.length c) l) (hm : RInts w [] (.slice bo m.length d) m) (hll : l.length ≤ 10000) (hmm : m.length ≤ 10000) :
    Calls Tryd.prog 25 #[.slice (some ⟨g, 0, none⟩) 2 2] w fun e w' => ∃ ao' cap, e = .returned (.slice ao' (l ++ m).length cap) ∧ w'.ownsRow 0 3 1 (.slice ao' (l ++ m).length cap) (l ++ m).length (ints (l ++ m)) ∧ (∀ k, (Value.slice ao' (l ++ m).length cap).ownBlock = some k → w.heap.size ≤ k) ∧ Tch [] w w' := by
  have q0 : w.cell? ⟨g, 0, none⟩ = some (.slice ao l.length c) := by simp [World.cell?, hg]
  have q1 : w.cell? ⟨g, 1, none⟩ = some (.slice bo m.length d) := by simp [World.cell?, hg]
  obtain ⟨i0, hi0, hz00, hz01, hz02⟩ := info_parts info_intC
  have hgl := heap_lt hg
  clear hg
  have hGr : ∀ (n : Nat), n ≤ 20000 → Calls Tryd.prog 44 #[.slice none 0 0, .int .i64 (n : Int)] w fun e w' => (∃ ao' cap, e = .returned (.slice ao' 0 cap) ∧ w'.ownsRow 0 3 1 (.slice ao' 0 cap) 0 [] ∧ (∀ k, (Value.slice ao' 0 cap).ownBlock = some k → w.heap.size ≤ k)) ∧ Tch [] w w' := fun n hn => by
    by_cases h1 : 1 ≤ n
    · exact (sl_Grow w n h1 (by omega)).mono fun e w' ⟨cap, h2, h3, h4⟩ => ⟨⟨_, cap, h2, h3, fun k hk => by simp [Value.ownBlock] at hk; omega⟩, h4⟩
    · obtain rfl : n = 0 := by omega
      go_enter Tryd.func44, Tryd.ntmps44
      go_wp2_with fail
      go_ret
      exact ⟨⟨none, 0, rfl, World.ownsRow_nil _ _ _ _, by simp [Value.ownBlock]⟩, Tch.refl _ _⟩
  have hGn := hGr (l.length + m.length) (by omega)
  clear hGr
  have HL := Lib.hid hl
  have HM := Lib.hid hm
  clear hl hm
  obtain ⟨nl, hnl⟩ : ∃ n, l.length = n := ⟨_, rfl⟩
  obtain ⟨nm, hnm⟩ : ∃ n, m.length = n := ⟨_, rfl⟩
  have HNL := Lib.hid hnl
  have HNM := Lib.hid hnm
  rw [hnl] at q0 hGn hll
  rw [hnm] at q1 hGn hmm
  clear hnl hnm
  have hcast : ((nl + nm : Nat) : Int) = (nl : Int) + (nm : Int) := by omega
  rw [hcast] at hGn
  clear hcast
  go_enter Tryd.func25, Tryd.ntmps25
  go_wp2_with fail
  go_loopw [11, 3] (fun iv sv wz => ∃ k : Nat, k ≤ 2 ∧ iv = .int .i64 k ∧ (k = 0 ∧ sv = .int .i64 0 ∨ k = 1 ∧ sv = .int .i64 (nl : Int) ∨ k = 2 ∧ sv = .int .i64 ((nl : Int) + (nm : Int))) ∧ w = wz) (fun iv _ _ => 2 - (intOf iv).toNat)
  case atStart => exact ⟨0, by omega, rfl, .inl ⟨rfl, rfl⟩, rfl⟩
  case round =>
    obtain ⟨k, hk2, rfl, hk, rfl⟩ := hrel
    rcases hk with ⟨rfl, rfl⟩ | ⟨rfl, rfl⟩ | ⟨rfl, rfl⟩
    · go_wp2_with fail
      go_roundw
      case rel => exact ⟨1, by omega, by go_num, .inr (.inl ⟨rfl, by first | rfl | go_num⟩), by first | rfl | trivial⟩
      case measure => simp [intOf]
    · go_wp2_with fail
      go_roundw
      case rel => exact ⟨2, by omega, by go_num, .inr (.inr ⟨rfl, by first | rfl | go_num⟩), by first | rfl | trivial⟩
      case measure => simp [intOf]
    · go_wp2_with fail
      refine hGn.mono ?_
      rintro e w2 ⟨⟨ao2, cap2, rfl, own2, ge2⟩, t2⟩
      clear hGn
      have r0 := (t2.cell (cell_lt q0) (by simp)).trans q0
      have r1 := (t2.cell (cell_lt q1) (by simp)).trans q1
      go_wp2_with fail
      go_loopw [27, 6] (fun iv sv wz => ∃ (k : Nat) (a3 : Option Addr) (c3 cnt : Nat) (xs : List Int), k ≤ 2 ∧ iv = .int .i64 k ∧ sv = .slice a3 cnt c3 ∧ wz.ownsRow 0 3 1 (.slice a3 cnt c3) cnt (ints xs) ∧ (∀ n, (Value.slice a3 cnt c3).ownBlock = some n → w.heap.size ≤ n) ∧ Tch [] w wz ∧ CatR nl nm l m k cnt xs) (fun iv _ _ => 2 - (intOf iv).toNat)
      case atStart => exact ⟨0, ao2, cap2, 0, [], by omega, rfl, rfl, own2, ge2, t2, .inl ⟨rfl, rfl, rfl⟩⟩
      case round =>
        obtain ⟨k, a3, c3, cnt, xs, hk2, rfl, rfl, own3, ge3, t3, hk⟩ := hrel
        clear own2 ge2
        have r0 := (t3.cell (cell_lt q0) (by simp)).trans q0
        have r1 := (t3.cell (cell_lt q1) (by simp)).trans q1
        rcases hk with ⟨rfl, rfl, rfl⟩ | ⟨rfl, rfl, rfl⟩ | ⟨rfl, rfl, rfl⟩
        · have hS : Go.Tcn.Src wr [] (.slice ao nl c) nl (ints l) := by have := HL.out.tch t3 (by simp); unfold RInts at this; rw [HNL.out] at this; exact this
          go_wp2_with (at_builtin; refine wpList_append_any _ rfl (.tmp 31) (.tmp 32) 22 rfl 3 i0 (.int .i64 0) 1 8 Tryd.underlying22 hi0 hz00 hz01 hz02 rfl (by decide) (.slice a3 0 c3) 0 (ints []) rfl own3 [] (.slice ao nl c) nl (ints l) rfl hS (by rw [ints_length, HNL.out]; omega) (ints_one l) (by omega) ?_; intro ao5 cap5 w5 hown5 hgrow5 hat5)
          go_roundw
          case rel =>
            refine ⟨1, ao5, cap5, nl, l, by omega, by go_num, (by first | rfl | rw [Nat.zero_add]), by rw [Nat.zero_add] at hown5; exact hown5, fun n hn => ?_, t3.grown hgrow5 (fun n hn => .inr (ge3 n hn)), .inr (.inl ⟨rfl, rfl, rfl⟩)⟩
            rw [Nat.zero_add] at hat5
            have := t3.size
            rcases hat5 with e | e
            · rw [e] at hn; exact ge3 n hn
            · rw [e] at hn; simp at hn; omega
          case measure => simp [intOf]
        · have hS : Go.Tcn.Src wr [] (.slice bo nm d) nm (ints m) := by have := HM.out.tch t3 (by simp); unfold RInts at this; rw [HNM.out] at this; exact this
          go_wp2_with (at_builtin; refine wpList_append_any _ rfl (.tmp 31) (.tmp 32) 22 rfl 3 i0 (.int .i64 0) 1 8 Tryd.underlying22 hi0 hz00 hz01 hz02 rfl (by decide) (.slice a3 cnt c3) cnt (ints xs) rfl own3 [] (.slice bo nm d) nm (ints m) rfl hS (by rw [ints_length, HNM.out]; omega) (ints_one m) (by omega) ?_; intro ao5 cap5 w5 hown5 hgrow5 hat5)
          go_roundw
          case rel =>
            refine ⟨2, ao5, cap5, cnt + nm, xs ++ m, by omega, by go_num, rfl, by rw [ints_append]; exact hown5, fun n hn => ?_, t3.grown hgrow5 (fun n hn => .inr (ge3 n hn)), .inr (.inr ⟨rfl, rfl, rfl⟩)⟩
            have := t3.size
            rcases hat5 with e | e
            · rw [e] at hn; exact ge3 n hn
            · rw [e] at hn; simp at hn; omega
          case measure => simp [intOf]
        · have hlm : (l ++ m).length = nl + nm := by rw [List.length_append, HNL.out, HNM.out]
          have HLM := Lib.hid hlm
          clear hlm
          go_wp2_with fail
          go_ret
          exact ⟨a3, c3, (by rw [HLM.out]; rfl), by rw [HLM.out]; exact own3, by rw [HLM.out]; exact ge3, t3⟩
end Go.Proofs.YtpabkjjonbhdeaaDoor
