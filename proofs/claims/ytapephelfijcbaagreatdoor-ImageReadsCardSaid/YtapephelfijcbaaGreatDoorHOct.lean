/-
  CONTRACTS: octet.Writer and taciturnref1.Writer lay bytes. Conditions: the writer is owned, its bytes fit.
-/
import Derived.Test.YtapephelfijcbaaGreatDoorRows
import Derived.Test.YtapephelfijcbaaGreatDoorHCodeP
namespace Go.Proofs.YtapephelfijcbaaGreatDoor
open Go.RowKit Go.Tcn
set_option linter.unusedVariables false
set_option linter.unusedSimpArgs false
theorem info_u8 : (Tryz.prog.info? 5).map (fun i => (i.zero, i.size, i.bytes)) = some (some (.int .u8 0), 1, 1) := by kernel_rfl

set_option maxRecDepth 100000 in
set_option maxHeartbeats 1000000 in
theorem oct_put (w : World) (p row : Nat) (l : List Int) (v : Int) (n : Nat) (h : Wr w 95 5 p row l) (hn : n ≤ 4) (hv : 0 ≤ v) (hv' : v < 4294967296) (hl : l.length + 4 ≤ 140737488355328) :
    Calls Tryz.prog 63 #[.pointer (some ⟨p, 0, none⟩), .int .u32 v, .int .i64 n] w fun e w' => e = .returned (.tuple #[]) ∧
      ∃ row', Wr w' 95 5 p row' (l ++ putN v n) ∧ (row' = row ∨ w.heap.size ≤ row') ∧ Tch [p, row] w w' := by
  obtain ⟨i0, hi, hz0, hz1, hz2⟩ := info_parts info_u8
  go_enter Tryz.func63, Tryz.ntmps63
  go_wp2
  go_loopw [6] (fun i wr => ∃ k : Nat, k ≤ n ∧ i = .int .i64 ((k : Int) - 1) ∧ ∃ r m, Wr wr 95 5 p r m ∧ m ++ putN v k = l ++ putN v n ∧ (r = row ∨ w.heap.size ≤ r) ∧ Tch [p, row] w wr) (fun i _ => (intOf i + 1).toNat)
  case atStart => exact ⟨n, Nat.le_refl _, rfl, row, l, h, rfl, Or.inl rfl, Tch.refl _ _⟩
  case round =>
    obtain ⟨k, hk, rfl, r, m, hw, hm, hr, ht⟩ := hrel
    have hlen : m.length + k = l.length + n := by have := congrArg List.length hm; simpa [putN_length] using this
    have HM := Lib.hid hm; clear hm
    have HL := Lib.hid hlen; clear hlen
    by_cases hk0 : k = 0
    · subst hk0
      go_wp2
      go_end0
      have hm := HM.out
      simp only [putN, List.append_nil] at hm
      exact ⟨rfl, r, hm ▸ hw, hr, ht⟩
    · obtain ⟨k', rfl⟩ : ∃ k', k = k' + 1 := ⟨k - 1, by omega⟩
      obtain ⟨v0, hv0, ho, hrow, hne⟩ := hw.ex
      have HR := Lib.hid hrow; clear hrow
      have c0 : wr.cell? ⟨p, 0, none⟩ = some v0 := by simp [World.cell?, hv0]
      have f0 : wr.frozen? ⟨p, 0, none⟩ = false := by simp [World.frozen?, hv0]
      have hbnd : m.length + 1 ≤ 9223372036854775807 ∧ (m.length + 1) * 1 ≤ 140737488355328 := by have := HL.out; omega
      have hplt := hw.lt
      have hp1 : p < (wr.alloc (Obj.cells #[(Value.int IntKind.u8 (IntKind.u8.wrap (v / 2 ^ (8 * k'))))] 5)).drew.heap.size := by simp; omega
      have hne' : some p ≠ v0.ownBlock := fun h => hne h.symm
      have c0' : (wr.alloc (Obj.cells #[(Value.int IntKind.u8 (IntKind.u8.wrap (v / 2 ^ (8 * k'))))] 5)).drew.cell? ⟨p, 0, none⟩ = some v0 := (World.cell?_alloc_past _ _ _ hplt).trans c0
      have f0' : (wr.alloc (Obj.cells #[(Value.int IntKind.u8 (IntKind.u8.wrap (v / 2 ^ (8 * k'))))] 5)).drew.frozen? ⟨p, 0, none⟩ = false := (World.frozen?_alloc_past _ _ _ hplt).trans f0
      have hown0 : (wr.alloc (Obj.cells #[(Value.int IntKind.u8 (IntKind.u8.wrap (v / 2 ^ (8 * k'))))] 5)).drew.ownsRow 0 5 1 v0 m.length (bys m) := ho.alloc _
      have hsrc : Src (wr.alloc (Obj.cells #[(Value.int IntKind.u8 (IntKind.u8.wrap (v / 2 ^ (8 * k'))))] 5)).drew [] (.slice (some ⟨wr.heap.size, 0, none⟩) 1 1) 1 [(Value.int IntKind.u8 (IntKind.u8.wrap (v / 2 ^ (8 * k'))))] := src_new wr _ [] #[(Value.int IntKind.u8 (IntKind.u8.wrap (v / 2 ^ (8 * k'))))] 5 1 1 ((Tch.refl [] _).drew) (by simp)
      have h1c : ∀ u ∈ [(Value.int IntKind.u8 (IntKind.u8.wrap (v / 2 ^ (8 * k'))))], u.oneCell' = true := by intro u hu; simp at hu; subst hu; rfl
      have ew : IntKind.i64.wrap (8 * (k' : Int)) = 8 * (k' : Int) := IntWalk.i64_in _ (by omega)
      have e1 : (0 : Int) ≤ 8 * (k' : Int) := by omega
      have e2 : (8 * (k' : Int)).toNat = 8 * k' := by omega
      have e3 : min (8 * k') 32 = 8 * k' := by omega
      go_wp2
      go_region_law (refine step_append_any _ rfl (.tmp 17) (.tmp 23) 30 rfl 5 i0 (.int .u8 0) 1 1 Tryz.underlying30 hi hz0 hz1 hz2 rfl (by decide) v0 m.length (bys m) rfl hown0 [] _ 1 [(Value.int IntKind.u8 (IntKind.u8.wrap (v / 2 ^ (8 * k'))))] rfl hsrc rfl h1c hbnd ?_; intro ao cap w1 hown hgrow hat; have c1 := (hgrow.cell_far ⟨p, 0, none⟩ hp1 hne').trans c0'; have f1 := (hgrow.frozen_far ⟨p, 0, none⟩ hp1 hne').trans f0')
      all_goals
        go_wp2
        have R := Wr.grow (l := m) (news := [(v / 2 ^ (8 * k')) % 256]) hv0 hne (((Tch.refl [] wr).alloc _).drew) hgrow _ (by rw [← u8_wrap]; exact hown) hat
        obtain ⟨r', R1, R2, R3⟩ := R
        have hrow := HR.out
        go_roundw
        case rel =>
          refine ⟨k', by omega, rfl, r', _, R1, ?_, ?_, ?_⟩
          · rw [← HM.out]; simp [putN]
          · have := ht.size; rw [← hrow] at R2; rcases R2 with h | h
            · rcases hr with h' | h' <;> omega
            · omega
          · rw [← hrow] at R3
            refine ht.trans R3 (fun _ _ x => x) (fun i hi hx => ?_)
            simp at hx ⊢; omega
        case measure => simp [intOf]

set_option maxRecDepth 100000 in
set_option maxHeartbeats 1000000 in
theorem ref_u (w : World) (p row : Nat) (l : List Int) (v : Int) (n : Nat) (h : Wr w 61 5 p row l) (hn : n ≤ 4) (hv : -9223372036854775808 ≤ v ∧ v ≤ 9223372036854775807) (hl : l.length + 4 ≤ 140737488355328) :
    Calls Tryz.prog 68 #[.pointer (some ⟨p, 0, none⟩), .int .i64 v, .int .i64 n] w fun e w' => e = .returned (.tuple #[]) ∧
      ∃ row', Wr w' 61 5 p row' (l ++ putN v n) ∧ (row' = row ∨ w.heap.size ≤ row') ∧ Tch [p, row] w w' := by
  obtain ⟨i0, hi, hz0, hz1, hz2⟩ := info_parts info_u8
  go_enter Tryz.func68, Tryz.ntmps68
  go_wp2
  go_loopw [6] (fun i wr => ∃ k : Nat, k ≤ n ∧ i = .int .i64 ((k : Int) - 1) ∧ ∃ r m, Wr wr 61 5 p r m ∧ m ++ putN v k = l ++ putN v n ∧ (r = row ∨ w.heap.size ≤ r) ∧ Tch [p, row] w wr) (fun i _ => (intOf i + 1).toNat)
  case atStart => exact ⟨n, Nat.le_refl _, rfl, row, l, h, rfl, Or.inl rfl, Tch.refl _ _⟩
  case round =>
    obtain ⟨k, hk, rfl, r, m, hw, hm, hr, ht⟩ := hrel
    have hlen : m.length + k = l.length + n := by have := congrArg List.length hm; simpa [putN_length] using this
    have HM := Lib.hid hm; clear hm
    have HL := Lib.hid hlen; clear hlen
    by_cases hk0 : k = 0
    · subst hk0
      go_wp2
      go_end0
      have hm := HM.out
      simp only [putN, List.append_nil] at hm
      exact ⟨rfl, r, hm ▸ hw, hr, ht⟩
    · obtain ⟨k', rfl⟩ : ∃ k', k = k' + 1 := ⟨k - 1, by omega⟩
      obtain ⟨v0, hv0, ho, hrow, hne⟩ := hw.ex
      have HR := Lib.hid hrow; clear hrow
      have c0 : wr.cell? ⟨p, 0, none⟩ = some v0 := by simp [World.cell?, hv0]
      have f0 : wr.frozen? ⟨p, 0, none⟩ = false := by simp [World.frozen?, hv0]
      have hbnd : m.length + 1 ≤ 9223372036854775807 ∧ (m.length + 1) * 1 ≤ 140737488355328 := by have := HL.out; omega
      have hplt := hw.lt
      have hp1 : p < (wr.alloc (Obj.cells #[(Value.int IntKind.u8 (IntKind.u8.wrap (v / 2 ^ (8 * k'))))] 5)).heap.size := by simp; omega
      have hne' : some p ≠ v0.ownBlock := fun h => hne h.symm
      have c0' : (wr.alloc (Obj.cells #[(Value.int IntKind.u8 (IntKind.u8.wrap (v / 2 ^ (8 * k'))))] 5)).cell? ⟨p, 0, none⟩ = some v0 := (World.cell?_alloc_past _ _ _ hplt).trans c0
      have f0' : (wr.alloc (Obj.cells #[(Value.int IntKind.u8 (IntKind.u8.wrap (v / 2 ^ (8 * k'))))] 5)).frozen? ⟨p, 0, none⟩ = false := (World.frozen?_alloc_past _ _ _ hplt).trans f0
      have hown0 : (wr.alloc (Obj.cells #[(Value.int IntKind.u8 (IntKind.u8.wrap (v / 2 ^ (8 * k'))))] 5)).ownsRow 0 5 1 v0 m.length (bys m) := ho.alloc _
      have hsrc : Src (wr.alloc (Obj.cells #[(Value.int IntKind.u8 (IntKind.u8.wrap (v / 2 ^ (8 * k'))))] 5)) [] (.slice (some ⟨wr.heap.size, 0, none⟩) 1 1) 1 [(Value.int IntKind.u8 (IntKind.u8.wrap (v / 2 ^ (8 * k'))))] := src_new wr _ [] #[(Value.int IntKind.u8 (IntKind.u8.wrap (v / 2 ^ (8 * k'))))] 5 1 1 (Tch.refl [] _) (by simp)
      have h1c : ∀ u ∈ [(Value.int IntKind.u8 (IntKind.u8.wrap (v / 2 ^ (8 * k'))))], u.oneCell' = true := by intro u hu; simp at hu; subst hu; rfl
      have ew : IntKind.i64.wrap (8 * (k' : Int)) = 8 * (k' : Int) := IntWalk.i64_in _ (by omega)
      have e1 : (0 : Int) ≤ 8 * (k' : Int) := by omega
      have e2 : (8 * (k' : Int)).toNat = 8 * k' := by omega
      have e3 : min (8 * k') 64 = 8 * k' := by omega
      go_wp2_with (at_builtin; refine wpList_append_any _ rfl (.tmp 17) (.tmp 24) 30 rfl 5 i0 (.int .u8 0) 1 1 Tryz.underlying30 hi hz0 hz1 hz2 rfl (by decide) v0 m.length (bys m) rfl hown0 [] _ 1 [(Value.int IntKind.u8 (IntKind.u8.wrap (v / 2 ^ (8 * k'))))] rfl hsrc rfl h1c hbnd ?_; intro ao cap w1 hown hgrow hat; have c1 := (hgrow.cell_far ⟨p, 0, none⟩ hp1 hne').trans c0'; have f1 := (hgrow.frozen_far ⟨p, 0, none⟩ hp1 hne').trans f0')
      all_goals
        skip
        have R := Wr.grow (l := m) (news := [(v / 2 ^ (8 * k')) % 256]) hv0 hne ((Tch.refl [] wr).alloc _) hgrow _ (by rw [← u8_wrap]; exact hown) hat
        obtain ⟨r', R1, R2, R3⟩ := R
        have hrow := HR.out
        go_roundw
        case rel =>
          refine ⟨k', by omega, rfl, r', _, R1, ?_, ?_, ?_⟩
          · rw [← HM.out]; simp [putN]
          · have := ht.size; rw [← hrow] at R2; rcases R2 with h | h
            · rcases hr with h' | h' <;> omega
            · omega
          · rw [← hrow] at R3
            refine ht.trans R3 (fun _ _ x => x) (fun i hi hx => ?_)
            simp at hx ⊢; omega
        case measure => simp [intOf]

set_option maxHeartbeats 400000 in
theorem oct_U8 (w : World) (p row : Nat) (l : List Int) (a : Int) (h : Wr w 95 5 p row l) (ha : -9223372036854775808 ≤ a ∧ a ≤ 9223372036854775807) (hl : l.length + 4 ≤ 140737488355328) :
    Calls Tryz.prog 20 #[.pointer (some ⟨p, 0, none⟩), .int .i64 a] w fun e w' => e = .returned (.tuple #[]) ∧
      ∃ row', Wr w' 95 5 p row' (l ++ putN a 1) ∧ (row' = row ∨ w.heap.size ≤ row') ∧ Tch [p, row] w w' := by
  go_enter Tryz.func20, Tryz.ntmps20
  go_wp2_with (go_at_call 63; refine (oct_put _ p row l (IntKind.u32.wrap a) 1 h (by omega) (by rw [u32_wrap]; omega) (by rw [u32_wrap]; omega) hl).mono ?_; rintro e w' ⟨rfl, hx⟩)
  go_end0
  rw [u32_wrap, putN_u32 _ _ (by omega)] at hx
  exact ⟨rfl, hx⟩

set_option maxHeartbeats 400000 in
theorem ref_U8 (w : World) (p row : Nat) (l : List Int) (a : Int) (h : Wr w 61 5 p row l) (ha : -9223372036854775808 ≤ a ∧ a ≤ 9223372036854775807) (hl : l.length + 4 ≤ 140737488355328) :
    Calls Tryz.prog 26 #[.pointer (some ⟨p, 0, none⟩), .int .i64 a] w fun e w' => e = .returned (.tuple #[]) ∧
      ∃ row', Wr w' 61 5 p row' (l ++ putN a 1) ∧ (row' = row ∨ w.heap.size ≤ row') ∧ Tch [p, row] w w' := by
  go_enter Tryz.func26, Tryz.ntmps26
  go_wp2_with (go_at_call 68; refine (ref_u _ p row l a 1 h (by omega) ha hl).mono ?_; rintro e w' ⟨rfl, hx⟩)
  go_end0
  exact ⟨rfl, hx⟩

set_option maxHeartbeats 400000 in
theorem oct_U16 (w : World) (p row : Nat) (l : List Int) (a : Int) (h : Wr w 95 5 p row l) (ha : -9223372036854775808 ≤ a ∧ a ≤ 9223372036854775807) (hl : l.length + 4 ≤ 140737488355328) :
    Calls Tryz.prog 66 #[.pointer (some ⟨p, 0, none⟩), .int .i64 a] w fun e w' => e = .returned (.tuple #[]) ∧
      ∃ row', Wr w' 95 5 p row' (l ++ putN a 2) ∧ (row' = row ∨ w.heap.size ≤ row') ∧ Tch [p, row] w w' := by
  go_enter Tryz.func66, Tryz.ntmps66
  go_wp2_with (go_at_call 63; refine (oct_put _ p row l (IntKind.u32.wrap a) 2 h (by omega) (by rw [u32_wrap]; omega) (by rw [u32_wrap]; omega) hl).mono ?_; rintro e w' ⟨rfl, hx⟩)
  go_end0
  rw [u32_wrap, putN_u32 _ _ (by omega)] at hx
  exact ⟨rfl, hx⟩

set_option maxHeartbeats 400000 in
theorem ref_U16 (w : World) (p row : Nat) (l : List Int) (a : Int) (h : Wr w 61 5 p row l) (ha : -9223372036854775808 ≤ a ∧ a ≤ 9223372036854775807) (hl : l.length + 4 ≤ 140737488355328) :
    Calls Tryz.prog 70 #[.pointer (some ⟨p, 0, none⟩), .int .i64 a] w fun e w' => e = .returned (.tuple #[]) ∧
      ∃ row', Wr w' 61 5 p row' (l ++ putN a 2) ∧ (row' = row ∨ w.heap.size ≤ row') ∧ Tch [p, row] w w' := by
  go_enter Tryz.func70, Tryz.ntmps70
  go_wp2_with (go_at_call 68; refine (ref_u _ p row l a 2 h (by omega) ha hl).mono ?_; rintro e w' ⟨rfl, hx⟩)
  go_end0
  exact ⟨rfl, hx⟩

set_option maxHeartbeats 400000 in
theorem oct_S32 (w : World) (p row : Nat) (l : List Int) (a : Int) (h : Wr w 95 5 p row l) (ha : -9223372036854775808 ≤ a ∧ a ≤ 9223372036854775807) (hl : l.length + 4 ≤ 140737488355328) :
    Calls Tryz.prog 65 #[.pointer (some ⟨p, 0, none⟩), .int .i64 a] w fun e w' => e = .returned (.tuple #[]) ∧
      ∃ row', Wr w' 95 5 p row' (l ++ putN a 4) ∧ (row' = row ∨ w.heap.size ≤ row') ∧ Tch [p, row] w w' := by
  go_enter Tryz.func65, Tryz.ntmps65
  go_wp2_with (go_at_call 63; refine (oct_put _ p row l (IntKind.u32.wrap a) 4 h (by omega) (by rw [u32_wrap]; omega) (by rw [u32_wrap]; omega) hl).mono ?_; rintro e w' ⟨rfl, hx⟩)
  go_end0
  rw [u32_wrap, putN_u32 _ _ (by omega)] at hx
  exact ⟨rfl, hx⟩

set_option maxHeartbeats 400000 in
theorem ref_S32 (w : World) (p row : Nat) (l : List Int) (a : Int) (h : Wr w 61 5 p row l) (ha : -9223372036854775808 ≤ a ∧ a ≤ 9223372036854775807) (hl : l.length + 4 ≤ 140737488355328) :
    Calls Tryz.prog 69 #[.pointer (some ⟨p, 0, none⟩), .int .i64 a] w fun e w' => e = .returned (.tuple #[]) ∧
      ∃ row', Wr w' 61 5 p row' (l ++ putN a 4) ∧ (row' = row ∨ w.heap.size ≤ row') ∧ Tch [p, row] w w' := by
  go_enter Tryz.func69, Tryz.ntmps69
  go_wp2_with (go_at_call 68; refine (ref_u _ p row l a 4 h (by omega) ha hl).mono ?_; rintro e w' ⟨rfl, hx⟩)
  go_end0
  exact ⟨rfl, hx⟩

set_option maxHeartbeats 400000 in
theorem oct_Raw (w : World) (p row : Nat) (l : List Int) (h : Wr w 95 5 p row l) (L : List Nat) (x : Value) (b : List Int) (hx : Src w L x b.length (bys b)) (hl : l.length + b.length ≤ 140737488355328) :
    Calls Tryz.prog 19 #[.pointer (some ⟨p, 0, none⟩), x] w fun e w' => e = .returned (.tuple #[]) ∧
      ∃ row', Wr w' 95 5 p row' (l ++ b) ∧ (row' = row ∨ w.heap.size ≤ row') ∧ Tch [p, row] w w' := by
  obtain ⟨i0, hi, hz0, hz1, hz2⟩ := info_parts info_u8
  have hplt := h.lt
  obtain ⟨v0, hv0, ho, hrow, hne⟩ := h.ex
  have HR := Lib.hid hrow; clear hrow
  have c0 : w.cell? ⟨p, 0, none⟩ = some v0 := by simp [World.cell?, hv0]
  have f0 : w.frozen? ⟨p, 0, none⟩ = false := by simp [World.frozen?, hv0]
  have hne' : some p ≠ v0.ownBlock := fun h => hne h.symm
  have hl' : l.length + b.length ≤ 9223372036854775807 ∧ (l.length + b.length) * 1 ≤ 140737488355328 := by omega
  clear hl
  have hl := hl'
  go_enter Tryz.func19, Tryz.ntmps19
  go_wp2_with (at_builtin; refine wpList_append_any _ rfl (.tmp 8) (.tmp 9) 30 rfl 5 i0 (.int .u8 0) 1 1 Tryz.underlying30 hi hz0 hz1 hz2 rfl (by decide) v0 l.length (bys l) rfl ho L x b.length (bys b) rfl hx (by simp) (bys_one b) (by simpa using hl) ?_; intro ao cap w1 hown hgrow hat; have c1 := (hgrow.cell_far ⟨p, 0, none⟩ hplt hne').trans c0; have f1 := (hgrow.frozen_far ⟨p, 0, none⟩ hplt hne').trans f0)
  go_end0
  have R := Wr.grow (l := l) (news := b) hv0 hne (Tch.refl [] w) hgrow _ hown hat
  rw [← HR.out] at R
  exact ⟨rfl, R⟩

set_option maxHeartbeats 400000 in
theorem ref_Raw (w : World) (p row : Nat) (l : List Int) (h : Wr w 61 5 p row l) (L : List Nat) (x : Value) (b : List Int) (hx : Src w L x b.length (bys b)) (hl : l.length + b.length ≤ 140737488355328) :
    Calls Tryz.prog 25 #[.pointer (some ⟨p, 0, none⟩), x] w fun e w' => e = .returned (.tuple #[]) ∧
      ∃ row', Wr w' 61 5 p row' (l ++ b) ∧ (row' = row ∨ w.heap.size ≤ row') ∧ Tch [p, row] w w' := by
  obtain ⟨i0, hi, hz0, hz1, hz2⟩ := info_parts info_u8
  have hplt := h.lt
  obtain ⟨v0, hv0, ho, hrow, hne⟩ := h.ex
  have HR := Lib.hid hrow; clear hrow
  have c0 : w.cell? ⟨p, 0, none⟩ = some v0 := by simp [World.cell?, hv0]
  have f0 : w.frozen? ⟨p, 0, none⟩ = false := by simp [World.frozen?, hv0]
  have hne' : some p ≠ v0.ownBlock := fun h => hne h.symm
  have hl' : l.length + b.length ≤ 9223372036854775807 ∧ (l.length + b.length) * 1 ≤ 140737488355328 := by omega
  clear hl
  have hl := hl'
  go_enter Tryz.func25, Tryz.ntmps25
  go_wp2_with (at_builtin; refine wpList_append_any _ rfl (.tmp 8) (.tmp 9) 30 rfl 5 i0 (.int .u8 0) 1 1 Tryz.underlying30 hi hz0 hz1 hz2 rfl (by decide) v0 l.length (bys l) rfl ho L x b.length (bys b) rfl hx (by simp) (bys_one b) (by simpa using hl) ?_; intro ao cap w1 hown hgrow hat; have c1 := (hgrow.cell_far ⟨p, 0, none⟩ hplt hne').trans c0; have f1 := (hgrow.frozen_far ⟨p, 0, none⟩ hplt hne').trans f0)
  go_end0
  have R := Wr.grow (l := l) (news := b) hv0 hne (Tch.refl [] w) hgrow _ hown hat
  rw [← HR.out] at R
  exact ⟨rfl, R⟩

set_option maxHeartbeats 400000 in
theorem oct_Short (w : World) (p row : Nat) (l : List Int) (h : Wr w 95 5 p row l) (L : List Nat) (x : Value) (b : List Int) (hx : Src w L x b.length (bys b)) (hp : p ∈ L) (hr : row ∈ L) (hl : l.length + 260 ≤ 140737488355328) (hb : b.length ≤ 140737488355328) :
    Calls Tryz.prog 21 #[.pointer (some ⟨p, 0, none⟩), x] w fun e w' => e = .returned (.bool (decide (b.length ≤ 255))) ∧
      ∃ row', Wr w' 95 5 p row' (shortN l b) ∧ (row' = row ∨ w.heap.size ≤ row') ∧ Tch [p, row] w w' := by
  obtain ⟨ao, cap, rfl⟩ := hx.form
  by_cases h255 : b.length ≤ 255
  · have h1 : ¬ (255 : Int) < (b.length : Int) := by omega
    go_enter Tryz.func21, Tryz.ntmps21
    go_wp2_with (first | (go_at_call 20; refine (oct_U8 _ p row l _ h (by omega) (by omega)).mono ?_; rintro e w1 ⟨rfl, row1, hw1, hr1, ht1⟩; have hx1 := hx.tch ht1 (by intro i hi _; simp at hi; rcases hi with rfl | rfl <;> assumption)) | (go_at_call 19; refine (oct_Raw _ p row1 _ hw1 L _ b hx1 (by simp [putN_length]; omega)).mono ?_; rintro e w2 ⟨rfl, row2, hw2, hr2, ht2⟩))
    go_ret
    refine ⟨by simp [h255], row2, by simpa [shortN, h255] using hw2, by have := ht1.size; omega, ht1.trans ht2 (fun _ _ x => x) (fun i hi hx => ?_)⟩
    simp at hx ⊢; omega
  · have h1 : (255 : Int) < (b.length : Int) := by omega
    have h'0 := h
    go_enter Tryz.func21, Tryz.ntmps21
    go_wp2
    go_ret
    exact ⟨by simp [h255], row, by simpa [shortN, h255] using h'0, Or.inl rfl, Tch.refl _ _⟩

set_option maxHeartbeats 400000 in
theorem ref_Short (w : World) (p row : Nat) (l : List Int) (h : Wr w 61 5 p row l) (L : List Nat) (x : Value) (b : List Int) (hx : Src w L x b.length (bys b)) (hp : p ∈ L) (hr : row ∈ L) (hl : l.length + 260 ≤ 140737488355328) (hb : b.length ≤ 140737488355328) :
    Calls Tryz.prog 27 #[.pointer (some ⟨p, 0, none⟩), x] w fun e w' => e = .returned (.bool (decide (b.length ≤ 255))) ∧
      ∃ row', Wr w' 61 5 p row' (shortN l b) ∧ (row' = row ∨ w.heap.size ≤ row') ∧ Tch [p, row] w w' := by
  obtain ⟨ao, cap, rfl⟩ := hx.form
  by_cases h255 : b.length ≤ 255
  · have h1 : ¬ (255 : Int) < (b.length : Int) := by omega
    go_enter Tryz.func27, Tryz.ntmps27
    go_wp2_with (first | (go_at_call 26; refine (ref_U8 _ p row l _ h (by omega) (by omega)).mono ?_; rintro e w1 ⟨rfl, row1, hw1, hr1, ht1⟩; have hx1 := hx.tch ht1 (by intro i hi _; simp at hi; rcases hi with rfl | rfl <;> assumption)) | (go_at_call 25; refine (ref_Raw _ p row1 _ hw1 L _ b hx1 (by simp [putN_length]; omega)).mono ?_; rintro e w2 ⟨rfl, row2, hw2, hr2, ht2⟩))
    go_ret
    refine ⟨by simp [h255], row2, by simpa [shortN, h255] using hw2, by have := ht1.size; omega, ht1.trans ht2 (fun _ _ x => x) (fun i hi hx => ?_)⟩
    simp at hx ⊢; omega
  · have h1 : (255 : Int) < (b.length : Int) := by omega
    have h'0 := h
    go_enter Tryz.func27, Tryz.ntmps27
    go_wp2
    go_ret
    exact ⟨by simp [h255], row, by simpa [shortN, h255] using h'0, Or.inl rfl, Tch.refl _ _⟩

theorem oct_new (w : World) : Calls Tryz.prog 18 #[] w fun e w' => e = .returned (.pointer (some ⟨w.heap.size, 0, none⟩)) ∧ w' = w.alloc (.cells #[.slice none 0 0] 95) := by
  go_enter Tryz.func18, Tryz.ntmps18
  go_wp2
  go_ret
  exact ⟨rfl, rfl⟩

set_option maxHeartbeats 400000 in
theorem oct_Bytes (w : World) (p row : Nat) (l : List Int) (h : Wr w 95 5 p row l) (hl : l.length ≤ 140737488355328) :
    Calls Tryz.prog 24 #[.pointer (some ⟨p, 0, none⟩)] w fun e w' => ∃ ao cap, e = .returned (.slice ao l.length cap) ∧ w'.ownsRow 0 5 1 (.slice ao l.length cap) l.length (bys l) ∧ (∃ g, ao = some ⟨g, 0, none⟩ ∧ w.heap.size ≤ g) ∧ Tch [] w w' := by
  obtain ⟨i0, hi, hz0, hz1, hz2⟩ := info_parts info_u8
  have hplt := h.lt
  obtain ⟨v0, hv0, ho, hrow, hne⟩ := h.ex
  clear hrow
  have c0 : w.cell? ⟨p, 0, none⟩ = some v0 := by simp [World.cell?, hv0]
  have hown0 : (w.alloc (.cells #[] 5)).ownsRow 0 5 1 (.slice (some ⟨w.heap.size, 0, none⟩) 0 0) 0 [] := World.ownsRow_lit w #[] 0 (Nat.zero_le _) (by decide) rfl
  have hsrc : Src (w.alloc (.cells #[] 5)) [] v0 l.length (bys l) := src_of_owns (ho.alloc _) [] (by simp)
  have hl' : 0 + l.length ≤ 9223372036854775807 ∧ (0 + l.length) * 1 ≤ 140737488355328 := by omega
  go_enter Tryz.func24, Tryz.ntmps24
  go_wp2_with (at_builtin; refine wpList_append_any _ rfl (.tmp 3) (.tmp 7) 30 rfl 5 i0 (.int .u8 0) 1 1 Tryz.underlying30 hi hz0 hz1 hz2 rfl (by decide) (.slice (some ⟨w.heap.size, 0, none⟩) 0 0) 0 [] rfl hown0 [] v0 l.length (bys l) rfl hsrc (by simp) (bys_one l) hl' ?_; intro ao cap w1 hown hgrow hat)
  go_ret
  simp only [Nat.zero_add, List.nil_append] at hown hat ⊢
  refine ⟨_, _, rfl, hown, ?_, ((Tch.refl [] w).alloc _).grown hgrow (by intro k hk; simp [Value.ownBlock] at hk; omega)⟩
  have hg : ∃ g, (Value.slice ao l.length cap).ownBlock = some g ∧ w.heap.size ≤ g := by
    rcases hat with h | h
    · exact ⟨_, h, Nat.le_refl _⟩
    · exact ⟨_, h, by simp⟩
  obtain ⟨g, hg1, hg2⟩ := hg
  rcases hown.2 with ⟨h1, _⟩ | ⟨g', cap', cur, h1, _⟩
  · simp only [Value.slice.injEq] at h1
    rw [h1.1] at hg1
    simp [Value.ownBlock] at hg1
  · simp only [Value.slice.injEq] at h1
    rw [h1.1] at hg1 ⊢
    simp [Value.ownBlock] at hg1
    subst hg1
    exact ⟨_, rfl, hg2⟩
end Go.Proofs.YtapephelfijcbaaGreatDoor
