/-
  THE 54 of VerifyLeaks. Conditions: numbers of 64 bits.
-/
import Derived.Test.YtpabkjjonbhdeaaDoorHVe15
namespace Go.Proofs.YtpabkjjonbhdeaaDoor
open Go.RowKit Go.Tcn
set_option linter.unusedVariables false
set_option linter.unusedSimpArgs false
theorem info_insV : (Tryd.prog.info? 24).map (fun i => (i.zero, i.size, i.bytes)) = some (some (.agg #[.int .i64 0, .int .i64 0, .int .i64 0]), 3, 24) := by kernel_rfl
theorem codeCells_appV (c d : List Ins) : codeCells (c ++ d) = codeCells c ++ codeCells d := by simp [codeCells]
theorem codeCells_oneV (c : List Ins) : ∀ u ∈ codeCells c, u.oneCell' = true := by
  intro u hu
  simp only [codeCells, List.mem_flatten, List.mem_map] at hu
  obtain ⟨_, ⟨x, _, rfl⟩, hu⟩ := hu
  simp [Ins.cells] at hu
  rcases hu with rfl | rfl | rfl <;> rfl
def pcE (n : Nat) (e : Int) : Nat := if e = 4 ∨ e = 5 then n + 1 else n
theorem endR_leak (n : Nat) (e : Int) (h : 0 ≤ e ∧ e < 6) : endR n e = (pcE n e, 12) := by
  unfold endR pcE
  by_cases h4 : e = 4 ∨ e = 5
  · rw [if_pos h4, if_pos h4]
  · rw [if_neg h4, if_neg h4, if_pos (by omega)]
theorem endR_fine (n : Nat) (e : Int) (h : 6 ≤ e) : endR n e = (0, 0) := by
  unfold endR
  rw [if_neg (by omega), if_neg (by omega)]
theorem allL_z : ∀ x ∈ allL, 0 ≤ x.a ∧ x.b = 0 := by decide
theorem imgL_nn (c : List Ins) (h : ∀ x ∈ c, x ∈ allL) : ∀ m ∈ (imgL c).methods, ∀ x ∈ m.code, 0 ≤ x.a := by
  intro m hm x hx
  simp [imgL] at hm
  rcases hm with rfl | rfl
  · exact (allL_z x (h x hx)).1
  · have h1 : ∀ x ∈ m1L.code, 0 ≤ x.a := by decide
    exact h1 x hx
theorem imgL_z (c : List Ins) (hl : c.length ≤ 43) (h : ∀ x ∈ c, x ∈ allL) : ImgZ (imgL c) := by
  unfold ImgZ imgL
  refine ⟨by simp, by simp, by simp, by simp, fun m hm => ?_, by simp⟩
  simp at hm
  rcases hm with rfl | rfl
  · refine ⟨by simp [m0L], by simp [m0L], by simp [m0L]; omega, fun x hx => ?_⟩
    rw [(allL_z x (h x hx)).2]
    unfold I6
    omega
  · refine ⟨by decide, by decide, by decide, fun x hx => ?_⟩
    have h1 : ∀ x ∈ m1L.code, x.b = 0 := by decide
    rw [h1 x hx]
    unfold I6
    omega
/-- Some code that is the call's own. -/
structure OwnC (w wz : World) (ao : Option Addr) (n cap : Nat) (c : List Ins) : Prop where
  own : wz.ownsRow 0 24 3 (.slice ao n cap) n (codeCells c)
  ge : ∀ k, (Value.slice ao n cap).ownBlock = some k → w.heap.size ≤ k
  t : Tch [] w wz
  ln : c.length = n
theorem OwnC.more {w wz w5 : World} {ao ao5 : Option Addr} {n cap cap5 m : Nat} {c d : List Ins} {cs : Array Value} {T : TypeId} (h : OwnC w wz ao n cap c) (ho : w5.ownsRow 0 24 3 (.slice ao5 (n + m) cap5) (n + m) (codeCells c ++ codeCells d)) (hg : (wz.alloc (.cells cs T)).grownBy w5 (Value.slice ao n cap).ownBlock) (ha : (Value.slice ao5 (n + m) cap5).ownBlock = (Value.slice ao n cap).ownBlock ∨ (Value.slice ao5 (n + m) cap5).ownBlock = some (wz.alloc (.cells cs T)).heap.size) (hd : d.length = m) : OwnC w w5 ao5 (n + m) cap5 (c ++ d) := by
  refine ⟨by rw [codeCells_appV]; exact ho, fun k hk => ?_, (h.t.alloc _).grown hg (fun k hk => .inr (h.ge k hk)), by rw [List.length_append, h.ln, hd]⟩
  rcases ha with e | e
  · rw [e] at hk; exact h.ge k hk
  · rw [e] at hk
    have := h.t.size
    simp at hk
    omega
def hsL (how : List Int) : List Int := (how.take 12).map (· % 8)
theorem hs_next (how : List Int) (k : Nat) (hk : k < how.length) : (how.take (k + 1)).map (· % 8) = (how.take k).map (· % 8) ++ [how[k] % 8] := by
  rw [← List.take_append_getElem hk, List.map_append]
  rfl
theorem mod_8 (x : Int) : x % 8 = 0 ∨ x % 8 = 1 ∨ x % 8 = 2 ∨ x % 8 = 3 ∨ x % 8 = 4 ∨ x % 8 = 5 ∨ x % 8 = 6 ∨ x % 8 = 7 := by omega
theorem mod_9 (x : Int) : x % 9 = 0 ∨ x % 9 = 1 ∨ x % 9 = 2 ∨ x % 9 = 3 ∨ x % 9 = 4 ∨ x % 9 = 5 ∨ x % 9 = 6 ∨ x % 9 = 7 ∨ x % 9 = 8 := by omega
/-- The code so far. -/
def LoopR (w wz : World) (how : List Int) (k : Nat) (ao : Option Addr) (n cap : Nat) : Prop := OwnC w wz ao n cap (headL ++ ((how.take k).map (· % 8)).flatMap itemL)
theorem LoopR.next {w wz w5 : World} {how : List Int} {k : Nat} {ao ao5 : Option Addr} {n cap cap5 m : Nat} {h : Int} {cs : Array Value} {T : TypeId} (hL : LoopR w wz how k ao n cap) (hk : k < how.length) (hh : how[k] % 8 = h) (ho : w5.ownsRow 0 24 3 (.slice ao5 (n + m) cap5) (n + m) (codeCells (headL ++ ((how.take k).map (· % 8)).flatMap itemL) ++ codeCells (itemL h))) (hg : (wz.alloc (.cells cs T)).grownBy w5 (Value.slice ao n cap).ownBlock) (ha : (Value.slice ao5 (n + m) cap5).ownBlock = (Value.slice ao n cap).ownBlock ∨ (Value.slice ao5 (n + m) cap5).ownBlock = some (wz.alloc (.cells cs T)).heap.size) (hd : (itemL h).length = m) : LoopR w w5 how (k + 1) ao5 (n + m) cap5 := by
  have h1 := OwnC.more hL ho hg ha hd
  unfold LoopR
  rw [hs_next how k hk, hh, List.flatMap_append]
  simpa [List.append_assoc] using h1
set_option maxRecDepth 100000 in
set_option maxHeartbeats 16000000 in
theorem law7_VerifyLeaks (w : World) (hv : Value) (how : List Int) (hr : RInts w [] hv how) (hI : ∀ x ∈ how, I6 x) (hlen : how.length ≤ 9223372036854775807) (wh : Int) (hwh : I6 wh) (hV : ∀ nm w', nm.length ≤ 16 → Tch [] w w' → Calls Tryd.prog 31 #[.string ⟨nm.toArray⟩] w' fun e w'' => e = .returned (.bool (Lib.validD nm)) ∧ Tch [] w' w'') :
    Calls Tryd.prog 3 #[hv, .int .i64 wh] w fun e w' => e = .returned (.bool true) ∧ Tch [] w w' := by
  obtain ⟨ao, cap, rfl⟩ := Src.form hr
  obtain ⟨iI, hiI, hzI0, hzI1, hzI2⟩ := info_parts info_insV
  have hP9 := fun (W : World) => hand_Pick wh 9 hwh (by omega) (by omega) W
  have hat := fun (W : World) (t : Tch [] w W) j (hj : j < how.length) => at_ints (hr.tch t (by simp)) j hj
  have HAT := Lib.hid hat
  have HI := Lib.hid hI
  have HV := Lib.hid hV
  clear hat hI hV hr
  obtain ⟨V0, hV0⟩ : ∃ W, W = w.alloc (.cells #[.int .i64 35, .int .i64 2, .int .i64 0, .int .i64 1, .int .i64 0, .int .i64 0, .int .i64 29, .int .i64 0, .int .i64 0] 24) := ⟨_, rfl⟩
  have hL0 : LoopR w V0 how 0 (some ⟨w.heap.size, 0, none⟩) 3 3 := by
    refine ⟨?_, fun k hk => by simp [Value.ownBlock] at hk; omega, by rw [hV0]; exact (Tch.refl [] w).alloc _, rfl⟩
    rw [hV0]
    exact World.ownsRow_lit w #[.int .i64 35, .int .i64 2, .int .i64 0, .int .i64 1, .int .i64 0, .int .i64 0, .int .i64 29, .int .i64 0, .int .i64 0] 3 (Nat.zero_le _) (by decide) rfl
  go_enter Tryd.func3, Tryd.ntmps3
  go_upto_region 2 with fail
  rw [← hV0]
  clear hV0
  go_wp2_with fail
  go_loopw [6, 5] (fun iv cv wz => ∃ (k : Nat) (ao2 : Option Addr) (n cap2 : Nat), k ≤ how.length ∧ k ≤ 12 ∧ n ≤ 3 + 3 * k ∧ iv = .int .i64 k ∧ cv = .slice ao2 n cap2 ∧ LoopR w wz how k ao2 n cap2) (fun iv _ _ => 12 - (intOf iv).toNat)
  case atStart => exact ⟨0, _, 3, 3, by omega, by omega, by omega, rfl, rfl, hL0⟩
  case round =>
    obtain ⟨k, ao2, n, cap2, hk1, hk2, hn3, rfl, rfl, hL⟩ := hrel
    clear hL0
    by_cases hk : k < how.length ∧ k < 12
    · obtain ⟨hka, hkb⟩ := hk
      obtain ⟨y, ey, ad, hax, q, _⟩ := HAT.out wr hL.t k hka
      have ey2 : how[k] = y := by rw [← ey]; simp [List.getD, List.getElem?_eq_getElem hka]
      have hy : I6 y := by rw [← ey2]; exact HI.out _ (List.getElem_mem hka)
      have u1 := q wr (Tch.refl _ _)
      subst hax
      have hP8 := hand_Pick y 8 hy (by omega) (by omega) wr
      have hown := hL.own
      have HL := Lib.hid hL
      have hm8 := mod_8 y
      have HY := Lib.hid ey2
      clear q ey ey2 hL hP9
      generalize hyy : y % 8 = h8 at *
      have HYY := Lib.hid hyy
      clear hyy
      have hb : ∀ m, m ≤ 3 → n + m ≤ 9223372036854775807 ∧ (n + m) * 24 ≤ 140737488355328 := fun m hm => by omega
      rcases hm8 with rfl | rfl | rfl | rfl | rfl | rfl | rfl | rfl
      · have hbm := hb 2 (by omega)
        clear hb
        go_wp2_with fail
        refine hP8.mono ?_
        rintro e w' ⟨rfl, rfl⟩
        clear hP8
        go_wp2_with (at_builtin; refine wpList_append_any _ rfl (.tmp 37) (.tmp 40) 25 rfl 24 iI (.agg #[.int .i64 0, .int .i64 0, .int .i64 0]) 3 24 Tryd.underlying25 hiI hzI0 hzI1 hzI2 rfl (by decide) (.slice ao2 n cap2) n _ rfl (hown.alloc _) [] (.slice (some ⟨wr.heap.size, 0, none⟩) 2 2) 2 (codeCells [⟨1, 3, 0⟩, ⟨6, 0, 0⟩]) rfl (code_lit wr [⟨1, 3, 0⟩, ⟨6, 0, 0⟩] #[.int .i64 1, .int .i64 3, .int .i64 0, .int .i64 6, .int .i64 0, .int .i64 0] 24 rfl) rfl (codeCells_oneV _) hbm ?_; intro ao5 cap5 w5 hown5 hgrow5 hat5)
        have hL5 := LoopR.next HL.out hka (by rw [HY.out, HYY.out]) hown5 hgrow5 hat5 rfl
        go_roundw
        case rel => exact ⟨k + 1, ao5, n + 2, cap5, by omega, by omega, by omega, by go_num, rfl, hL5⟩
        case measure => simp [intOf]; omega
      · have hbm := hb 1 (by omega)
        clear hb
        go_wp2_with fail
        refine hP8.mono ?_
        rintro e w' ⟨rfl, rfl⟩
        clear hP8
        go_wp2_with (at_builtin; refine wpList_append_any _ rfl (.tmp 44) (.tmp 46) 25 rfl 24 iI (.agg #[.int .i64 0, .int .i64 0, .int .i64 0]) 3 24 Tryd.underlying25 hiI hzI0 hzI1 hzI2 rfl (by decide) (.slice ao2 n cap2) n _ rfl (hown.alloc _) [] (.slice (some ⟨wr.heap.size, 0, none⟩) 1 1) 1 (codeCells [⟨15, 0, 0⟩]) rfl (code_lit wr [⟨15, 0, 0⟩] #[.int .i64 15, .int .i64 0, .int .i64 0] 24 rfl) rfl (codeCells_oneV _) hbm ?_; intro ao5 cap5 w5 hown5 hgrow5 hat5)
        have hL5 := LoopR.next HL.out hka (by rw [HY.out, HYY.out]) hown5 hgrow5 hat5 rfl
        go_roundw
        case rel => exact ⟨k + 1, ao5, n + 1, cap5, by omega, by omega, by omega, by go_num, rfl, hL5⟩
        case measure => simp [intOf]; omega
      · have hbm := hb 2 (by omega)
        clear hb
        go_wp2_with fail
        refine hP8.mono ?_
        rintro e w' ⟨rfl, rfl⟩
        clear hP8
        go_wp2_with (at_builtin; refine wpList_append_any _ rfl (.tmp 50) (.tmp 53) 25 rfl 24 iI (.agg #[.int .i64 0, .int .i64 0, .int .i64 0]) 3 24 Tryd.underlying25 hiI hzI0 hzI1 hzI2 rfl (by decide) (.slice ao2 n cap2) n _ rfl (hown.alloc _) [] (.slice (some ⟨wr.heap.size, 0, none⟩) 2 2) 2 (codeCells [⟨3, 1, 0⟩, ⟨2, 1, 0⟩]) rfl (code_lit wr [⟨3, 1, 0⟩, ⟨2, 1, 0⟩] #[.int .i64 3, .int .i64 1, .int .i64 0, .int .i64 2, .int .i64 1, .int .i64 0] 24 rfl) rfl (codeCells_oneV _) hbm ?_; intro ao5 cap5 w5 hown5 hgrow5 hat5)
        have hL5 := LoopR.next HL.out hka (by rw [HY.out, HYY.out]) hown5 hgrow5 hat5 rfl
        go_roundw
        case rel => exact ⟨k + 1, ao5, n + 2, cap5, by omega, by omega, by omega, by go_num, rfl, hL5⟩
        case measure => simp [intOf]; omega
      · have hbm := hb 2 (by omega)
        clear hb
        go_wp2_with fail
        refine hP8.mono ?_
        rintro e w' ⟨rfl, rfl⟩
        clear hP8
        go_wp2_with (at_builtin; refine wpList_append_any _ rfl (.tmp 57) (.tmp 60) 25 rfl 24 iI (.agg #[.int .i64 0, .int .i64 0, .int .i64 0]) 3 24 Tryd.underlying25 hiI hzI0 hzI1 hzI2 rfl (by decide) (.slice ao2 n cap2) n _ rfl (hown.alloc _) [] (.slice (some ⟨wr.heap.size, 0, none⟩) 2 2) 2 (codeCells [⟨34, 0, 0⟩, ⟨33, 0, 0⟩]) rfl (code_lit wr [⟨34, 0, 0⟩, ⟨33, 0, 0⟩] #[.int .i64 34, .int .i64 0, .int .i64 0, .int .i64 33, .int .i64 0, .int .i64 0] 24 rfl) rfl (codeCells_oneV _) hbm ?_; intro ao5 cap5 w5 hown5 hgrow5 hat5)
        have hL5 := LoopR.next HL.out hka (by rw [HY.out, HYY.out]) hown5 hgrow5 hat5 rfl
        go_roundw
        case rel => exact ⟨k + 1, ao5, n + 2, cap5, by omega, by omega, by omega, by go_num, rfl, hL5⟩
        case measure => simp [intOf]; omega
      · have hbm := hb 3 (by omega)
        clear hb
        go_wp2_with fail
        refine hP8.mono ?_
        rintro e w' ⟨rfl, rfl⟩
        clear hP8
        go_wp2_with (at_builtin; refine wpList_append_any _ rfl (.tmp 64) (.tmp 68) 25 rfl 24 iI (.agg #[.int .i64 0, .int .i64 0, .int .i64 0]) 3 24 Tryd.underlying25 hiI hzI0 hzI1 hzI2 rfl (by decide) (.slice ao2 n cap2) n _ rfl (hown.alloc _) [] (.slice (some ⟨wr.heap.size, 0, none⟩) 3 3) 3 (codeCells [⟨1, 0, 0⟩, ⟨1, 1, 0⟩, ⟨22, 0, 0⟩]) rfl (code_lit wr [⟨1, 0, 0⟩, ⟨1, 1, 0⟩, ⟨22, 0, 0⟩] #[.int .i64 1, .int .i64 0, .int .i64 0, .int .i64 1, .int .i64 1, .int .i64 0, .int .i64 22, .int .i64 0, .int .i64 0] 24 rfl) rfl (codeCells_oneV _) hbm ?_; intro ao5 cap5 w5 hown5 hgrow5 hat5)
        have hL5 := LoopR.next HL.out hka (by rw [HY.out, HYY.out]) hown5 hgrow5 hat5 rfl
        go_roundw
        case rel => exact ⟨k + 1, ao5, n + 3, cap5, by omega, by omega, by omega, by go_num, rfl, hL5⟩
        case measure => simp [intOf]; omega
      · have hbm := hb 2 (by omega)
        clear hb
        go_wp2_with fail
        refine hP8.mono ?_
        rintro e w' ⟨rfl, rfl⟩
        clear hP8
        go_wp2_with (at_builtin; refine wpList_append_any _ rfl (.tmp 72) (.tmp 75) 25 rfl 24 iI (.agg #[.int .i64 0, .int .i64 0, .int .i64 0]) 3 24 Tryd.underlying25 hiI hzI0 hzI1 hzI2 rfl (by decide) (.slice ao2 n cap2) n _ rfl (hown.alloc _) [] (.slice (some ⟨wr.heap.size, 0, none⟩) 2 2) 2 (codeCells [⟨5, 0, 0⟩, ⟨19, 0, 0⟩]) rfl (code_lit wr [⟨5, 0, 0⟩, ⟨19, 0, 0⟩] #[.int .i64 5, .int .i64 0, .int .i64 0, .int .i64 19, .int .i64 0, .int .i64 0] 24 rfl) rfl (codeCells_oneV _) hbm ?_; intro ao5 cap5 w5 hown5 hgrow5 hat5)
        have hL5 := LoopR.next HL.out hka (by rw [HY.out, HYY.out]) hown5 hgrow5 hat5 rfl
        go_roundw
        case rel => exact ⟨k + 1, ao5, n + 2, cap5, by omega, by omega, by omega, by go_num, rfl, hL5⟩
        case measure => simp [intOf]; omega
      · have hbm := hb 2 (by omega)
        clear hb
        go_wp2_with fail
        refine hP8.mono ?_
        rintro e w' ⟨rfl, rfl⟩
        clear hP8
        go_wp2_with (at_builtin; refine wpList_append_any _ rfl (.tmp 79) (.tmp 82) 25 rfl 24 iI (.agg #[.int .i64 0, .int .i64 0, .int .i64 0]) 3 24 Tryd.underlying25 hiI hzI0 hzI1 hzI2 rfl (by decide) (.slice ao2 n cap2) n _ rfl (hown.alloc _) [] (.slice (some ⟨wr.heap.size, 0, none⟩) 2 2) 2 (codeCells [⟨1, 7, 0⟩, ⟨21, 0, 0⟩]) rfl (code_lit wr [⟨1, 7, 0⟩, ⟨21, 0, 0⟩] #[.int .i64 1, .int .i64 7, .int .i64 0, .int .i64 21, .int .i64 0, .int .i64 0] 24 rfl) rfl (codeCells_oneV _) hbm ?_; intro ao5 cap5 w5 hown5 hgrow5 hat5)
        have hL5 := LoopR.next HL.out hka (by rw [HY.out, HYY.out]) hown5 hgrow5 hat5 rfl
        go_roundw
        case rel => exact ⟨k + 1, ao5, n + 2, cap5, by omega, by omega, by omega, by go_num, rfl, hL5⟩
        case measure => simp [intOf]; omega
      · have hbm := hb 1 (by omega)
        clear hb
        go_wp2_with fail
        refine hP8.mono ?_
        rintro e w' ⟨rfl, rfl⟩
        clear hP8
        go_wp2_with (at_builtin; refine wpList_append_any _ rfl (.tmp 31) (.tmp 33) 25 rfl 24 iI (.agg #[.int .i64 0, .int .i64 0, .int .i64 0]) 3 24 Tryd.underlying25 hiI hzI0 hzI1 hzI2 rfl (by decide) (.slice ao2 n cap2) n _ rfl (hown.alloc _) [] (.slice (some ⟨wr.heap.size, 0, none⟩) 1 1) 1 (codeCells [⟨37, 1, 0⟩]) rfl (code_lit wr [⟨37, 1, 0⟩] #[.int .i64 37, .int .i64 1, .int .i64 0] 24 rfl) rfl (codeCells_oneV _) hbm ?_; intro ao5 cap5 w5 hown5 hgrow5 hat5)
        have hL5 := LoopR.next HL.out hka (by rw [HY.out, HYY.out]) hown5 hgrow5 hat5 rfl
        go_roundw
        case rel => exact ⟨k + 1, ao5, n + 1, cap5, by omega, by omega, by omega, by go_num, rfl, hL5⟩
        case measure => simp [intOf]; omega
    · go_upto_region 3 with fail
      go_cut [23] (fun v wz => v = .bool false ∧ wr = wz)
      case first =>
        by_cases hka : k < how.length
        · have hkb : decide ((k : Int) < 12) = false := decide_eq_false (by omega)
          clear hk
          go_wp2_with fail
          go_meet
          exact ⟨rfl, rfl⟩
        · clear hk
          go_wp2_with fail
          go_meet
          exact ⟨rfl, rfl⟩
      case rest =>
        obtain ⟨rfl, rfl⟩ := hcut
        obtain ⟨hs, hhs⟩ : ∃ hs, hs = (how.take k).map (· % 8) := ⟨_, rfl⟩
        have hsl : hs.length ≤ 12 := by rw [hhs]; simp; omega
        have hs8 : ∀ h ∈ hs, 0 ≤ h ∧ h ≤ 7 := fun h hm => by
          rw [hhs] at hm
          obtain ⟨x, _, rfl⟩ := List.mem_map.1 hm
          omega
        have hO : OwnC w wr ao2 n cap2 (headL ++ hs.flatMap itemL) := by rw [hhs]; exact hL
        have hnl : n = 3 + (hs.flatMap itemL).length := by rw [← hO.ln, List.length_append]; rfl
        have hown := hO.own
        have HO := Lib.hid hO
        have HS := Lib.hid (And.intro hsl hs8)
        have HNL := Lib.hid hnl
        have hn39 : n ≤ 39 := by omega
        have hP := hP9 wr
        have hm9 := mod_9 wh
        generalize wh % 9 = e9 at *
        clear hhs hL hO hsl hs8 hnl hP9 hk hk1 hk2 hn3
        generalize hC : headL ++ hs.flatMap itemL = C at *
        have HC := Lib.hid hC
        clear hC
        go_wp2_with fail
        refine hP.mono ?_
        rintro e w' ⟨rfl, rfl⟩
        clear hP
        go_upto_block 3 with fail
        go_cut [5, 7, 8] (fun cv av lv wz => ∃ (ao5 : Option Addr) (n5 cap5 : Nat), cv = .slice ao5 n5 cap5 ∧ n5 ≤ 50 ∧ OwnC w wz ao5 n5 cap5 (C ++ endL e9) ∧ av = .int .i64 (pcE n e9 : Nat) ∧ lv = .bool (decide (e9 < 6)))
        case first =>
          have hb : ∀ m, m ≤ 3 → n + m ≤ 9223372036854775807 ∧ (n + m) * 24 ≤ 140737488355328 := fun m hm => by omega
          rcases hm9 with rfl | rfl | rfl | rfl | rfl | rfl | rfl | rfl | rfl
          · have hbm := hb 1 (by omega)
            clear hb
            go_wp2_with (at_builtin; refine wpList_append_any _ rfl (.tmp 94) (.tmp 96) 25 rfl 24 iI (.agg #[.int .i64 0, .int .i64 0, .int .i64 0]) 3 24 Tryd.underlying25 hiI hzI0 hzI1 hzI2 rfl (by decide) (.slice ao2 n cap2) n _ rfl (hown.alloc _) [] (.slice (some ⟨wr.heap.size, 0, none⟩) 1 1) 1 (codeCells [⟨24, 0, 0⟩]) rfl (code_lit wr [⟨24, 0, 0⟩] #[.int .i64 24, .int .i64 0, .int .i64 0] 24 rfl) rfl (codeCells_oneV _) hbm ?_; intro ao5 cap5 w5 hown5 hgrow5 hat5)
            have hO5 := OwnC.more (d := endL 0) HO.out hown5 hgrow5 hat5 rfl
            go_meet
            exact ⟨ao5, n + 1, cap5, rfl, by omega, hO5, by simp [pcE], by simp⟩
          · have hbm := hb 2 (by omega)
            clear hb
            go_wp2_with (at_builtin; refine wpList_append_any _ rfl (.tmp 100) (.tmp 103) 25 rfl 24 iI (.agg #[.int .i64 0, .int .i64 0, .int .i64 0]) 3 24 Tryd.underlying25 hiI hzI0 hzI1 hzI2 rfl (by decide) (.slice ao2 n cap2) n _ rfl (hown.alloc _) [] (.slice (some ⟨wr.heap.size, 0, none⟩) 2 2) 2 (codeCells [⟨27, 4, 0⟩, ⟨4, 0, 0⟩]) rfl (code_lit wr [⟨27, 4, 0⟩, ⟨4, 0, 0⟩] #[.int .i64 27, .int .i64 4, .int .i64 0, .int .i64 4, .int .i64 0, .int .i64 0] 24 rfl) rfl (codeCells_oneV _) hbm ?_; intro ao5 cap5 w5 hown5 hgrow5 hat5)
            have hO5 := OwnC.more (d := endL 1) HO.out hown5 hgrow5 hat5 rfl
            go_meet
            exact ⟨ao5, n + 2, cap5, rfl, by omega, hO5, by simp [pcE], by simp⟩
          · have hbm := hb 1 (by omega)
            clear hb
            go_wp2_with (at_builtin; refine wpList_append_any _ rfl (.tmp 107) (.tmp 109) 25 rfl 24 iI (.agg #[.int .i64 0, .int .i64 0, .int .i64 0]) 3 24 Tryd.underlying25 hiI hzI0 hzI1 hzI2 rfl (by decide) (.slice ao2 n cap2) n _ rfl (hown.alloc _) [] (.slice (some ⟨wr.heap.size, 0, none⟩) 1 1) 1 (codeCells [⟨3, 0, 0⟩]) rfl (code_lit wr [⟨3, 0, 0⟩] #[.int .i64 3, .int .i64 0, .int .i64 0] 24 rfl) rfl (codeCells_oneV _) hbm ?_; intro ao5 cap5 w5 hown5 hgrow5 hat5)
            have hO5 := OwnC.more (d := endL 2) HO.out hown5 hgrow5 hat5 rfl
            go_meet
            exact ⟨ao5, n + 1, cap5, rfl, by omega, hO5, by simp [pcE], by simp⟩
          · have hbm := hb 1 (by omega)
            clear hb
            go_wp2_with (at_builtin; refine wpList_append_any _ rfl (.tmp 113) (.tmp 115) 25 rfl 24 iI (.agg #[.int .i64 0, .int .i64 0, .int .i64 0]) 3 24 Tryd.underlying25 hiI hzI0 hzI1 hzI2 rfl (by decide) (.slice ao2 n cap2) n _ rfl (hown.alloc _) [] (.slice (some ⟨wr.heap.size, 0, none⟩) 1 1) 1 (codeCells [⟨34, 1, 0⟩]) rfl (code_lit wr [⟨34, 1, 0⟩] #[.int .i64 34, .int .i64 1, .int .i64 0] 24 rfl) rfl (codeCells_oneV _) hbm ?_; intro ao5 cap5 w5 hown5 hgrow5 hat5)
            have hO5 := OwnC.more (d := endL 3) HO.out hown5 hgrow5 hat5 rfl
            go_meet
            exact ⟨ao5, n + 1, cap5, rfl, by omega, hO5, by simp [pcE], by simp⟩
          · have hbm := hb 3 (by omega)
            clear hb
            go_wp2_with (at_builtin; refine wpList_append_any _ rfl (.tmp 121) (.tmp 125) 25 rfl 24 iI (.agg #[.int .i64 0, .int .i64 0, .int .i64 0]) 3 24 Tryd.underlying25 hiI hzI0 hzI1 hzI2 rfl (by decide) (.slice ao2 n cap2) n _ rfl (hown.alloc _) [] (.slice (some ⟨wr.heap.size, 0, none⟩) 3 3) 3 (codeCells [⟨1, 2, 0⟩, ⟨17, 0, 0⟩, ⟨4, 0, 0⟩]) rfl (code_lit wr [⟨1, 2, 0⟩, ⟨17, 0, 0⟩, ⟨4, 0, 0⟩] #[.int .i64 1, .int .i64 2, .int .i64 0, .int .i64 17, .int .i64 0, .int .i64 0, .int .i64 4, .int .i64 0, .int .i64 0] 24 rfl) rfl (codeCells_oneV _) hbm ?_; intro ao5 cap5 w5 hown5 hgrow5 hat5)
            have hO5 := OwnC.more (d := endL 4) HO.out hown5 hgrow5 hat5 rfl
            go_meet
            exact ⟨ao5, n + 3, cap5, rfl, by omega, hO5, by simp [pcE], by simp⟩
          · have hbm := hb 3 (by omega)
            clear hb
            go_wp2_with (at_builtin; refine wpList_append_any _ rfl (.tmp 131) (.tmp 135) 25 rfl 24 iI (.agg #[.int .i64 0, .int .i64 0, .int .i64 0]) 3 24 Tryd.underlying25 hiI hzI0 hzI1 hzI2 rfl (by decide) (.slice ao2 n cap2) n _ rfl (hown.alloc _) [] (.slice (some ⟨wr.heap.size, 0, none⟩) 3 3) 3 (codeCells [⟨5, 0, 0⟩, ⟨18, 0, 0⟩, ⟨4, 0, 0⟩]) rfl (code_lit wr [⟨5, 0, 0⟩, ⟨18, 0, 0⟩, ⟨4, 0, 0⟩] #[.int .i64 5, .int .i64 0, .int .i64 0, .int .i64 18, .int .i64 0, .int .i64 0, .int .i64 4, .int .i64 0, .int .i64 0] 24 rfl) rfl (codeCells_oneV _) hbm ?_; intro ao5 cap5 w5 hown5 hgrow5 hat5)
            have hO5 := OwnC.more (d := endL 5) HO.out hown5 hgrow5 hat5 rfl
            go_meet
            exact ⟨ao5, n + 3, cap5, rfl, by omega, hO5, by simp [pcE], by simp⟩
          · have hbm := hb 1 (by omega)
            clear hb
            go_wp2_with (at_builtin; refine wpList_append_any _ rfl (.tmp 139) (.tmp 141) 25 rfl 24 iI (.agg #[.int .i64 0, .int .i64 0, .int .i64 0]) 3 24 Tryd.underlying25 hiI hzI0 hzI1 hzI2 rfl (by decide) (.slice ao2 n cap2) n _ rfl (hown.alloc _) [] (.slice (some ⟨wr.heap.size, 0, none⟩) 1 1) 1 (codeCells [⟨3, 1, 0⟩]) rfl (code_lit wr [⟨3, 1, 0⟩] #[.int .i64 3, .int .i64 1, .int .i64 0] 24 rfl) rfl (codeCells_oneV _) hbm ?_; intro ao5 cap5 w5 hown5 hgrow5 hat5)
            have hO5 := OwnC.more (d := endL 6) HO.out hown5 hgrow5 hat5 rfl
            go_meet
            exact ⟨ao5, n + 1, cap5, rfl, by omega, hO5, by simp [pcE], by simp⟩
          · have hbm := hb 1 (by omega)
            clear hb
            go_wp2_with (at_builtin; refine wpList_append_any _ rfl (.tmp 145) (.tmp 147) 25 rfl 24 iI (.agg #[.int .i64 0, .int .i64 0, .int .i64 0]) 3 24 Tryd.underlying25 hiI hzI0 hzI1 hzI2 rfl (by decide) (.slice ao2 n cap2) n _ rfl (hown.alloc _) [] (.slice (some ⟨wr.heap.size, 0, none⟩) 1 1) 1 (codeCells [⟨34, 0, 0⟩]) rfl (code_lit wr [⟨34, 0, 0⟩] #[.int .i64 34, .int .i64 0, .int .i64 0] 24 rfl) rfl (codeCells_oneV _) hbm ?_; intro ao5 cap5 w5 hown5 hgrow5 hat5)
            have hO5 := OwnC.more (d := endL 7) HO.out hown5 hgrow5 hat5 rfl
            go_meet
            exact ⟨ao5, n + 1, cap5, rfl, by omega, hO5, by simp [pcE], by simp⟩
          · have hbm := hb 1 (by omega)
            clear hb
            go_wp2_with (at_builtin; refine wpList_append_any _ rfl (.tmp 88) (.tmp 90) 25 rfl 24 iI (.agg #[.int .i64 0, .int .i64 0, .int .i64 0]) 3 24 Tryd.underlying25 hiI hzI0 hzI1 hzI2 rfl (by decide) (.slice ao2 n cap2) n _ rfl (hown.alloc _) [] (.slice (some ⟨wr.heap.size, 0, none⟩) 1 1) 1 (codeCells [⟨4, 0, 0⟩]) rfl (code_lit wr [⟨4, 0, 0⟩] #[.int .i64 4, .int .i64 0, .int .i64 0] 24 rfl) rfl (codeCells_oneV _) hbm ?_; intro ao5 cap5 w5 hown5 hgrow5 hat5)
            have hO5 := OwnC.more (d := endL 8) HO.out hown5 hgrow5 hat5 rfl
            go_meet
            exact ⟨ao5, n + 1, cap5, rfl, by omega, hO5, by simp [pcE], by simp⟩
        case rest =>
          obtain ⟨ao5, n5, cap5, rfl, hn50, hO5, rfl, rfl⟩ := hcut
          have he9 : 0 ≤ e9 ∧ e9 ≤ 8 := by omega
          have hown5 := hO5.own
          have HO5 := Lib.hid hO5
          have hbm : n5 + 1 ≤ 9223372036854775807 ∧ (n5 + 1) * 24 ≤ 140737488355328 := by omega
          clear hO5 hown hm9
          go_upto_region 47 with (at_builtin; refine wpList_append_any _ rfl (.tmp 149) (.tmp 151) 25 rfl 24 iI (.agg #[.int .i64 0, .int .i64 0, .int .i64 0]) 3 24 Tryd.underlying25 hiI hzI0 hzI1 hzI2 rfl (by decide) (.slice ao5 n5 cap5) n5 _ rfl (hown5.alloc _) [] (.slice (some ⟨wc.heap.size, 0, none⟩) 1 1) 1 (codeCells [⟨39, 0, 0⟩]) rfl (code_lit wc [⟨39, 0, 0⟩] #[.int .i64 39, .int .i64 0, .int .i64 0] 24 rfl) rfl (codeCells_oneV _) hbm ?_; intro ao6 cap6 w6 hown6 hgrow6 hat6)
          have hO6 := HO5.out.more hown6 hgrow6 hat6 rfl
          have hcl : (C ++ endL e9) ++ [⟨39, 0, 0⟩] = codeL hs e9 := by rw [← HC.out]; unfold codeL; simp [List.append_assoc]
          rw [hcl] at hO6
          clear hcl hown5 hgrow6 hat6 hown6 hbm
          obtain ⟨n6, hn6⟩ : ∃ n6, n6 = n5 + 1 := ⟨_, rfl⟩
          rw [← hn6] at hO6 ⊢
          clear hn6
          obtain ⟨c, hc⟩ : ∃ c, c = codeL hs e9 := ⟨_, rfl⟩
          rw [← hc] at hO6
          have hver := ver_leaks hs e9 HS.out.1 HS.out.2 he9
          rw [← hc, ← HNL.out] at hver
          have hcm : ∀ x ∈ c, x ∈ allL := fun x hx => mem_codeL HS.out.2 he9 (by rw [← hc]; exact hx)
          have hcl2 := (len_codeL hs e9 HS.out.1).2
          rw [← hc] at hcl2
          have HVER := Lib.hid hver
          have HCM := Lib.hid hcm
          have HO6 := Lib.hid hO6
          clear hc hver hcm hO6
          obtain ⟨D1, hD1⟩ : ∃ W, W = w6.alloc (.cells #[.int .i64 2, .int .i64 1] 3) := ⟨_, rfl⟩
          have sD1 : D1.heap.size = w6.heap.size + 1 := by rw [hD1]; simp
          have tD1 : Tch [] w6 D1 := by rw [hD1]; exact (Tch.refl [] w6).alloc _
          have bD1 : D1.heap[w6.heap.size]? = some (.cells #[.int .i64 2, .int .i64 1] 3 (0, 0)) := by rw [hD1]; exact heap_alloc_new w6 _
          obtain ⟨D2, hD2⟩ : ∃ W, W = D1.alloc (.cells #[.int .i64 1, .int .i64 2] 3) := ⟨_, rfl⟩
          have sD2 : D2.heap.size = w6.heap.size + 1 + 1 := by rw [hD2]; simp [sD1]
          have tD2 : Tch [] D1 D2 := by rw [hD2]; exact (Tch.refl [] D1).alloc _
          have bD2 : D2.heap[w6.heap.size + 1]? = some (.cells #[.int .i64 1, .int .i64 2] 3 (0, 0)) := by rw [hD2, ← sD1]; exact heap_alloc_new D1 _
          obtain ⟨D3, hD3⟩ : ∃ W, W = D2.alloc (.cells #[.int .i64 2] 3) := ⟨_, rfl⟩
          have sD3 : D3.heap.size = w6.heap.size + 1 + 1 + 1 := by rw [hD3]; simp [sD2]
          have tD3 : Tch [] D2 D3 := by rw [hD3]; exact (Tch.refl [] D2).alloc _
          have bD3 : D3.heap[w6.heap.size + 1 + 1]? = some (.cells #[.int .i64 2] 3 (0, 0)) := by rw [hD3, ← sD2]; exact heap_alloc_new D2 _
          obtain ⟨D4, hD4⟩ : ∃ W, W = D3.alloc (.cells #[.int .i64 2, .int .i64 0, .int .i64 0, .int .i64 39, .int .i64 0, .int .i64 0] 24) := ⟨_, rfl⟩
          have sD4 : D4.heap.size = w6.heap.size + 1 + 1 + 1 + 1 := by rw [hD4]; simp [sD3]
          have tD4 : Tch [] D3 D4 := by rw [hD4]; exact (Tch.refl [] D3).alloc _
          have bD4 : D4.heap[w6.heap.size + 1 + 1 + 1]? = some (.cells #[.int .i64 2, .int .i64 0, .int .i64 0, .int .i64 39, .int .i64 0, .int .i64 0] 24 (0, 0)) := by rw [hD4, ← sD3]; exact heap_alloc_new D3 _
          obtain ⟨D5, hD5⟩ : ∃ W, W = D4.alloc (.cells #[.slice none 0 0, .int .i64 0, .slice (some ⟨w6.heap.size + 1, 0, none⟩) 2 2, .slice ao6 n6 cap6, .slice (some ⟨w6.heap.size + 1 + 1, 0, none⟩) 1 1, .int .i64 2, .slice none 0 0, .slice (some ⟨w6.heap.size + 1 + 1 + 1, 0, none⟩) 2 2] 28) := ⟨_, rfl⟩
          have sD5 : D5.heap.size = w6.heap.size + 1 + 1 + 1 + 1 + 1 := by rw [hD5]; simp [sD4]
          have tD5 : Tch [] D4 D5 := by rw [hD5]; exact (Tch.refl [] D4).alloc _
          have bD5 : D5.heap[w6.heap.size + 1 + 1 + 1 + 1]? = some (.cells #[.slice none 0 0, .int .i64 0, .slice (some ⟨w6.heap.size + 1, 0, none⟩) 2 2, .slice ao6 n6 cap6, .slice (some ⟨w6.heap.size + 1 + 1, 0, none⟩) 1 1, .int .i64 2, .slice none 0 0, .slice (some ⟨w6.heap.size + 1 + 1 + 1, 0, none⟩) 2 2] 28 (0, 0)) := by rw [hD5, ← sD4]; exact heap_alloc_new D4 _
          obtain ⟨D6, hD6⟩ : ∃ W, W = D5.alloc (.cells #[.string ⟨#[97]⟩, .slice (some ⟨w6.heap.size, 0, none⟩) 2 2, .slice none 0 0, .slice (some ⟨w6.heap.size + 1 + 1 + 1 + 1, 0, none⟩) 2 2, .slice none 0 0] 32) := ⟨_, rfl⟩
          have sD6 : D6.heap.size = w6.heap.size + 1 + 1 + 1 + 1 + 1 + 1 := by rw [hD6]; simp [sD5]
          have tD6 : Tch [] D5 D6 := by rw [hD6]; exact (Tch.refl [] D5).alloc _
          have bD6 : D6.heap[w6.heap.size + 1 + 1 + 1 + 1 + 1]? = some (.cells #[.string ⟨#[97]⟩, .slice (some ⟨w6.heap.size, 0, none⟩) 2 2, .slice none 0 0, .slice (some ⟨w6.heap.size + 1 + 1 + 1 + 1, 0, none⟩) 2 2, .slice none 0 0] 32 (0, 0)) := by rw [hD6, ← sD5]; exact heap_alloc_new D5 _
          go_upto_region 48 with fail
          rw [← hD1, ← hD2, ← hD3, ← hD4, ← hD5, ← hD6]
          have hO7 := HO6.out
          have q1 := (((((tD2.then tD3).then tD4).then tD5).then tD6).block _ (heap_lt bD1) (by simp)).trans bD1
          have q2 := ((((tD3.then tD4).then tD5).then tD6).block _ (heap_lt bD2) (by simp)).trans bD2
          have q3 := (((tD4.then tD5).then tD6).block _ (heap_lt bD3) (by simp)).trans bD3
          have q4 := ((tD5.then tD6).block _ (heap_lt bD4) (by simp)).trans bD4
          have q5 := (tD6.block _ (heap_lt bD5) (by simp)).trans bD5
          have tD : Tch [] w6 D6 := (((((tD1.then tD2).then tD3).then tD4).then tD5).then tD6)
          have TD : Tch [] w D6 := hO7.t.then tD
          have rc : RCode D6 [] (.slice ao6 n6 cap6) c := by
            have h1 := src_of_owns (ownsRow_tch hO7.own tD (by simp)) [] (by simp)
            unfold RCode
            rw [hO7.ln]
            exact h1
          have rm := mths_2 (m := m0L c) (m' := m1L) q5 nil_ints (src_blkV (L := []) (m := 2) (c := 2) q2 (by simp) (by omega)) rc (src_blkV (L := []) (m := 1) (c := 1) q3 (by simp) (by omega)) nil_ints (src_blkV (L := []) (m := 2) (c := 2) q4 (by simp) (by omega))
          have rf : RInts D6 [] (.slice (some ⟨w6.heap.size, 0, none⟩) 2 2) [2, 1] := src_blkV (L := []) (m := 2) (c := 2) q1 (by simp) (by omega)
          obtain ⟨g, hg⟩ : ∃ g, g = w6.heap.size + 1 + 1 + 1 + 1 + 1 := ⟨_, rfl⟩
          rw [← hg]
          rw [← hg] at bD6
          obtain ⟨gm, hgm⟩ : ∃ g, g = w6.heap.size + 1 + 1 + 1 + 1 := ⟨_, rfl⟩
          rw [← hgm] at bD6 rm
          have hX := cells_of_heapW bD6
          have hVf := ve_Verify D6 (imgL c) (.slice (some ⟨w6.heap.size, 0, none⟩) 2 2) (.slice none 0 0) (.slice (some ⟨gm, 0, none⟩) 2 2) (.slice none 0 0) rf nil_imps rm nil_ints (imgL_z c hcl2 HCM.out) (fun nm w' h t' => HV.out nm w' h (TD.then t')) (imgL_nn c HCM.out) 45 0 _ _ HVER.out
          have hVg : Calls Tryd.prog 7 #[.agg #[.string ⟨#[97]⟩, .slice (some ⟨w6.heap.size, 0, none⟩) 2 2, .slice none 0 0, .slice (some ⟨gm, 0, none⟩) 2 2, .slice none 0 0]] D6 fun e w' => e = .returned (.tuple #[.agg #[.int .i64 0, .int .i64 ((endR n e9).1 : Int)], .int .i64 (endR n e9).2]) ∧ Tch [] D6 w' := hVf
          clear hVf hD1 hD2 hD3 hD4 hD5 hD6 sD1 sD2 sD3 sD4 sD5 sD6 tD1 tD2 tD3 tD4 tD5 tD6 bD1 bD2 bD3 bD4 bD5 q1 q2 q3 q4 q5 hO7 rc rm rf hg hgm tD
          have HKN := Lib.hid (fun (W : World) (t : Tch [] w W) => l7_known W (fun nm w' h t' => HV.out nm w' h (t.then t')))
          by_cases h6 : e9 < 6
          · rw [endR_leak n e9 (by omega)] at hVg
            dsimp only at hVg
            have hdl : decide (e9 < 6) = true := decide_eq_true h6
            go_wp2_with (first | (refine wpList_load_agg rfl 32 (.tmp 9) rfl ⟨g, 0, none⟩ rfl #[.string ⟨#[97]⟩, .slice (some ⟨w6.heap.size, 0, none⟩) 2 2, .slice none 0 0, .slice (some ⟨gm, 0, none⟩) 2 2, .slice none 0 0] _ hX Tryd.underlying32 rfl (by kernel_rfl) ?_) | fail)
            refine hVg.mono ?_
            rintro e w7 ⟨rfl, t7⟩
            obtain ⟨W7, hW7⟩ : ∃ W, W = w7.alloc (.cells #[.int .i64 0, .int .i64 (pcE n e9 : Nat)] 34) := ⟨_, rfl⟩
            have tW7 : Tch [] w7 W7 := by rw [hW7]; exact (Tch.refl [] w7).alloc _
            have hB7 : W7.heap[w7.heap.size]? = some (.cells #[.int .i64 0, .int .i64 (pcE n e9 : Nat)] 34 (0, 0)) := by rw [hW7]; exact heap_alloc_new w7 _
            have T7 := TD.then (t7.then tW7)
            have hK := HKN.out W7 T7
            obtain ⟨gw, hgw⟩ : ∃ g, g = w7.heap.size := ⟨_, rfl⟩
            rw [← hgw] at hB7
            clear hX hVg
            go_upto_region 49 with fail
            rw [← hW7, ← hgw]
            clear hW7 hgw
            go_wp2_with fail
            refine hK.mono ?_
            rintro e w8 ⟨rfl, t8⟩
            have hX8 := cells_of_heapW ((t8.block gw (heap_lt hB7) (by simp)).trans hB7)
            clear hK
            go_wp2_with (first | (refine wpList_load_agg_v (by rfl) 34 (.tmp 10) rfl ⟨gw, 0, none⟩ rfl #[.int .i64 0, .int .i64 (pcE n e9 : Nat)] _ hX8 Tryd.underlying34 rfl (by kernel_rfl) ?_) | fail)
            go_ret
            exact ⟨by simp, T7.then t8⟩
          · rw [endR_fine n e9 (by omega)] at hVg
            dsimp only at hVg
            have hdl : decide (e9 < 6) = false := decide_eq_false h6
            go_wp2_with (first | (refine wpList_load_agg rfl 32 (.tmp 9) rfl ⟨g, 0, none⟩ rfl #[.string ⟨#[97]⟩, .slice (some ⟨w6.heap.size, 0, none⟩) 2 2, .slice none 0 0, .slice (some ⟨gm, 0, none⟩) 2 2, .slice none 0 0] _ hX Tryd.underlying32 rfl (by kernel_rfl) ?_) | fail)
            refine hVg.mono ?_
            rintro e w7 ⟨rfl, t7⟩
            obtain ⟨W7, hW7⟩ : ∃ W, W = w7.alloc (.cells #[.int .i64 0, .int .i64 0] 34) := ⟨_, rfl⟩
            have tW7 : Tch [] w7 W7 := by rw [hW7]; exact (Tch.refl [] w7).alloc _
            have T7 := TD.then (t7.then tW7)
            have hK := HKN.out W7 T7
            clear hX hVg
            go_upto_region 49 with fail
            rw [← hW7]
            clear hW7
            go_wp2_with fail
            refine hK.mono ?_
            rintro e w8 ⟨rfl, t8⟩
            clear hK
            go_wp2_with fail
            go_ret
            exact ⟨rfl, T7.then t8⟩
end Go.Proofs.YtpabkjjonbhdeaaDoor
