/-
  THE 54 of VerifyJoins. Conditions: none.
-/
import Derived.Test.YtpabkjjonbhdeaaDoorHVe16
import Derived.Test.YtpabkjjonbhdeaaDoorHVe17
namespace Go.Proofs.YtpabkjjonbhdeaaDoor
open Go.RowKit Go.Tcn
set_option linter.unusedVariables false
set_option linter.unusedSimpArgs false
set_option maxRecDepth 100000 in
set_option maxHeartbeats 4000000 in
theorem l7_way (b : Bool) (w : World) : Calls Tryd.prog 9 #[.bool b] w fun e w' => (∃ g, e = .returned (.slice (some ⟨g, 0, none⟩) 3 3) ∧ Go.Tcn.Src w' [] (.slice (some ⟨g, 0, none⟩) 3 3) 3 (codeCells (wayL b))) ∧ Tch [] w w' := by
  cases b
  · go_enter Tryd.func9, Tryd.ntmps9
    go_wp2_with fail
    go_ret
    exact ⟨⟨_, rfl, code_lit w (wayL false) #[.int .i64 35, .int .i64 1, .int .i64 0, .int .i64 1, .int .i64 0, .int .i64 0, .int .i64 29, .int .i64 0, .int .i64 0] 24 rfl⟩, (Tch.refl [] w).alloc _⟩
  · go_enter Tryd.func9, Tryd.ntmps9
    go_wp2_with fail
    go_ret
    exact ⟨⟨_, rfl, code_lit w (wayL true) #[.int .i64 35, .int .i64 2, .int .i64 0, .int .i64 1, .int .i64 0, .int .i64 0, .int .i64 29, .int .i64 0, .int .i64 0] 24 rfl⟩, (Tch.refl [] w).alloc _⟩
theorem codeJ_b (l r a : Bool) : ∀ x ∈ codeJ l r a, 0 ≤ x.a ∧ x.b = 0 := by cases l <;> cases r <;> cases a <;> decide
theorem codeJ_len (l r a : Bool) : (codeJ l r a).length = 11 := by cases l <;> cases r <;> cases a <;> rfl
theorem OwnC.more2 {w wz w5 : World} {ao ao5 : Option Addr} {n cap cap5 m : Nat} {c d : List Ins} (h : OwnC w wz ao n cap c) (ho : w5.ownsRow 0 24 3 (.slice ao5 (n + m) cap5) (n + m) (codeCells c ++ codeCells d)) (hg : wz.grownBy w5 (Value.slice ao n cap).ownBlock) (ha : (Value.slice ao5 (n + m) cap5).ownBlock = (Value.slice ao n cap).ownBlock ∨ (Value.slice ao5 (n + m) cap5).ownBlock = some wz.heap.size) (hd : d.length = m) : OwnC w w5 ao5 (n + m) cap5 (c ++ d) := by
  refine ⟨by rw [codeCells_appV]; exact ho, fun k hk => ?_, h.t.grown hg (fun k hk => .inr (h.ge k hk)), by rw [List.length_append, h.ln, hd]⟩
  rcases ha with e | e
  · rw [e] at hk; exact h.ge k hk
  · rw [e] at hk
    have := h.t.size
    simp at hk
    omega
theorem OwnC.tch {w wz w5 : World} {ao : Option Addr} {n cap : Nat} {c : List Ins} (h : OwnC w wz ao n cap c) (t : Tch [] wz w5) : OwnC w w5 ao n cap c := ⟨ownsRow_tch h.own t (by simp), h.ge, h.t.then t, h.ln⟩
theorem l7_joinsV (W : World) (gm : Nat) (left right ask : Bool) (hm : RMths W [] (.slice (some ⟨gm, 0, none⟩) 1 1) [oneM (codeJ left right ask)]) (hV : ∀ nm w', nm.length ≤ 16 → Tch [] W w' → Calls Tryd.prog 31 #[.string ⟨nm.toArray⟩] w' fun e w'' => e = .returned (.bool (Lib.validD nm)) ∧ Tch [] w' w'') :
    Calls Tryd.prog 7 #[.agg #[.string ⟨#[97]⟩, .slice none 0 0, .slice none 0 0, .slice (some ⟨gm, 0, none⟩) 1 1, .slice none 0 0]] W fun e w' => e = .returned (.tuple (if (ask && (left || right)) = true then #[.agg #[.int .i64 0, .int .i64 9], .int .i64 12] else #[.agg #[.int .i64 0, .int .i64 0], .int .i64 0])) ∧ Tch [] W w' := by
  have h := ver_joins left right ask
  cases hb : (ask && (left || right))
  · rw [hb] at h
    rw [if_neg (by simp)] at h ⊢
    exact l7_ver W gm _ hm hV (by rw [codeJ_len]; omega) (codeJ_b left right ask) 40 0 0 0 h
  · rw [hb] at h
    rw [if_pos rfl] at h ⊢
    exact l7_ver W gm _ hm hV (by rw [codeJ_len]; omega) (codeJ_b left right ask) 40 0 9 12 h
theorem l7_joinsS (W : World) (gm : Nat) (left right ask : Bool) (hno : (ask && (left || right)) = false) (hm : RMths W [] (.slice (some ⟨gm, 0, none⟩) 1 1) [oneM (codeJ left right ask)]) (hV : ∀ nm w', nm.length ≤ 16 → Tch [] W w' → Calls Tryd.prog 31 #[.string ⟨nm.toArray⟩] w' fun e w'' => e = .returned (.bool (Lib.validD nm)) ∧ Tch [] w' w'') :
    Calls Tryd.prog 10 #[.agg #[.string ⟨#[97]⟩, .slice none 0 0, .slice none 0 0, .slice (some ⟨gm, 0, none⟩) 1 1, .slice none 0 0], .int .i64 0] W fun e w' => (∃ bs sa sc, e = .returned (.tuple #[.slice (some ⟨bs, 0, none⟩) 11 11, .bool true]) ∧ w'.cell? ⟨bs, 9, none⟩ = some (.slice (some sa) 1 sc) ∧ w'.cell? sa = some (.int .i64 (wantJ left right))) ∧ Tch [] W w' := by
  obtain ⟨τ, h1, h2, h3⟩ := joins_run left right ask
  have hv := ver_joins left right ask
  rw [hno] at h1 hv
  rw [if_neg (by simp)] at h1 hv
  have hln := codeJ_len left right ask
  have h := ve_States W (oneI (codeJ left right ask)) _ _ _ _ nil_ints nil_imps hm nil_ints (oneI_z _ (by rw [hln]; omega) (codeJ_b left right ask)) hV (fun m hm' x hx => by
    simp [oneI] at hm'
    subst hm'
    exact (codeJ_b left right ask x hx).1) 40 hv (joins_right left right ask) 0 (by simp [oneI]) (oneM (codeJ left right ask)) rfl τ (.inr ⟨joins_names left right ask, 40, by rw [show (oneM (codeJ left right ask)).code.length = 11 from hln]; exact h1⟩)
  refine h.mono fun e w' ⟨⟨V, he, hs⟩, t⟩ => ⟨?_, t⟩
  rw [show (oneM (codeJ left right ask)).code.length = 11 from hln] at he hs
  obtain ⟨sa, sc, c1, c2, _⟩ := hs.cs (k := 9) (by omega)
  have e9 : τ.sts.getD 9 [] = [wantJ left right] := by rw [List.getD_eq_getElem?_getD, h3]; rfl
  rw [e9] at c1 c2
  obtain ⟨y, ey, ad, hax, q, _⟩ := at_ints (c2.mono (by simp)) 0 (by simp)
  subst hax
  have q0 := q w' (Tch.refl _ _)
  rw [Addr_add_zero] at q0
  have : y = wantJ left right := by rw [← ey]; rfl
  exact ⟨V.bs, ad, sc, he, c1, by rw [q0, this]⟩
set_option maxRecDepth 100000 in
set_option maxHeartbeats 16000000 in
theorem law7_VerifyJoins (w : World) (left right ask : Bool) (hV : ∀ nm w', nm.length ≤ 16 → Tch [] w w' → Calls Tryd.prog 31 #[.string ⟨nm.toArray⟩] w' fun e w'' => e = .returned (.bool (Lib.validD nm)) ∧ Tch [] w' w'') :
    Calls Tryd.prog 4 #[.bool left, .bool right, .bool ask] w fun e w' => e = .returned (.bool true) ∧ Tch [] w w' := by
  have HV := Lib.hid hV
  clear hV
  obtain ⟨iI, hiI, hzI0, hzI1, hzI2⟩ := info_parts info_insV
  obtain ⟨V0, hV0⟩ : ∃ W, W = w.alloc (.cells #[.int .i64 1, .int .i64 1, .int .i64 0, .int .i64 24, .int .i64 6, .int .i64 0] 24) := ⟨_, rfl⟩
  have hL0 : OwnC w V0 (some ⟨w.heap.size, 0, none⟩) 2 2 [⟨1, 1, 0⟩, ⟨24, 6, 0⟩] := by
    refine ⟨?_, fun k hk => by simp [Value.ownBlock] at hk; omega, by rw [hV0]; exact (Tch.refl [] w).alloc _, rfl⟩
    rw [hV0]
    exact World.ownsRow_lit w #[.int .i64 1, .int .i64 1, .int .i64 0, .int .i64 24, .int .i64 6, .int .i64 0] 2 (Nat.zero_le _) (by decide) rfl
  obtain ⟨ao0, hao0⟩ : ∃ a, a = some (⟨w.heap.size, 0, none⟩ : Addr) := ⟨_, rfl⟩
  rw [← hao0] at hL0
  have hway := fun b W => l7_way b W
  go_enter Tryd.func4, Tryd.ntmps4
  go_upto_region 3 with fail
  rw [← hV0, ← hao0]
  clear hV0 hao0
  have hb1 : 2 + 3 ≤ 9223372036854775807 ∧ (2 + 3) * 24 ≤ 140737488355328 := by omega
  go_wp2_with fail
  have hwl : ∀ b, (codeCells (wayL b)).length = 3 * 3 := fun b => by cases b <;> rfl
  refine (hway left V0).mono ?_
  rintro e w1 ⟨⟨g1, rfl, hr1⟩, t1⟩
  have hL1 := hL0.tch t1
  have hown1 := hL1.own
  clear hL0
  go_upto_region 4 with (at_builtin; refine wpList_append_any _ rfl (.tmp 19) (.tmp 22) 25 rfl 24 iI (.agg #[.int .i64 0, .int .i64 0, .int .i64 0]) 3 24 Tryd.underlying25 hiI hzI0 hzI1 hzI2 rfl (by decide) (.slice ao0 2 2) 2 _ rfl hown1 [] (.slice (some ⟨g1, 0, none⟩) 3 3) 3 (codeCells (wayL left)) rfl hr1 (hwl left) (codeCells_oneV _) hb1 ?_; intro ao2 cap2 w2 hown2 hgrow2 hat2)
  have hL2 : OwnC w w2 ao2 5 cap2 ([⟨1, 1, 0⟩, ⟨24, 6, 0⟩] ++ wayL left) := OwnC.more2 hL1 hown2 hgrow2 hat2 (by cases left <;> rfl)
  have hownA := hL2.own
  have hb2 : 5 + 1 ≤ 9223372036854775807 ∧ (5 + 1) * 24 ≤ 140737488355328 := by omega
  have hb3 : 6 + 3 ≤ 9223372036854775807 ∧ (6 + 3) * 24 ≤ 140737488355328 := by omega
  have hb4 : 9 + 2 ≤ 9223372036854775807 ∧ (9 + 2) * 24 ≤ 140737488355328 := by omega
  clear hown1 hown2 hgrow2 hat2 hr1 hL1 hb1
  go_upto_region 5 with (at_builtin; refine wpList_append_any _ rfl (.tmp 24) (.tmp 26) 25 rfl 24 iI (.agg #[.int .i64 0, .int .i64 0, .int .i64 0]) 3 24 Tryd.underlying25 hiI hzI0 hzI1 hzI2 rfl (by decide) (.slice ao2 5 cap2) 5 _ rfl (hownA.alloc _) [] (.slice (some ⟨w2.heap.size, 0, none⟩) 1 1) 1 (codeCells [⟨23, 9, 0⟩]) rfl (code_lit w2 [⟨23, 9, 0⟩] #[.int .i64 23, .int .i64 9, .int .i64 0] 24 rfl) rfl (codeCells_oneV _) hb2 ?_; intro ao3 cap3 w3 hown3 hgrow3 hat3)
  have hL3 : OwnC w w3 ao3 6 cap3 (([⟨1, 1, 0⟩, ⟨24, 6, 0⟩] ++ wayL left) ++ [⟨23, 9, 0⟩]) := OwnC.more hL2 hown3 hgrow3 hat3 rfl
  clear hownA hL2 hown3 hgrow3 hat3
  go_wp2_with fail
  refine (hway right w3).mono ?_
  rintro e w4 ⟨⟨g4, rfl, hr4⟩, t4⟩
  have hL4 := hL3.tch t4
  have hown4 := hL4.own
  clear hL3 hway
  go_upto_region 6 with (at_builtin; refine wpList_append_any _ rfl (.tmp 28) (.tmp 31) 25 rfl 24 iI (.agg #[.int .i64 0, .int .i64 0, .int .i64 0]) 3 24 Tryd.underlying25 hiI hzI0 hzI1 hzI2 rfl (by decide) (.slice ao3 6 cap3) 6 _ rfl hown4 [] (.slice (some ⟨g4, 0, none⟩) 3 3) 3 (codeCells (wayL right)) rfl hr4 (hwl right) (codeCells_oneV _) hb3 ?_; intro ao5 cap5 w5 hown5 hgrow5 hat5)
  have hL5 : OwnC w w5 ao5 9 cap5 ((([⟨1, 1, 0⟩, ⟨24, 6, 0⟩] ++ wayL left) ++ [⟨23, 9, 0⟩]) ++ wayL right) := OwnC.more2 hL4 hown5 hgrow5 hat5 (by cases right <;> rfl)
  clear hown4 hown5 hgrow5 hat5 hr4 hL4 hwl hb2 hb3
  go_upto_region 7 with fail
  cases ask
  · go_upto_region 9 with fail
    obtain ⟨WE, hWE⟩ : ∃ W, W = w5.alloc (.cells #[.int .i64 4, .int .i64 0, .int .i64 0] 24) := ⟨_, rfl⟩
    have tWE : Tch [] w5 WE := by rw [hWE]; exact (Tch.refl [] w5).alloc _
    have hBE : WE.heap[w5.heap.size]? = some (.cells #[.int .i64 4, .int .i64 0, .int .i64 0] 24 (0, 0)) := by rw [hWE]; exact heap_alloc_new w5 _
    obtain ⟨ge, hge⟩ : ∃ g, g = w5.heap.size := ⟨_, rfl⟩
    rw [← hWE, ← hge]
    rw [← hge] at hBE
    clear hWE hge
    have hXE := cells_of_heapW hBE
    have hLE := hL5.tch tWE
    have hownE := hLE.own
    go_upto_region 10 with (first | (refine wpList_load_agg rfl 24 (.tmp 9) rfl ⟨ge, 0, none⟩ rfl #[.int .i64 4, .int .i64 0, .int .i64 0] _ hXE Tryd.underlying24 rfl (by kernel_rfl) ?_) | (at_builtin; refine wpList_append_any _ rfl (.tmp 36) (.tmp 39) 25 rfl 24 iI (.agg #[.int .i64 0, .int .i64 0, .int .i64 0]) 3 24 Tryd.underlying25 hiI hzI0 hzI1 hzI2 rfl (by decide) (.slice ao5 9 cap5) 9 _ rfl (hownE.alloc _) [] (.slice (some ⟨WE.heap.size, 0, none⟩) 2 2) 2 (codeCells [⟨4, 0, 0⟩, ⟨39, 0, 0⟩]) rfl (code_lit WE [⟨4, 0, 0⟩, ⟨39, 0, 0⟩] #[.int .i64 4, .int .i64 0, .int .i64 0, .int .i64 39, .int .i64 0, .int .i64 0] 24 rfl) rfl (codeCells_oneV _) hb4 ?_; intro ao6 cap6 w6 hown6 hgrow6 hat6) | fail)
    have hL6 : OwnC w w6 ao6 11 cap6 (((([⟨1, 1, 0⟩, ⟨24, 6, 0⟩] ++ wayL left) ++ [⟨23, 9, 0⟩]) ++ wayL right) ++ [⟨4, 0, 0⟩, ⟨39, 0, 0⟩]) := OwnC.more hLE hown6 hgrow6 hat6 rfl
    have hce : (((([⟨1, 1, 0⟩, ⟨24, 6, 0⟩] ++ wayL left) ++ [⟨23, 9, 0⟩]) ++ wayL right) ++ [⟨4, 0, 0⟩, ⟨39, 0, 0⟩]) = codeJ left right false := by simp [codeJ]
    rw [hce] at hL6
    clear hce hownE hLE hL5 hown6 hgrow6 hat6 hXE hBE
    obtain ⟨D1, hD1⟩ : ∃ W, W = w6.alloc (.cells #[.slice none 0 0, .int .i64 0, .slice none 0 0, .slice ao6 11 cap6] 28) := ⟨_, rfl⟩
    have sD1 : D1.heap.size = w6.heap.size + 1 := by rw [hD1]; simp
    have tD1 : Tch [] w6 D1 := by rw [hD1]; exact (Tch.refl [] w6).alloc _
    have bD1 : D1.heap[w6.heap.size]? = some (.cells #[.slice none 0 0, .int .i64 0, .slice none 0 0, .slice ao6 11 cap6] 28 (0, 0)) := by rw [hD1]; exact heap_alloc_new w6 _
    obtain ⟨D2, hD2⟩ : ∃ W, W = D1.alloc (.cells #[.string ⟨#[97]⟩, .slice none 0 0, .slice none 0 0, .slice (some ⟨w6.heap.size, 0, none⟩) 1 1, .slice none 0 0] 32) := ⟨_, rfl⟩
    have tD2 : Tch [] D1 D2 := by rw [hD2]; exact (Tch.refl [] D1).alloc _
    have bD2 : D2.heap[w6.heap.size + 1]? = some (.cells #[.string ⟨#[97]⟩, .slice none 0 0, .slice none 0 0, .slice (some ⟨w6.heap.size, 0, none⟩) 1 1, .slice none 0 0] 32 (0, 0)) := by rw [hD2, ← sD1]; exact heap_alloc_new D1 _
    go_upto_region 11 with fail
    rw [← hD1, ← hD2]
    have rc : RCode D2 [] (.slice ao6 11 cap6) (codeJ left right false) := by
      have h1 := src_of_owns (ownsRow_tch hL6.own (tD1.then tD2) (by simp)) [] (by simp)
      unfold RCode
      rw [codeJ_len]
      exact h1
    have rm := mths_1 (m := oneM (codeJ left right false)) ((tD2.block _ (heap_lt bD1) (by simp)).trans bD1) nil_ints nil_ints rc
    have TD := hL6.t.then (tD1.then tD2)
    obtain ⟨g, hg⟩ : ∃ g, g = w6.heap.size + 1 := ⟨_, rfl⟩
    obtain ⟨gm, hgm⟩ : ∃ g, g = w6.heap.size := ⟨_, rfl⟩
    rw [← hg]
    rw [← hg, ← hgm] at bD2
    rw [← hgm] at rm
    have hX := cells_of_heapW bD2
    clear hD1 hD2 sD1 tD1 tD2 bD1 rc hL6 hg hgm
    have hVD := fun (W : World) (t : Tch [] D2 W) nm w' h t' => HV.out nm w' h ((TD.then t).then t')
    have hVf := l7_joinsV D2 gm left right false rm (hVD D2 (Tch.refl _ _))
    have HKN := Lib.hid (fun (W : World) (t : Tch [] D2 W) => l7_known W (hVD W t))
    have HRM := Lib.hid rm
    have HVD := Lib.hid hVD
    clear rm hVD
    cases left
    · cases right
      · have hVg : Calls Tryd.prog 7 #[.agg #[.string ⟨#[97]⟩, .slice none 0 0, .slice none 0 0, .slice (some ⟨gm, 0, none⟩) 1 1, .slice none 0 0]] D2 fun e w' => e = .returned (.tuple #[.agg #[.int .i64 0, .int .i64 0], .int .i64 0]) ∧ Tch [] D2 w' := hVf
        clear hVf
        go_wp2_with (first | (refine wpList_load_agg rfl 32 (.tmp 10) rfl ⟨g, 0, none⟩ rfl #[.string ⟨#[97]⟩, .slice none 0 0, .slice none 0 0, .slice (some ⟨gm, 0, none⟩) 1 1, .slice none 0 0] _ hX Tryd.underlying32 rfl (by kernel_rfl) ?_) | fail)
        refine hVg.mono ?_
        rintro e w7 ⟨rfl, t7⟩
        clear hVg hX
        obtain ⟨W7, hW7⟩ : ∃ W, W = w7.alloc (.cells #[.int .i64 0, .int .i64 0] 34) := ⟨_, rfl⟩
        have tW7 : Tch [] w7 W7 := by rw [hW7]; exact (Tch.refl [] w7).alloc _
        have hB7 : W7.heap[w7.heap.size]? = some (.cells #[.int .i64 0, .int .i64 0] 34 (0, 0)) := by rw [hW7]; exact heap_alloc_new w7 _
        obtain ⟨gw, hgw⟩ : ∃ g, g = w7.heap.size := ⟨_, rfl⟩
        rw [← hgw] at hB7
        have T7 := t7.then tW7
        go_upto_region 12 with fail
        rw [← hW7, ← hgw]
        clear hW7 hgw
        have hX7 := cells_of_heapW ((T7.block g (heap_lt bD2) (by simp)).trans bD2)
        have hS := l7_joinsS W7 gm false false false rfl (HRM.out.tch T7 (by simp)) (HVD.out W7 T7)
        go_wp2_with (first | (refine wpList_load_agg rfl 32 (.tmp 10) rfl ⟨g, 0, none⟩ rfl #[.string ⟨#[97]⟩, .slice none 0 0, .slice none 0 0, .slice (some ⟨gm, 0, none⟩) 1 1, .slice none 0 0] _ hX7 Tryd.underlying32 rfl (by kernel_rfl) ?_) | fail)
        refine hS.mono ?_
        rintro e w8 ⟨⟨bs, sa, sc, rfl, c1, c2⟩, t8⟩
        have hK := HKN.out w8 (T7.then t8)
        clear hS hX7 hB7
        go_wp2_with fail
        refine hK.mono ?_
        rintro e w9 ⟨rfl, t9⟩
        have d1 := (t9.cell (cell_lt c1) (by simp)).trans c1
        have d2 : w9.cell? sa = some (.int .i64 1) := (t9.cell (cell_lt c2) (by simp)).trans c2
        clear hK c1 c2
        go_wp2_with fail
        go_ret
        exact ⟨rfl, TD.then ((T7.then t8).then t9)⟩
      · have hVg : Calls Tryd.prog 7 #[.agg #[.string ⟨#[97]⟩, .slice none 0 0, .slice none 0 0, .slice (some ⟨gm, 0, none⟩) 1 1, .slice none 0 0]] D2 fun e w' => e = .returned (.tuple #[.agg #[.int .i64 0, .int .i64 0], .int .i64 0]) ∧ Tch [] D2 w' := hVf
        clear hVf
        go_wp2_with (first | (refine wpList_load_agg rfl 32 (.tmp 10) rfl ⟨g, 0, none⟩ rfl #[.string ⟨#[97]⟩, .slice none 0 0, .slice none 0 0, .slice (some ⟨gm, 0, none⟩) 1 1, .slice none 0 0] _ hX Tryd.underlying32 rfl (by kernel_rfl) ?_) | fail)
        refine hVg.mono ?_
        rintro e w7 ⟨rfl, t7⟩
        clear hVg hX
        obtain ⟨W7, hW7⟩ : ∃ W, W = w7.alloc (.cells #[.int .i64 0, .int .i64 0] 34) := ⟨_, rfl⟩
        have tW7 : Tch [] w7 W7 := by rw [hW7]; exact (Tch.refl [] w7).alloc _
        have hB7 : W7.heap[w7.heap.size]? = some (.cells #[.int .i64 0, .int .i64 0] 34 (0, 0)) := by rw [hW7]; exact heap_alloc_new w7 _
        obtain ⟨gw, hgw⟩ : ∃ g, g = w7.heap.size := ⟨_, rfl⟩
        rw [← hgw] at hB7
        have T7 := t7.then tW7
        go_upto_region 12 with fail
        rw [← hW7, ← hgw]
        clear hW7 hgw
        have hX7 := cells_of_heapW ((T7.block g (heap_lt bD2) (by simp)).trans bD2)
        have hS := l7_joinsS W7 gm false true false rfl (HRM.out.tch T7 (by simp)) (HVD.out W7 T7)
        go_wp2_with (first | (refine wpList_load_agg rfl 32 (.tmp 10) rfl ⟨g, 0, none⟩ rfl #[.string ⟨#[97]⟩, .slice none 0 0, .slice none 0 0, .slice (some ⟨gm, 0, none⟩) 1 1, .slice none 0 0] _ hX7 Tryd.underlying32 rfl (by kernel_rfl) ?_) | fail)
        refine hS.mono ?_
        rintro e w8 ⟨⟨bs, sa, sc, rfl, c1, c2⟩, t8⟩
        have hK := HKN.out w8 (T7.then t8)
        clear hS hX7 hB7
        go_wp2_with fail
        refine hK.mono ?_
        rintro e w9 ⟨rfl, t9⟩
        have d1 := (t9.cell (cell_lt c1) (by simp)).trans c1
        have d2 : w9.cell? sa = some (.int .i64 2) := (t9.cell (cell_lt c2) (by simp)).trans c2
        clear hK c1 c2
        go_wp2_with fail
        go_ret
        exact ⟨rfl, TD.then ((T7.then t8).then t9)⟩
    · cases right
      · have hVg : Calls Tryd.prog 7 #[.agg #[.string ⟨#[97]⟩, .slice none 0 0, .slice none 0 0, .slice (some ⟨gm, 0, none⟩) 1 1, .slice none 0 0]] D2 fun e w' => e = .returned (.tuple #[.agg #[.int .i64 0, .int .i64 0], .int .i64 0]) ∧ Tch [] D2 w' := hVf
        clear hVf
        go_wp2_with (first | (refine wpList_load_agg rfl 32 (.tmp 10) rfl ⟨g, 0, none⟩ rfl #[.string ⟨#[97]⟩, .slice none 0 0, .slice none 0 0, .slice (some ⟨gm, 0, none⟩) 1 1, .slice none 0 0] _ hX Tryd.underlying32 rfl (by kernel_rfl) ?_) | fail)
        refine hVg.mono ?_
        rintro e w7 ⟨rfl, t7⟩
        clear hVg hX
        obtain ⟨W7, hW7⟩ : ∃ W, W = w7.alloc (.cells #[.int .i64 0, .int .i64 0] 34) := ⟨_, rfl⟩
        have tW7 : Tch [] w7 W7 := by rw [hW7]; exact (Tch.refl [] w7).alloc _
        have hB7 : W7.heap[w7.heap.size]? = some (.cells #[.int .i64 0, .int .i64 0] 34 (0, 0)) := by rw [hW7]; exact heap_alloc_new w7 _
        obtain ⟨gw, hgw⟩ : ∃ g, g = w7.heap.size := ⟨_, rfl⟩
        rw [← hgw] at hB7
        have T7 := t7.then tW7
        go_upto_region 12 with fail
        rw [← hW7, ← hgw]
        clear hW7 hgw
        have hX7 := cells_of_heapW ((T7.block g (heap_lt bD2) (by simp)).trans bD2)
        have hS := l7_joinsS W7 gm true false false rfl (HRM.out.tch T7 (by simp)) (HVD.out W7 T7)
        go_wp2_with (first | (refine wpList_load_agg rfl 32 (.tmp 10) rfl ⟨g, 0, none⟩ rfl #[.string ⟨#[97]⟩, .slice none 0 0, .slice none 0 0, .slice (some ⟨gm, 0, none⟩) 1 1, .slice none 0 0] _ hX7 Tryd.underlying32 rfl (by kernel_rfl) ?_) | fail)
        refine hS.mono ?_
        rintro e w8 ⟨⟨bs, sa, sc, rfl, c1, c2⟩, t8⟩
        have hK := HKN.out w8 (T7.then t8)
        clear hS hX7 hB7
        go_wp2_with fail
        refine hK.mono ?_
        rintro e w9 ⟨rfl, t9⟩
        have d1 := (t9.cell (cell_lt c1) (by simp)).trans c1
        have d2 : w9.cell? sa = some (.int .i64 2) := (t9.cell (cell_lt c2) (by simp)).trans c2
        clear hK c1 c2
        go_wp2_with fail
        go_ret
        exact ⟨rfl, TD.then ((T7.then t8).then t9)⟩
      · have hVg : Calls Tryd.prog 7 #[.agg #[.string ⟨#[97]⟩, .slice none 0 0, .slice none 0 0, .slice (some ⟨gm, 0, none⟩) 1 1, .slice none 0 0]] D2 fun e w' => e = .returned (.tuple #[.agg #[.int .i64 0, .int .i64 0], .int .i64 0]) ∧ Tch [] D2 w' := hVf
        clear hVf
        go_wp2_with (first | (refine wpList_load_agg rfl 32 (.tmp 10) rfl ⟨g, 0, none⟩ rfl #[.string ⟨#[97]⟩, .slice none 0 0, .slice none 0 0, .slice (some ⟨gm, 0, none⟩) 1 1, .slice none 0 0] _ hX Tryd.underlying32 rfl (by kernel_rfl) ?_) | fail)
        refine hVg.mono ?_
        rintro e w7 ⟨rfl, t7⟩
        clear hVg hX
        obtain ⟨W7, hW7⟩ : ∃ W, W = w7.alloc (.cells #[.int .i64 0, .int .i64 0] 34) := ⟨_, rfl⟩
        have tW7 : Tch [] w7 W7 := by rw [hW7]; exact (Tch.refl [] w7).alloc _
        have hB7 : W7.heap[w7.heap.size]? = some (.cells #[.int .i64 0, .int .i64 0] 34 (0, 0)) := by rw [hW7]; exact heap_alloc_new w7 _
        obtain ⟨gw, hgw⟩ : ∃ g, g = w7.heap.size := ⟨_, rfl⟩
        rw [← hgw] at hB7
        have T7 := t7.then tW7
        go_upto_region 12 with fail
        rw [← hW7, ← hgw]
        clear hW7 hgw
        have hX7 := cells_of_heapW ((T7.block g (heap_lt bD2) (by simp)).trans bD2)
        have hS := l7_joinsS W7 gm true true false rfl (HRM.out.tch T7 (by simp)) (HVD.out W7 T7)
        go_wp2_with (first | (refine wpList_load_agg rfl 32 (.tmp 10) rfl ⟨g, 0, none⟩ rfl #[.string ⟨#[97]⟩, .slice none 0 0, .slice none 0 0, .slice (some ⟨gm, 0, none⟩) 1 1, .slice none 0 0] _ hX7 Tryd.underlying32 rfl (by kernel_rfl) ?_) | fail)
        refine hS.mono ?_
        rintro e w8 ⟨⟨bs, sa, sc, rfl, c1, c2⟩, t8⟩
        have hK := HKN.out w8 (T7.then t8)
        clear hS hX7 hB7
        go_wp2_with fail
        refine hK.mono ?_
        rintro e w9 ⟨rfl, t9⟩
        have d1 := (t9.cell (cell_lt c1) (by simp)).trans c1
        have d2 : w9.cell? sa = some (.int .i64 2) := (t9.cell (cell_lt c2) (by simp)).trans c2
        clear hK c1 c2
        go_wp2_with fail
        go_ret
        exact ⟨rfl, TD.then ((T7.then t8).then t9)⟩
  · go_upto_region 9 with fail
    obtain ⟨WE, hWE⟩ : ∃ W, W = w5.alloc (.cells #[.int .i64 27, .int .i64 3, .int .i64 0] 24) := ⟨_, rfl⟩
    have tWE : Tch [] w5 WE := by rw [hWE]; exact (Tch.refl [] w5).alloc _
    have hBE : WE.heap[w5.heap.size]? = some (.cells #[.int .i64 27, .int .i64 3, .int .i64 0] 24 (0, 0)) := by rw [hWE]; exact heap_alloc_new w5 _
    obtain ⟨ge, hge⟩ : ∃ g, g = w5.heap.size := ⟨_, rfl⟩
    rw [← hWE, ← hge]
    rw [← hge] at hBE
    clear hWE hge
    have hXE := cells_of_heapW hBE
    have hLE := hL5.tch tWE
    have hownE := hLE.own
    go_upto_region 10 with (first | (refine wpList_load_agg rfl 24 (.tmp 9) rfl ⟨ge, 0, none⟩ rfl #[.int .i64 27, .int .i64 3, .int .i64 0] _ hXE Tryd.underlying24 rfl (by kernel_rfl) ?_) | (at_builtin; refine wpList_append_any _ rfl (.tmp 36) (.tmp 39) 25 rfl 24 iI (.agg #[.int .i64 0, .int .i64 0, .int .i64 0]) 3 24 Tryd.underlying25 hiI hzI0 hzI1 hzI2 rfl (by decide) (.slice ao5 9 cap5) 9 _ rfl (hownE.alloc _) [] (.slice (some ⟨WE.heap.size, 0, none⟩) 2 2) 2 (codeCells [⟨27, 3, 0⟩, ⟨39, 0, 0⟩]) rfl (code_lit WE [⟨27, 3, 0⟩, ⟨39, 0, 0⟩] #[.int .i64 27, .int .i64 3, .int .i64 0, .int .i64 39, .int .i64 0, .int .i64 0] 24 rfl) rfl (codeCells_oneV _) hb4 ?_; intro ao6 cap6 w6 hown6 hgrow6 hat6) | fail)
    have hL6 : OwnC w w6 ao6 11 cap6 (((([⟨1, 1, 0⟩, ⟨24, 6, 0⟩] ++ wayL left) ++ [⟨23, 9, 0⟩]) ++ wayL right) ++ [⟨27, 3, 0⟩, ⟨39, 0, 0⟩]) := OwnC.more hLE hown6 hgrow6 hat6 rfl
    have hce : (((([⟨1, 1, 0⟩, ⟨24, 6, 0⟩] ++ wayL left) ++ [⟨23, 9, 0⟩]) ++ wayL right) ++ [⟨27, 3, 0⟩, ⟨39, 0, 0⟩]) = codeJ left right true := by simp [codeJ]
    rw [hce] at hL6
    clear hce hownE hLE hL5 hown6 hgrow6 hat6 hXE hBE
    obtain ⟨D1, hD1⟩ : ∃ W, W = w6.alloc (.cells #[.slice none 0 0, .int .i64 0, .slice none 0 0, .slice ao6 11 cap6] 28) := ⟨_, rfl⟩
    have sD1 : D1.heap.size = w6.heap.size + 1 := by rw [hD1]; simp
    have tD1 : Tch [] w6 D1 := by rw [hD1]; exact (Tch.refl [] w6).alloc _
    have bD1 : D1.heap[w6.heap.size]? = some (.cells #[.slice none 0 0, .int .i64 0, .slice none 0 0, .slice ao6 11 cap6] 28 (0, 0)) := by rw [hD1]; exact heap_alloc_new w6 _
    obtain ⟨D2, hD2⟩ : ∃ W, W = D1.alloc (.cells #[.string ⟨#[97]⟩, .slice none 0 0, .slice none 0 0, .slice (some ⟨w6.heap.size, 0, none⟩) 1 1, .slice none 0 0] 32) := ⟨_, rfl⟩
    have tD2 : Tch [] D1 D2 := by rw [hD2]; exact (Tch.refl [] D1).alloc _
    have bD2 : D2.heap[w6.heap.size + 1]? = some (.cells #[.string ⟨#[97]⟩, .slice none 0 0, .slice none 0 0, .slice (some ⟨w6.heap.size, 0, none⟩) 1 1, .slice none 0 0] 32 (0, 0)) := by rw [hD2, ← sD1]; exact heap_alloc_new D1 _
    go_upto_region 11 with fail
    rw [← hD1, ← hD2]
    have rc : RCode D2 [] (.slice ao6 11 cap6) (codeJ left right true) := by
      have h1 := src_of_owns (ownsRow_tch hL6.own (tD1.then tD2) (by simp)) [] (by simp)
      unfold RCode
      rw [codeJ_len]
      exact h1
    have rm := mths_1 (m := oneM (codeJ left right true)) ((tD2.block _ (heap_lt bD1) (by simp)).trans bD1) nil_ints nil_ints rc
    have TD := hL6.t.then (tD1.then tD2)
    obtain ⟨g, hg⟩ : ∃ g, g = w6.heap.size + 1 := ⟨_, rfl⟩
    obtain ⟨gm, hgm⟩ : ∃ g, g = w6.heap.size := ⟨_, rfl⟩
    rw [← hg]
    rw [← hg, ← hgm] at bD2
    rw [← hgm] at rm
    have hX := cells_of_heapW bD2
    clear hD1 hD2 sD1 tD1 tD2 bD1 rc hL6 hg hgm
    have hVD := fun (W : World) (t : Tch [] D2 W) nm w' h t' => HV.out nm w' h ((TD.then t).then t')
    have hVf := l7_joinsV D2 gm left right true rm (hVD D2 (Tch.refl _ _))
    have HKN := Lib.hid (fun (W : World) (t : Tch [] D2 W) => l7_known W (hVD W t))
    have HRM := Lib.hid rm
    have HVD := Lib.hid hVD
    clear rm hVD
    cases left
    · cases right
      · have hVg : Calls Tryd.prog 7 #[.agg #[.string ⟨#[97]⟩, .slice none 0 0, .slice none 0 0, .slice (some ⟨gm, 0, none⟩) 1 1, .slice none 0 0]] D2 fun e w' => e = .returned (.tuple #[.agg #[.int .i64 0, .int .i64 0], .int .i64 0]) ∧ Tch [] D2 w' := hVf
        clear hVf
        go_wp2_with (first | (refine wpList_load_agg rfl 32 (.tmp 10) rfl ⟨g, 0, none⟩ rfl #[.string ⟨#[97]⟩, .slice none 0 0, .slice none 0 0, .slice (some ⟨gm, 0, none⟩) 1 1, .slice none 0 0] _ hX Tryd.underlying32 rfl (by kernel_rfl) ?_) | fail)
        refine hVg.mono ?_
        rintro e w7 ⟨rfl, t7⟩
        clear hVg hX
        obtain ⟨W7, hW7⟩ : ∃ W, W = w7.alloc (.cells #[.int .i64 0, .int .i64 0] 34) := ⟨_, rfl⟩
        have tW7 : Tch [] w7 W7 := by rw [hW7]; exact (Tch.refl [] w7).alloc _
        have hB7 : W7.heap[w7.heap.size]? = some (.cells #[.int .i64 0, .int .i64 0] 34 (0, 0)) := by rw [hW7]; exact heap_alloc_new w7 _
        obtain ⟨gw, hgw⟩ : ∃ g, g = w7.heap.size := ⟨_, rfl⟩
        rw [← hgw] at hB7
        have T7 := t7.then tW7
        go_upto_region 12 with fail
        rw [← hW7, ← hgw]
        clear hW7 hgw
        have hX7 := cells_of_heapW ((T7.block g (heap_lt bD2) (by simp)).trans bD2)
        have hS := l7_joinsS W7 gm false false true rfl (HRM.out.tch T7 (by simp)) (HVD.out W7 T7)
        go_wp2_with (first | (refine wpList_load_agg rfl 32 (.tmp 10) rfl ⟨g, 0, none⟩ rfl #[.string ⟨#[97]⟩, .slice none 0 0, .slice none 0 0, .slice (some ⟨gm, 0, none⟩) 1 1, .slice none 0 0] _ hX7 Tryd.underlying32 rfl (by kernel_rfl) ?_) | fail)
        refine hS.mono ?_
        rintro e w8 ⟨⟨bs, sa, sc, rfl, c1, c2⟩, t8⟩
        have hK := HKN.out w8 (T7.then t8)
        clear hS hX7 hB7
        go_wp2_with fail
        refine hK.mono ?_
        rintro e w9 ⟨rfl, t9⟩
        have d1 := (t9.cell (cell_lt c1) (by simp)).trans c1
        have d2 : w9.cell? sa = some (.int .i64 1) := (t9.cell (cell_lt c2) (by simp)).trans c2
        clear hK c1 c2
        go_wp2_with fail
        go_ret
        exact ⟨rfl, TD.then ((T7.then t8).then t9)⟩
      · have hVg : Calls Tryd.prog 7 #[.agg #[.string ⟨#[97]⟩, .slice none 0 0, .slice none 0 0, .slice (some ⟨gm, 0, none⟩) 1 1, .slice none 0 0]] D2 fun e w' => e = .returned (.tuple #[.agg #[.int .i64 0, .int .i64 9], .int .i64 12]) ∧ Tch [] D2 w' := hVf
        clear hVf
        go_wp2_with (first | (refine wpList_load_agg rfl 32 (.tmp 10) rfl ⟨g, 0, none⟩ rfl #[.string ⟨#[97]⟩, .slice none 0 0, .slice none 0 0, .slice (some ⟨gm, 0, none⟩) 1 1, .slice none 0 0] _ hX Tryd.underlying32 rfl (by kernel_rfl) ?_) | fail)
        refine hVg.mono ?_
        rintro e w7 ⟨rfl, t7⟩
        clear hVg hX
        obtain ⟨W7, hW7⟩ : ∃ W, W = w7.alloc (.cells #[.int .i64 0, .int .i64 9] 34) := ⟨_, rfl⟩
        have tW7 : Tch [] w7 W7 := by rw [hW7]; exact (Tch.refl [] w7).alloc _
        have hB7 : W7.heap[w7.heap.size]? = some (.cells #[.int .i64 0, .int .i64 9] 34 (0, 0)) := by rw [hW7]; exact heap_alloc_new w7 _
        obtain ⟨gw, hgw⟩ : ∃ g, g = w7.heap.size := ⟨_, rfl⟩
        rw [← hgw] at hB7
        have T7 := t7.then tW7
        go_upto_region 12 with fail
        rw [← hW7, ← hgw]
        clear hW7 hgw
        have hK := HKN.out W7 T7
        go_wp2_with fail
        refine hK.mono ?_
        rintro e w8 ⟨rfl, t8⟩
        have hB8 := (t8.block gw (heap_lt hB7) (by simp)).trans hB7
        have z1 : w8.cell? ⟨gw, 1, none⟩ = some (.int .i64 9) := by simp [World.cell?, hB8]
        clear hK hB7 hB8
        go_wp2_with fail
        go_ret
        exact ⟨rfl, TD.then (T7.then t8)⟩
    · cases right
      · have hVg : Calls Tryd.prog 7 #[.agg #[.string ⟨#[97]⟩, .slice none 0 0, .slice none 0 0, .slice (some ⟨gm, 0, none⟩) 1 1, .slice none 0 0]] D2 fun e w' => e = .returned (.tuple #[.agg #[.int .i64 0, .int .i64 9], .int .i64 12]) ∧ Tch [] D2 w' := hVf
        clear hVf
        go_wp2_with (first | (refine wpList_load_agg rfl 32 (.tmp 10) rfl ⟨g, 0, none⟩ rfl #[.string ⟨#[97]⟩, .slice none 0 0, .slice none 0 0, .slice (some ⟨gm, 0, none⟩) 1 1, .slice none 0 0] _ hX Tryd.underlying32 rfl (by kernel_rfl) ?_) | fail)
        refine hVg.mono ?_
        rintro e w7 ⟨rfl, t7⟩
        clear hVg hX
        obtain ⟨W7, hW7⟩ : ∃ W, W = w7.alloc (.cells #[.int .i64 0, .int .i64 9] 34) := ⟨_, rfl⟩
        have tW7 : Tch [] w7 W7 := by rw [hW7]; exact (Tch.refl [] w7).alloc _
        have hB7 : W7.heap[w7.heap.size]? = some (.cells #[.int .i64 0, .int .i64 9] 34 (0, 0)) := by rw [hW7]; exact heap_alloc_new w7 _
        obtain ⟨gw, hgw⟩ : ∃ g, g = w7.heap.size := ⟨_, rfl⟩
        rw [← hgw] at hB7
        have T7 := t7.then tW7
        go_upto_region 12 with fail
        rw [← hW7, ← hgw]
        clear hW7 hgw
        have hK := HKN.out W7 T7
        go_wp2_with fail
        refine hK.mono ?_
        rintro e w8 ⟨rfl, t8⟩
        have hB8 := (t8.block gw (heap_lt hB7) (by simp)).trans hB7
        have z1 : w8.cell? ⟨gw, 1, none⟩ = some (.int .i64 9) := by simp [World.cell?, hB8]
        clear hK hB7 hB8
        go_wp2_with fail
        go_ret
        exact ⟨rfl, TD.then (T7.then t8)⟩
      · have hVg : Calls Tryd.prog 7 #[.agg #[.string ⟨#[97]⟩, .slice none 0 0, .slice none 0 0, .slice (some ⟨gm, 0, none⟩) 1 1, .slice none 0 0]] D2 fun e w' => e = .returned (.tuple #[.agg #[.int .i64 0, .int .i64 9], .int .i64 12]) ∧ Tch [] D2 w' := hVf
        clear hVf
        go_wp2_with (first | (refine wpList_load_agg rfl 32 (.tmp 10) rfl ⟨g, 0, none⟩ rfl #[.string ⟨#[97]⟩, .slice none 0 0, .slice none 0 0, .slice (some ⟨gm, 0, none⟩) 1 1, .slice none 0 0] _ hX Tryd.underlying32 rfl (by kernel_rfl) ?_) | fail)
        refine hVg.mono ?_
        rintro e w7 ⟨rfl, t7⟩
        clear hVg hX
        obtain ⟨W7, hW7⟩ : ∃ W, W = w7.alloc (.cells #[.int .i64 0, .int .i64 9] 34) := ⟨_, rfl⟩
        have tW7 : Tch [] w7 W7 := by rw [hW7]; exact (Tch.refl [] w7).alloc _
        have hB7 : W7.heap[w7.heap.size]? = some (.cells #[.int .i64 0, .int .i64 9] 34 (0, 0)) := by rw [hW7]; exact heap_alloc_new w7 _
        obtain ⟨gw, hgw⟩ : ∃ g, g = w7.heap.size := ⟨_, rfl⟩
        rw [← hgw] at hB7
        have T7 := t7.then tW7
        go_upto_region 12 with fail
        rw [← hW7, ← hgw]
        clear hW7 hgw
        have hK := HKN.out W7 T7
        go_wp2_with fail
        refine hK.mono ?_
        rintro e w8 ⟨rfl, t8⟩
        have hB8 := (t8.block gw (heap_lt hB7) (by simp)).trans hB7
        have z1 : w8.cell? ⟨gw, 1, none⟩ = some (.int .i64 9) := by simp [World.cell?, hB8]
        clear hK hB7 hB8
        go_wp2_with fail
        go_ret
        exact ⟨rfl, TD.then (T7.then t8)⟩
end Go.Proofs.YtpabkjjonbhdeaaDoor
