/-
  CONTRACTS: Applet of taciturnhand, of raw statements. Conditions: the raw statements fit.
-/
import Derived.Test.YtapephelfijcbaaGreatDoorHApp
import Derived.Test.YtapephelfijcbaaGreatDoorHHCode
namespace Go.Tcn
open Go.RowKit
set_option linter.unusedVariables false
set_option linter.unusedSimpArgs false
/-- Raw statements, cut. -/
theorem Raws.cuth {w : World} {ao : Option Addr} {n cap : Nat} {l : List Rw} (h : Raws w (.slice ao n cap) l) (hi : Nat) (h1 : hi ≤ l.length) (h2 : hi ≤ cap) : Raws w (.slice ao hi cap) (l.take hi) := by
  obtain ⟨ao', cap', e, hm, hc⟩ := h.ex
  simp only [Value.slice.injEq] at e
  obtain ⟨rfl, rfl, rfl⟩ := e
  refine ⟨⟨ao, cap, by simp; omega, by simp; omega, fun k x hk => ?_⟩, fun x hx => h.rng x (List.mem_of_mem_take hx)⟩
  rw [List.getElem?_take] at hk
  split at hk
  · exact hc k x hk
  · cases hk
theorem Raws.cut {w : World} {ao : Option Addr} {n cap : Nat} {l : List Rw} (h : Raws w (.slice ao n cap) l) (lo hi : Nat) (h1 : lo ≤ hi) (h2 : hi ≤ l.length) (h3 : l.length ≤ cap) : Raws w (.slice (if cap = lo then ao else Option.map (fun x => x.add (lo * 4)) ao) (hi - lo) (cap - lo)) ((l.take hi).drop lo) := by
  obtain ⟨ao', cap', e, hm, hc⟩ := h.ex
  simp only [Value.slice.injEq] at e
  obtain ⟨rfl, rfl, rfl⟩ := e
  have hlen : ((l.take hi).drop lo).length = hi - lo := by rw [List.length_drop, List.length_take]; omega
  refine ⟨⟨if cap = lo then ao else Option.map (fun x => x.add (lo * 4)) ao, cap - lo, by rw [hlen], by omega, fun k x hk => ?_⟩, fun x hx => h.rng x (List.mem_of_mem_take (List.mem_of_mem_drop hx))⟩
  rw [List.getElem?_drop, List.getElem?_take] at hk
  split at hk
  · obtain ⟨ad, rfl, hl, hcell⟩ := hc (lo + k) x hk
    by_cases hz : cap = lo
    · omega
    · refine ⟨ad.add (lo * 4), by simp [hz], by rw [Addr_add_block]; exact hl, fun j u hj => ?_⟩
      have := hcell j u hj
      rw [Addr_add_add ad (lo * 4) (k * 4), show lo * 4 + k * 4 = (lo + k) * 4 by omega]
      exact this
  · cases hk
end Go.Tcn
namespace Go.Proofs.YtapephelfijcbaaGreatDoor
open Go.RowKit Go.Tcn
set_option linter.unusedVariables false
set_option linter.unusedSimpArgs false

set_option maxRecDepth 100000 in
set_option maxHeartbeats 8000000 in
theorem hand_Applet (w : World) (hG : Bins w 2) (k : Int) (hk : I6 k) (xv : Value) (l : List Rw) (hl : Raws w xv l) (hll : l.length ≤ 5000000000000) (hcap : ∀ ao n c, xv = .slice ao n c → n ≤ c) (L0 : List Nat) (hL0 : ∀ i ∈ L0, i < w.heap.size) : Calls Tryz.prog 13 #[.int .i64 k, xv] w fun e w' => ∃ (cs : Array Value) (c0 c1 c2 : List Ins), e = .returned (.agg cs) ∧ RImg w' L0 cs.toList (appI k l.length c0 c1 c2) ∧ CodeOk c0 ∧ CodeOk c1 ∧ CodeOk c2 ∧ Tch [] w w' := by
  have hk1 := @wrap64_I6 ⟨true, []⟩ (k + 1)
  have hk2 := @wrap64_I6 ⟨true, []⟩ (wrap64 (k + 1) + (l.length : Int) % 3)
  have hP3 := fun w => hand_Pick (l.length : Int) 3 (by omega) (by omega) (by omega) w
  obtain ⟨aox, capx, hxv, hlm, _⟩ := id hl.ex
  subst hxv
  have hcp : l.length ≤ capx := hcap _ _ _ rfl
  clear hcap
  go_enter Tryz.func13, Tryz.ntmps13
  go_wp2_with fail
  refine (hand_Name _ k hk).mono ?_
  rintro e w1 ⟨rfl, rfl⟩
  go_wp2_with fail
  refine (hand_Name _ _ hk1).mono ?_
  rintro e w1 ⟨rfl, rfl⟩
  go_wp2_with fail
  refine (hP3 _).mono ?_
  rintro e w1 ⟨rfl, rfl⟩
  go_wp2_with fail
  refine (hand_Name _ _ hk2).mono ?_
  rintro e w1 ⟨rfl, rfl⟩
  obtain ⟨V, hV, hA, tV⟩ := AppS.start (TI := 27) (TM := 50) (TP := 45) (TE := 3) w (nameOf k) (nameOf (wrap64 (k + 1))) (nameOf (wrap64 (wrap64 (k + 1) + (l.length : Int) % 3)))
  go_upto_region 5 with fail
  rw [← hV]
  clear hV hP3
  generalize hn2 : nameOf (wrap64 (wrap64 (k + 1) + (l.length : Int) % 3)) = n2 at *
  generalize hn1 : nameOf (wrap64 (k + 1)) = n1 at *
  generalize hn0 : nameOf k = n0 at *
  go_wp2_with fail
  go_loopw [8] (fun i wz => ∃ (m : Nat) (v0 v1 v2 : Value) (c0 c1 c2 : List Ins), m ≤ 3 ∧ i = .int .i64 m ∧ AppS 27 50 45 3 w.heap.size wz n0 n1 n2 v0 v1 v2 ∧ RCode wz (w.heap.size :: (w.heap.size + 1 + 1 + 1 + 1 + 1 + 1 + 1 + 1 + 1 + 1) :: L0) v0 c0 ∧ RCode wz (w.heap.size :: (w.heap.size + 1 + 1 + 1 + 1 + 1 + 1 + 1 + 1 + 1 + 1) :: L0) v1 c1 ∧ RCode wz (w.heap.size :: (w.heap.size + 1 + 1 + 1 + 1 + 1 + 1 + 1 + 1 + 1 + 1) :: L0) v2 c2 ∧ (CodeOk c0 ∨ m ≤ 0) ∧ (CodeOk c1 ∨ m ≤ 1) ∧ (CodeOk c2 ∨ m ≤ 2) ∧ Tch [] w wz) (fun i _ => 3 - (intOf i).toNat)
  case atStart => exact ⟨0, _, _, _, [], [], [], by omega, rfl, hA, ⟨.inl ⟨rfl, rfl, rfl⟩⟩, ⟨.inl ⟨rfl, rfl, rfl⟩⟩, ⟨.inl ⟨rfl, rfl, rfl⟩⟩, .inr (by omega), .inr (by omega), .inr (by omega), tV⟩
  case round =>
    obtain ⟨m, v0, v1, v2, c0, c1, c2, hm, rfl, hS, hc0, hc1, hc2, hk0, hk1', hk2', ht⟩ := hrel
    clear hA tV
    by_cases hm3 : m < 3
    · have hms : m = 0 ∨ m = 1 ∨ m = 2 := by omega
      have hX := hS.hX
      have x2 : wr.drew.cell? ⟨w.heap.size + 1 + 1 + 1 + 1, 2, none⟩ = some (.slice (some ⟨w.heap.size + 1 + 1 + 1 + 1 + 1 + 1 + 1, 0, none⟩) 2 2) := (cell_of_row wr _ 2 _ _ _ hX).trans rfl
      have x3 : wr.drew.cell? ⟨w.heap.size + 1 + 1 + 1 + 1, 3, none⟩ = some (.slice (some ⟨w.heap.size + 1 + 1 + 1 + 1 + 1 + 1 + 1 + 1 + 1 + 1, 0, none⟩) 3 3) := (cell_of_row wr _ 3 _ _ _ hX).trans rfl
      have hD := hS.tch (Tch.refl [] wr).drew
      have tD : Tch [] w wr.drew := ht.drew
      have hmono : ∀ v c, RCode wr (w.heap.size :: (w.heap.size + 1 + 1 + 1 + 1 + 1 + 1 + 1 + 1 + 1 + 1) :: L0) v c → RCode wr.drew (w.heap.size :: (w.heap.size + 1 + 1 + 1 + 1 + 1 + 1 + 1 + 1 + 1 + 1) :: L0) v c := fun v c h => h.tch (Tch.refl [] wr).drew (by simp)
      have hd0 := hmono _ _ hc0
      have hd1 := hmono _ _ hc1
      have hd2 := hmono _ _ hc2
      have hm1 : ∀ v c, RCode wr.drew (w.heap.size :: (w.heap.size + 1 + 1 + 1 + 1 + 1 + 1 + 1 + 1 + 1 + 1) :: L0) v c → RCode wr.drew (w.heap.size :: L0) v c := fun v c h => Src.mono h (fun i hi _ => by
        rcases List.mem_cons.1 hi with hi | hi
        · exact hi ▸ List.mem_cons_self
        · exact List.mem_cons_of_mem _ (List.mem_cons_of_mem _ hi))
      have hMths := AppS.mths hL0 hD (hm1 _ _ hd0) (hm1 _ _ hd1) (hm1 _ _ hd2)
      have hMths' : RMths wr.drew [] (.slice (some ⟨w.heap.size + 1 + 1 + 1 + 1 + 1 + 1 + 1 + 1 + 1 + 1, 0, none⟩) 3 3) _ := hMths.thin
      have hImps' : RImps wr.drew [] (.slice (some ⟨w.heap.size + 1 + 1 + 1 + 1 + 1 + 1 + 1, 0, none⟩) 2 2) _ := (AppS.imps hL0 hD).thin
      have hfzM : ∀ j, wr.drew.frozen? ⟨w.heap.size + 1 + 1 + 1 + 1 + 1 + 1 + 1 + 1 + 1 + 1, j, none⟩ = false := fun j => World.ownsRow.frozenAt hD.hM j
      have hcM : ∀ j, j < 12 → wr.drew.cell? ⟨w.heap.size + 1 + 1 + 1 + 1 + 1 + 1 + 1 + 1 + 1 + 1, j, none⟩ = _ := fun j hj => World.ownsRow.cellAt hD.hM j hj
      have hzw := ht.size
      clear hmono hm1 hX hMths
      have hRd : Raws wr.drew (.slice aox l.length capx) l := hl.tch tD
      rcases hms with rfl | rfl | rfl
      · have hC := fun xv l' (h1 : Raws wr.drew xv l') (h2 : l'.length ≤ 5000000000000) => hand_Code wr.drew (hG.tch tD) xv l' h1 h2 ⟨[], 0, [1, 2, 3, 4], c0⟩ (.slice none 0 0) (.slice (some ⟨w.heap.size + 1, 0, none⟩) 4 4) v0 (⟨.inl ⟨rfl, rfl, rfl⟩⟩) ((AppS.iB hL0 hD).thin) (by simp) (by simp) (by simp) (by simp) (by simp) (.slice (some ⟨w.heap.size + 1 + 1 + 1 + 1 + 1 + 1 + 1 + 1 + 1 + 1, 0, none⟩) 3 3) _ hMths' (by simp) (by simp) (.slice (some ⟨w.heap.size + 1 + 1 + 1 + 1 + 1 + 1 + 1, 0, none⟩) 2 2) _ hImps' (by simp) (by simp)
        have y0 := hcM 0 (by omega)
        have y1 := hcM 1 (by omega)
        have y2 := hcM 2 (by omega)
        have y3 := hcM 3 (by omega)
        have fz := hfzM 3
        simp at y0 y1 y2 y3
        clear hcM hfzM
        go_upto_region 12 with fail
        refine wp_region_held_drew (S := fun w' => w'.cell? ⟨w.heap.size + 1 + 1 + 1 + 1, 2, none⟩ = some (.slice (some ⟨w.heap.size + 1 + 1 + 1 + 1 + 1 + 1 + 1, 0, none⟩) 2 2) ∧ w'.cell? ⟨w.heap.size + 1 + 1 + 1 + 1, 3, none⟩ = some (.slice (some ⟨w.heap.size + 1 + 1 + 1 + 1 + 1 + 1 + 1 + 1 + 1 + 1, 0, none⟩) 3 3)) (by kernel_rfl) ⟨x2, x3⟩ (fun hHeld => ?_)
        refine wpAnyH_take (i := 0) (v := ?_) rfl (by kernel_rfl) (by kernel_rfl) (by kernel_rfl) (fun _ _ _ h => h) (Or.inl ⟨by rfl, ?_⟩) (by assumption) ?_
        rotate_left
        · (intro w hSw; (try dsimp only at hSw); go_simp; try with_reducible rfl)
        try simp only [Act.put, List.setIfInBounds_toArray, List.set_cons_zero, List.set_cons_succ]
        refine wpAnyH_take (i := 1) (v := ?_) rfl (by kernel_rfl) (by kernel_rfl) (by kernel_rfl) (fun _ _ _ h => h) (Or.inl ⟨by rfl, ?_⟩) (by assumption) ?_
        rotate_left
        · (intro w hSw; (try dsimp only at hSw); go_simp; try with_reducible rfl)
        try simp only [Act.put, List.setIfInBounds_toArray, List.set_cons_zero, List.set_cons_succ]
        refine wpAnyH_take (i := 2) (v := ?_) rfl (by kernel_rfl) (by kernel_rfl) (by kernel_rfl) (fun _ _ _ h => h) (Or.inl ⟨by rfl, ?_⟩) (by assumption) ?_
        rotate_left
        · (intro w hSw; (try dsimp only at hSw); go_simp; try with_reducible rfl)
        try simp only [Act.put, List.setIfInBounds_toArray, List.set_cons_zero, List.set_cons_succ]
        refine wpAnyH_take (i := 3) (v := ?_) rfl (by kernel_rfl) (by kernel_rfl) (by kernel_rfl) (fun _ _ _ h => h) (Or.inl ⟨by rfl, ?_⟩) (by assumption) ?_
        rotate_left
        · (intro w hSw; (try dsimp only at hSw); go_simp; try with_reducible rfl)
        try simp only [Act.put, List.setIfInBounds_toArray, List.set_cons_zero, List.set_cons_succ]
        refine wpAnyH_take (i := 4) (v := ?_) rfl (by kernel_rfl) (by kernel_rfl) (by kernel_rfl) (fun _ _ _ h => h) (Or.inl ⟨by rfl, ?_⟩) (by assumption) ?_
        rotate_left
        · (intro w hSw; (try dsimp only at hSw); go_simp; try with_reducible rfl)
        try simp only [Act.put, List.setIfInBounds_toArray, List.set_cons_zero, List.set_cons_succ]
        refine wpAnyH_take (i := 5) (v := ?_) rfl (by kernel_rfl) (by kernel_rfl) (by kernel_rfl) (fun _ _ _ h => h) (Or.inl ⟨by rfl, ?_⟩) (by assumption) ?_
        rotate_left
        · (intro w hSw; (try dsimp only at hSw); go_simp; try with_reducible rfl)
        try simp only [Act.put, List.setIfInBounds_toArray, List.set_cons_zero, List.set_cons_succ]
        refine wpAnyH_take (i := 6) (v := ?_) rfl (by kernel_rfl) (by kernel_rfl) (by kernel_rfl) (fun _ _ _ h => h) (Or.inl ⟨by rfl, ?_⟩) (by assumption) ?_
        rotate_left
        · (intro w hSw; (try dsimp only at hSw); go_simp; try with_reducible rfl)
        try simp only [Act.put, List.setIfInBounds_toArray, List.set_cons_zero, List.set_cons_succ]
        refine wpAnyH_take (i := 7) (v := ?_) rfl (by kernel_rfl) (by kernel_rfl) (by kernel_rfl) (fun _ _ _ h => h) (Or.inl ⟨by rfl, ?_⟩) (by assumption) ?_
        rotate_left
        · (intro w hSw; (try dsimp only at hSw); go_simp; try with_reducible rfl)
        try simp only [Act.put, List.setIfInBounds_toArray, List.set_cons_zero, List.set_cons_succ]
        refine wpAnyH_take (i := 9) (v := ?_) rfl (by kernel_rfl) (by kernel_rfl) (by kernel_rfl) (fun _ _ _ h => h) (Or.inl ⟨by rfl, ?_⟩) (by assumption) ?_
        rotate_left
        · (intro w hSw; (try dsimp only at hSw); go_simp; try with_reducible rfl)
        try simp only [Act.put, List.setIfInBounds_toArray, List.set_cons_zero, List.set_cons_succ]
        refine wpAnyH_take (i := 10) (v := ?_) rfl (by kernel_rfl) (by kernel_rfl) (by kernel_rfl) (fun _ _ _ h => h) (Or.inl ⟨by rfl, ?_⟩) (by assumption) ?_
        rotate_left
        · (intro w hSw; (try dsimp only at hSw); go_simp; try with_reducible rfl)
        try simp only [Act.put, List.setIfInBounds_toArray, List.set_cons_zero, List.set_cons_succ]
        refine wpAnyH_take (i := 11) (v := ?_) rfl (by kernel_rfl) (by kernel_rfl) (by kernel_rfl) (fun _ _ _ h => h) (Or.inl ⟨by rfl, ?_⟩) (by assumption) ?_
        rotate_left
        · (intro w hSw; (try dsimp only at hSw); go_simp; try with_reducible rfl)
        try simp only [Act.put, List.setIfInBounds_toArray, List.set_cons_zero, List.set_cons_succ]
        refine wpAnyH_take (i := 12) (v := ?_) rfl (by kernel_rfl) (by kernel_rfl) (by kernel_rfl) (fun _ _ _ h => h) (Or.inl ⟨by rfl, ?_⟩) (by assumption) ?_
        rotate_left
        · (intro w hSw; (try dsimp only at hSw); go_simp; try with_reducible rfl)
        try simp only [Act.put, List.setIfInBounds_toArray, List.set_cons_zero, List.set_cons_succ]
        refine wpAnyH_ready (rs := [8]) (by kernel_rfl) (by simp) ?_
        refine AllReadyH.cons rfl (fun K hK => ?_) AllReadyH.nil
        go_simp
        refine hK.out _ _ (⟨x2, x3⟩) (fun hHeld => ?_)
        clear hK K
        try simp only [Act.put, List.setIfInBounds_toArray, List.set_cons_zero, List.set_cons_succ]
        refine wpAnyH_ready (rs := [13]) (by kernel_rfl) (by simp) ?_
        refine AllReadyH.cons rfl (fun K hK => ?_) AllReadyH.nil
        go_simp
        go_at_call 44
        refine (hC _ _ (hRd.cuth _ (by (repeat' split) <;> omega) (by (repeat' split) <;> omega)) (by simp only [List.length_drop, List.length_take]; omega)).mono ?_
        rintro e w5 ⟨cN, aoN, capN, rfl, hoN, hfN, hrN, hlN1, hlN2, tN⟩
        have y3n := (show w5.cell? ⟨w.heap.size + 1 + 1 + 1 + 1 + 1 + 1 + 1 + 1 + 1 + 1, 3, none⟩ = some v0 by rw [tN.cell (cell_lt y3) (by simp)]; exact y3)
        have fzn := (show w5.frozen? ⟨w.heap.size + 1 + 1 + 1 + 1 + 1 + 1 + 1 + 1 + 1 + 1, 3, none⟩ = false by rw [tN.frozen (cell_lt y3) (by simp)]; exact fz)
        have x2n := (show w5.cell? ⟨w.heap.size + 1 + 1 + 1 + 1, 2, none⟩ = some (.slice (some ⟨w.heap.size + 1 + 1 + 1 + 1 + 1 + 1 + 1, 0, none⟩) 2 2) by rw [tN.cell (cell_lt x2) (by simp)]; exact x2)
        have x3n := (show w5.cell? ⟨w.heap.size + 1 + 1 + 1 + 1, 3, none⟩ = some (.slice (some ⟨w.heap.size + 1 + 1 + 1 + 1 + 1 + 1 + 1 + 1 + 1 + 1, 0, none⟩) 3 3) by rw [tN.cell (cell_lt x3) (by simp)]; exact x3)
        have tS := (Tch.refl [w.heap.size + 1 + 1 + 1 + 1 + 1 + 1 + 1 + 1 + 1 + 1] w5).setCell (p := ⟨w.heap.size + 1 + 1 + 1 + 1 + 1 + 1 + 1 + 1 + 1 + 1, 3, none⟩) (.inl (by simp)) (.slice aoN cN.length capN)
        have x2s := (tS.cell (cell_lt x2n) (by simp)).trans x2n
        have x3s := (tS.cell (cell_lt x3n) (by simp)).trans x3n
        refine hK.out _ _ (⟨x2n, x3n⟩) (fun hHeld => ?_)
        clear hK K
        try simp only [Act.put, List.setIfInBounds_toArray, List.set_cons_zero, List.set_cons_succ]
        refine wpAnyH_take (i := 14) (v := ?_) rfl (by kernel_rfl) (by kernel_rfl) (by kernel_rfl) (fun _ _ _ h => h) (Or.inl ⟨by rfl, ?_⟩) (by assumption) ?_
        rotate_left
        · (intro w hSw; (try dsimp only at hSw); go_simp; try with_reducible rfl)
        try simp only [Act.put, List.setIfInBounds_toArray, List.set_cons_zero, List.set_cons_succ]
        refine wpAnyH_take (i := 15) (v := ?_) rfl (by kernel_rfl) (by kernel_rfl) (by kernel_rfl) (fun _ _ _ h => h) (Or.inl ⟨by rfl, ?_⟩) (by assumption) ?_
        rotate_left
        · (intro w hSw; (try dsimp only at hSw); go_simp; try with_reducible rfl)
        try simp only [Act.put, List.setIfInBounds_toArray, List.set_cons_zero, List.set_cons_succ]
        refine wpAnyH_ready (rs := [16]) (by kernel_rfl) (by simp) ?_
        refine AllReadyH.cons rfl (fun K hK => ?_) AllReadyH.nil
        go_simp
        refine hK.out _ _ (⟨x2s, x3s⟩) (fun hHeld => ?_)
        clear hK K
        try simp only [Act.put, List.setIfInBounds_toArray, List.set_cons_zero, List.set_cons_succ]
        refine wpAnyH_done (by kernel_rfl) ?_ _
        go_wp2_with fail
        have hlt := (World.ownsRow.lt hD.hM (w.heap.size + 1 + 1 + 1 + 1 + 1 + 1 + 1 + 1 + 1 + 1) rfl).2
        have hnew := (src_of_owns hoN (w.heap.size :: (w.heap.size + 1 + 1 + 1 + 1 + 1 + 1 + 1 + 1 + 1 + 1) :: L0) (fun g hg hx => by
          have := hfN g hg
          rcases List.mem_cons.1 hx with hx | hx
          · omega
          · rcases List.mem_cons.1 hx with hx | hx
            · omega
            · have := hL0 _ hx
              have hz9 : w.heap.size ≤ wr.drew.heap.size := hzw
              omega)).tch tS (fun i hi _ => by rw [List.mem_singleton] at hi; rw [hi]; exact List.mem_cons_of_mem _ List.mem_cons_self)
        go_roundw
        case rel => exact ⟨1, .slice aoN cN.length capN, v1, v2, cN, c1, c2, by omega, by first | rfl | go_num, (hD.tch tN).set0 _, hnew, (hd1.tch tN (by simp)).tch tS (fun i hi _ => by rw [List.mem_singleton] at hi; rw [hi]; exact List.mem_cons_of_mem _ List.mem_cons_self), (hd2.tch tN (by simp)).tch tS (fun i hi _ => by rw [List.mem_singleton] at hi; rw [hi]; exact List.mem_cons_of_mem _ List.mem_cons_self), .inl ⟨hrN, hlN1, hlN2⟩, hk1'.elim .inl (fun h => .inr (by omega)), hk2'.elim .inl (fun h => .inr (by omega)), (tD.then tN).setCell (.inr (by simp; omega)) _⟩
        case measure => simp [intOf]
      · have hC := fun xv l' (h1 : Raws wr.drew xv l') (h2 : l'.length ≤ 5000000000000) => hand_Code wr.drew (hG.tch tD) xv l' h1 h2 ⟨[1, 2], 2, [1, 2, 3, 4], c1⟩ (.slice (some ⟨w.heap.size + 1 + 1 + 1 + 1 + 1 + 1 + 1 + 1, 0, none⟩) 2 2) (.slice (some ⟨w.heap.size + 1, 0, none⟩) 4 4) v1 ((AppS.iQ1 hL0 hD).thin) ((AppS.iB hL0 hD).thin) (by simp) (by simp) (by simp) (by simp) (by simp) (.slice (some ⟨w.heap.size + 1 + 1 + 1 + 1 + 1 + 1 + 1 + 1 + 1 + 1, 0, none⟩) 3 3) _ hMths' (by simp) (by simp) (.slice (some ⟨w.heap.size + 1 + 1 + 1 + 1 + 1 + 1 + 1, 0, none⟩) 2 2) _ hImps' (by simp) (by simp)
        have y0 := hcM 4 (by omega)
        have y1 := hcM 5 (by omega)
        have y2 := hcM 6 (by omega)
        have y3 := hcM 7 (by omega)
        have fz := hfzM 7
        simp at y0 y1 y2 y3
        clear hcM hfzM
        go_upto_region 12 with fail
        refine wp_region_held_drew (S := fun w' => w'.cell? ⟨w.heap.size + 1 + 1 + 1 + 1, 2, none⟩ = some (.slice (some ⟨w.heap.size + 1 + 1 + 1 + 1 + 1 + 1 + 1, 0, none⟩) 2 2) ∧ w'.cell? ⟨w.heap.size + 1 + 1 + 1 + 1, 3, none⟩ = some (.slice (some ⟨w.heap.size + 1 + 1 + 1 + 1 + 1 + 1 + 1 + 1 + 1 + 1, 0, none⟩) 3 3)) (by kernel_rfl) ⟨x2, x3⟩ (fun hHeld => ?_)
        refine wpAnyH_take (i := 0) (v := ?_) rfl (by kernel_rfl) (by kernel_rfl) (by kernel_rfl) (fun _ _ _ h => h) (Or.inl ⟨by rfl, ?_⟩) (by assumption) ?_
        rotate_left
        · (intro w hSw; (try dsimp only at hSw); go_simp; try with_reducible rfl)
        try simp only [Act.put, List.setIfInBounds_toArray, List.set_cons_zero, List.set_cons_succ]
        refine wpAnyH_take (i := 1) (v := ?_) rfl (by kernel_rfl) (by kernel_rfl) (by kernel_rfl) (fun _ _ _ h => h) (Or.inl ⟨by rfl, ?_⟩) (by assumption) ?_
        rotate_left
        · (intro w hSw; (try dsimp only at hSw); go_simp; try with_reducible rfl)
        try simp only [Act.put, List.setIfInBounds_toArray, List.set_cons_zero, List.set_cons_succ]
        refine wpAnyH_take (i := 2) (v := ?_) rfl (by kernel_rfl) (by kernel_rfl) (by kernel_rfl) (fun _ _ _ h => h) (Or.inl ⟨by rfl, ?_⟩) (by assumption) ?_
        rotate_left
        · (intro w hSw; (try dsimp only at hSw); go_simp; try with_reducible rfl)
        try simp only [Act.put, List.setIfInBounds_toArray, List.set_cons_zero, List.set_cons_succ]
        refine wpAnyH_take (i := 3) (v := ?_) rfl (by kernel_rfl) (by kernel_rfl) (by kernel_rfl) (fun _ _ _ h => h) (Or.inl ⟨by rfl, ?_⟩) (by assumption) ?_
        rotate_left
        · (intro w hSw; (try dsimp only at hSw); go_simp; try with_reducible rfl)
        try simp only [Act.put, List.setIfInBounds_toArray, List.set_cons_zero, List.set_cons_succ]
        refine wpAnyH_take (i := 4) (v := ?_) rfl (by kernel_rfl) (by kernel_rfl) (by kernel_rfl) (fun _ _ _ h => h) (Or.inl ⟨by rfl, ?_⟩) (by assumption) ?_
        rotate_left
        · (intro w hSw; (try dsimp only at hSw); go_simp; try with_reducible rfl)
        try simp only [Act.put, List.setIfInBounds_toArray, List.set_cons_zero, List.set_cons_succ]
        refine wpAnyH_take (i := 5) (v := ?_) rfl (by kernel_rfl) (by kernel_rfl) (by kernel_rfl) (fun _ _ _ h => h) (Or.inl ⟨by rfl, ?_⟩) (by assumption) ?_
        rotate_left
        · (intro w hSw; (try dsimp only at hSw); go_simp; try with_reducible rfl)
        try simp only [Act.put, List.setIfInBounds_toArray, List.set_cons_zero, List.set_cons_succ]
        refine wpAnyH_take (i := 6) (v := ?_) rfl (by kernel_rfl) (by kernel_rfl) (by kernel_rfl) (fun _ _ _ h => h) (Or.inl ⟨by rfl, ?_⟩) (by assumption) ?_
        rotate_left
        · (intro w hSw; (try dsimp only at hSw); go_simp; try with_reducible rfl)
        try simp only [Act.put, List.setIfInBounds_toArray, List.set_cons_zero, List.set_cons_succ]
        refine wpAnyH_take (i := 7) (v := ?_) rfl (by kernel_rfl) (by kernel_rfl) (by kernel_rfl) (fun _ _ _ h => h) (Or.inl ⟨by rfl, ?_⟩) (by assumption) ?_
        rotate_left
        · (intro w hSw; (try dsimp only at hSw); go_simp; try with_reducible rfl)
        try simp only [Act.put, List.setIfInBounds_toArray, List.set_cons_zero, List.set_cons_succ]
        refine wpAnyH_take (i := 9) (v := ?_) rfl (by kernel_rfl) (by kernel_rfl) (by kernel_rfl) (fun _ _ _ h => h) (Or.inl ⟨by rfl, ?_⟩) (by assumption) ?_
        rotate_left
        · (intro w hSw; (try dsimp only at hSw); go_simp; try with_reducible rfl)
        try simp only [Act.put, List.setIfInBounds_toArray, List.set_cons_zero, List.set_cons_succ]
        refine wpAnyH_take (i := 10) (v := ?_) rfl (by kernel_rfl) (by kernel_rfl) (by kernel_rfl) (fun _ _ _ h => h) (Or.inl ⟨by rfl, ?_⟩) (by assumption) ?_
        rotate_left
        · (intro w hSw; (try dsimp only at hSw); go_simp; try with_reducible rfl)
        try simp only [Act.put, List.setIfInBounds_toArray, List.set_cons_zero, List.set_cons_succ]
        refine wpAnyH_take (i := 11) (v := ?_) rfl (by kernel_rfl) (by kernel_rfl) (by kernel_rfl) (fun _ _ _ h => h) (Or.inl ⟨by rfl, ?_⟩) (by assumption) ?_
        rotate_left
        · (intro w hSw; (try dsimp only at hSw); go_simp; try with_reducible rfl)
        try simp only [Act.put, List.setIfInBounds_toArray, List.set_cons_zero, List.set_cons_succ]
        refine wpAnyH_take (i := 12) (v := ?_) rfl (by kernel_rfl) (by kernel_rfl) (by kernel_rfl) (fun _ _ _ h => h) (Or.inl ⟨by rfl, ?_⟩) (by assumption) ?_
        rotate_left
        · (intro w hSw; (try dsimp only at hSw); go_simp; try with_reducible rfl)
        try simp only [Act.put, List.setIfInBounds_toArray, List.set_cons_zero, List.set_cons_succ]
        refine wpAnyH_ready (rs := [8]) (by kernel_rfl) (by simp) ?_
        refine AllReadyH.cons rfl (fun K hK => ?_) AllReadyH.nil
        go_simp
        refine hK.out _ _ (⟨x2, x3⟩) (fun hHeld => ?_)
        clear hK K
        try simp only [Act.put, List.setIfInBounds_toArray, List.set_cons_zero, List.set_cons_succ]
        refine wpAnyH_ready (rs := [13]) (by kernel_rfl) (by simp) ?_
        refine AllReadyH.cons rfl (fun K hK => ?_) AllReadyH.nil
        go_simp
        go_at_call 44
        refine (hC _ _ (hRd.cut _ _ (by (repeat' split) <;> omega) (by (repeat' split) <;> omega) hcp) (by simp only [List.length_drop, List.length_take]; omega)).mono ?_
        rintro e w5 ⟨cN, aoN, capN, rfl, hoN, hfN, hrN, hlN1, hlN2, tN⟩
        have y3n := (show w5.cell? ⟨w.heap.size + 1 + 1 + 1 + 1 + 1 + 1 + 1 + 1 + 1 + 1, 7, none⟩ = some v1 by rw [tN.cell (cell_lt y3) (by simp)]; exact y3)
        have fzn := (show w5.frozen? ⟨w.heap.size + 1 + 1 + 1 + 1 + 1 + 1 + 1 + 1 + 1 + 1, 7, none⟩ = false by rw [tN.frozen (cell_lt y3) (by simp)]; exact fz)
        have x2n := (show w5.cell? ⟨w.heap.size + 1 + 1 + 1 + 1, 2, none⟩ = some (.slice (some ⟨w.heap.size + 1 + 1 + 1 + 1 + 1 + 1 + 1, 0, none⟩) 2 2) by rw [tN.cell (cell_lt x2) (by simp)]; exact x2)
        have x3n := (show w5.cell? ⟨w.heap.size + 1 + 1 + 1 + 1, 3, none⟩ = some (.slice (some ⟨w.heap.size + 1 + 1 + 1 + 1 + 1 + 1 + 1 + 1 + 1 + 1, 0, none⟩) 3 3) by rw [tN.cell (cell_lt x3) (by simp)]; exact x3)
        have tS := (Tch.refl [w.heap.size + 1 + 1 + 1 + 1 + 1 + 1 + 1 + 1 + 1 + 1] w5).setCell (p := ⟨w.heap.size + 1 + 1 + 1 + 1 + 1 + 1 + 1 + 1 + 1 + 1, 7, none⟩) (.inl (by simp)) (.slice aoN cN.length capN)
        have x2s := (tS.cell (cell_lt x2n) (by simp)).trans x2n
        have x3s := (tS.cell (cell_lt x3n) (by simp)).trans x3n
        refine hK.out _ _ (⟨x2n, x3n⟩) (fun hHeld => ?_)
        clear hK K
        try simp only [Act.put, List.setIfInBounds_toArray, List.set_cons_zero, List.set_cons_succ]
        refine wpAnyH_take (i := 14) (v := ?_) rfl (by kernel_rfl) (by kernel_rfl) (by kernel_rfl) (fun _ _ _ h => h) (Or.inl ⟨by rfl, ?_⟩) (by assumption) ?_
        rotate_left
        · (intro w hSw; (try dsimp only at hSw); go_simp; try with_reducible rfl)
        try simp only [Act.put, List.setIfInBounds_toArray, List.set_cons_zero, List.set_cons_succ]
        refine wpAnyH_take (i := 15) (v := ?_) rfl (by kernel_rfl) (by kernel_rfl) (by kernel_rfl) (fun _ _ _ h => h) (Or.inl ⟨by rfl, ?_⟩) (by assumption) ?_
        rotate_left
        · (intro w hSw; (try dsimp only at hSw); go_simp; try with_reducible rfl)
        try simp only [Act.put, List.setIfInBounds_toArray, List.set_cons_zero, List.set_cons_succ]
        refine wpAnyH_ready (rs := [16]) (by kernel_rfl) (by simp) ?_
        refine AllReadyH.cons rfl (fun K hK => ?_) AllReadyH.nil
        go_simp
        refine hK.out _ _ (⟨x2s, x3s⟩) (fun hHeld => ?_)
        clear hK K
        try simp only [Act.put, List.setIfInBounds_toArray, List.set_cons_zero, List.set_cons_succ]
        refine wpAnyH_done (by kernel_rfl) ?_ _
        go_wp2_with fail
        have hlt := (World.ownsRow.lt hD.hM (w.heap.size + 1 + 1 + 1 + 1 + 1 + 1 + 1 + 1 + 1 + 1) rfl).2
        have hnew := (src_of_owns hoN (w.heap.size :: (w.heap.size + 1 + 1 + 1 + 1 + 1 + 1 + 1 + 1 + 1 + 1) :: L0) (fun g hg hx => by
          have := hfN g hg
          rcases List.mem_cons.1 hx with hx | hx
          · omega
          · rcases List.mem_cons.1 hx with hx | hx
            · omega
            · have := hL0 _ hx
              have hz9 : w.heap.size ≤ wr.drew.heap.size := hzw
              omega)).tch tS (fun i hi _ => by rw [List.mem_singleton] at hi; rw [hi]; exact List.mem_cons_of_mem _ List.mem_cons_self)
        go_roundw
        case rel => exact ⟨2, v0, .slice aoN cN.length capN, v2, c0, cN, c2, by omega, by first | rfl | go_num, (hD.tch tN).set1 _, (hd0.tch tN (by simp)).tch tS (fun i hi _ => by rw [List.mem_singleton] at hi; rw [hi]; exact List.mem_cons_of_mem _ List.mem_cons_self), hnew, (hd2.tch tN (by simp)).tch tS (fun i hi _ => by rw [List.mem_singleton] at hi; rw [hi]; exact List.mem_cons_of_mem _ List.mem_cons_self), hk0.elim .inl (fun h => .inr (by omega)), .inl ⟨hrN, hlN1, hlN2⟩, hk2'.elim .inl (fun h => .inr (by omega)), (tD.then tN).setCell (.inr (by simp; omega)) _⟩
        case measure => simp [intOf]
      · have hC := fun xv l' (h1 : Raws wr.drew xv l') (h2 : l'.length ≤ 5000000000000) => hand_Code wr.drew (hG.tch tD) xv l' h1 h2 ⟨[4, 3], 3, [1, 2], c2⟩ (.slice (some ⟨w.heap.size + 1 + 1 + 1 + 1 + 1 + 1 + 1 + 1 + 1, 0, none⟩) 2 2) (.slice (some ⟨w.heap.size + 1, 0, none⟩) 2 4) v2 ((AppS.iQ2 hL0 hD).thin) ((AppS.iB2 hL0 hD).thin) (by simp) (by simp) (by simp) (by simp) (by simp) (.slice (some ⟨w.heap.size + 1 + 1 + 1 + 1 + 1 + 1 + 1 + 1 + 1 + 1, 0, none⟩) 3 3) _ hMths' (by simp) (by simp) (.slice (some ⟨w.heap.size + 1 + 1 + 1 + 1 + 1 + 1 + 1, 0, none⟩) 2 2) _ hImps' (by simp) (by simp)
        have y0 := hcM 8 (by omega)
        have y1 := hcM 9 (by omega)
        have y2 := hcM 10 (by omega)
        have y3 := hcM 11 (by omega)
        have fz := hfzM 11
        simp at y0 y1 y2 y3
        clear hcM hfzM
        go_upto_region 12 with fail
        refine wp_region_held_drew (S := fun w' => w'.cell? ⟨w.heap.size + 1 + 1 + 1 + 1, 2, none⟩ = some (.slice (some ⟨w.heap.size + 1 + 1 + 1 + 1 + 1 + 1 + 1, 0, none⟩) 2 2) ∧ w'.cell? ⟨w.heap.size + 1 + 1 + 1 + 1, 3, none⟩ = some (.slice (some ⟨w.heap.size + 1 + 1 + 1 + 1 + 1 + 1 + 1 + 1 + 1 + 1, 0, none⟩) 3 3)) (by kernel_rfl) ⟨x2, x3⟩ (fun hHeld => ?_)
        refine wpAnyH_take (i := 0) (v := ?_) rfl (by kernel_rfl) (by kernel_rfl) (by kernel_rfl) (fun _ _ _ h => h) (Or.inl ⟨by rfl, ?_⟩) (by assumption) ?_
        rotate_left
        · (intro w hSw; (try dsimp only at hSw); go_simp; try with_reducible rfl)
        try simp only [Act.put, List.setIfInBounds_toArray, List.set_cons_zero, List.set_cons_succ]
        refine wpAnyH_take (i := 1) (v := ?_) rfl (by kernel_rfl) (by kernel_rfl) (by kernel_rfl) (fun _ _ _ h => h) (Or.inl ⟨by rfl, ?_⟩) (by assumption) ?_
        rotate_left
        · (intro w hSw; (try dsimp only at hSw); go_simp; try with_reducible rfl)
        try simp only [Act.put, List.setIfInBounds_toArray, List.set_cons_zero, List.set_cons_succ]
        refine wpAnyH_take (i := 2) (v := ?_) rfl (by kernel_rfl) (by kernel_rfl) (by kernel_rfl) (fun _ _ _ h => h) (Or.inl ⟨by rfl, ?_⟩) (by assumption) ?_
        rotate_left
        · (intro w hSw; (try dsimp only at hSw); go_simp; try with_reducible rfl)
        try simp only [Act.put, List.setIfInBounds_toArray, List.set_cons_zero, List.set_cons_succ]
        refine wpAnyH_take (i := 3) (v := ?_) rfl (by kernel_rfl) (by kernel_rfl) (by kernel_rfl) (fun _ _ _ h => h) (Or.inl ⟨by rfl, ?_⟩) (by assumption) ?_
        rotate_left
        · (intro w hSw; (try dsimp only at hSw); go_simp; try with_reducible rfl)
        try simp only [Act.put, List.setIfInBounds_toArray, List.set_cons_zero, List.set_cons_succ]
        refine wpAnyH_take (i := 4) (v := ?_) rfl (by kernel_rfl) (by kernel_rfl) (by kernel_rfl) (fun _ _ _ h => h) (Or.inl ⟨by rfl, ?_⟩) (by assumption) ?_
        rotate_left
        · (intro w hSw; (try dsimp only at hSw); go_simp; try with_reducible rfl)
        try simp only [Act.put, List.setIfInBounds_toArray, List.set_cons_zero, List.set_cons_succ]
        refine wpAnyH_take (i := 5) (v := ?_) rfl (by kernel_rfl) (by kernel_rfl) (by kernel_rfl) (fun _ _ _ h => h) (Or.inl ⟨by rfl, ?_⟩) (by assumption) ?_
        rotate_left
        · (intro w hSw; (try dsimp only at hSw); go_simp; try with_reducible rfl)
        try simp only [Act.put, List.setIfInBounds_toArray, List.set_cons_zero, List.set_cons_succ]
        refine wpAnyH_take (i := 6) (v := ?_) rfl (by kernel_rfl) (by kernel_rfl) (by kernel_rfl) (fun _ _ _ h => h) (Or.inl ⟨by rfl, ?_⟩) (by assumption) ?_
        rotate_left
        · (intro w hSw; (try dsimp only at hSw); go_simp; try with_reducible rfl)
        try simp only [Act.put, List.setIfInBounds_toArray, List.set_cons_zero, List.set_cons_succ]
        refine wpAnyH_take (i := 7) (v := ?_) rfl (by kernel_rfl) (by kernel_rfl) (by kernel_rfl) (fun _ _ _ h => h) (Or.inl ⟨by rfl, ?_⟩) (by assumption) ?_
        rotate_left
        · (intro w hSw; (try dsimp only at hSw); go_simp; try with_reducible rfl)
        try simp only [Act.put, List.setIfInBounds_toArray, List.set_cons_zero, List.set_cons_succ]
        refine wpAnyH_take (i := 9) (v := ?_) rfl (by kernel_rfl) (by kernel_rfl) (by kernel_rfl) (fun _ _ _ h => h) (Or.inl ⟨by rfl, ?_⟩) (by assumption) ?_
        rotate_left
        · (intro w hSw; (try dsimp only at hSw); go_simp; try with_reducible rfl)
        try simp only [Act.put, List.setIfInBounds_toArray, List.set_cons_zero, List.set_cons_succ]
        refine wpAnyH_take (i := 10) (v := ?_) rfl (by kernel_rfl) (by kernel_rfl) (by kernel_rfl) (fun _ _ _ h => h) (Or.inl ⟨by rfl, ?_⟩) (by assumption) ?_
        rotate_left
        · (intro w hSw; (try dsimp only at hSw); go_simp; try with_reducible rfl)
        try simp only [Act.put, List.setIfInBounds_toArray, List.set_cons_zero, List.set_cons_succ]
        refine wpAnyH_take (i := 11) (v := ?_) rfl (by kernel_rfl) (by kernel_rfl) (by kernel_rfl) (fun _ _ _ h => h) (Or.inl ⟨by rfl, ?_⟩) (by assumption) ?_
        rotate_left
        · (intro w hSw; (try dsimp only at hSw); go_simp; try with_reducible rfl)
        try simp only [Act.put, List.setIfInBounds_toArray, List.set_cons_zero, List.set_cons_succ]
        refine wpAnyH_take (i := 12) (v := ?_) rfl (by kernel_rfl) (by kernel_rfl) (by kernel_rfl) (fun _ _ _ h => h) (Or.inl ⟨by rfl, ?_⟩) (by assumption) ?_
        rotate_left
        · (intro w hSw; (try dsimp only at hSw); go_simp; try with_reducible rfl)
        try simp only [Act.put, List.setIfInBounds_toArray, List.set_cons_zero, List.set_cons_succ]
        refine wpAnyH_ready (rs := [8]) (by kernel_rfl) (by simp) ?_
        refine AllReadyH.cons rfl (fun K hK => ?_) AllReadyH.nil
        go_simp
        refine hK.out _ _ (⟨x2, x3⟩) (fun hHeld => ?_)
        clear hK K
        try simp only [Act.put, List.setIfInBounds_toArray, List.set_cons_zero, List.set_cons_succ]
        refine wpAnyH_ready (rs := [13]) (by kernel_rfl) (by simp) ?_
        refine AllReadyH.cons rfl (fun K hK => ?_) AllReadyH.nil
        go_simp
        go_at_call 44
        refine (hC _ _ (hRd.cut _ _ (by (repeat' split) <;> omega) (by (repeat' split) <;> omega) hcp) (by simp only [List.length_drop, List.length_take]; omega)).mono ?_
        rintro e w5 ⟨cN, aoN, capN, rfl, hoN, hfN, hrN, hlN1, hlN2, tN⟩
        have y3n := (show w5.cell? ⟨w.heap.size + 1 + 1 + 1 + 1 + 1 + 1 + 1 + 1 + 1 + 1, 11, none⟩ = some v2 by rw [tN.cell (cell_lt y3) (by simp)]; exact y3)
        have fzn := (show w5.frozen? ⟨w.heap.size + 1 + 1 + 1 + 1 + 1 + 1 + 1 + 1 + 1 + 1, 11, none⟩ = false by rw [tN.frozen (cell_lt y3) (by simp)]; exact fz)
        have x2n := (show w5.cell? ⟨w.heap.size + 1 + 1 + 1 + 1, 2, none⟩ = some (.slice (some ⟨w.heap.size + 1 + 1 + 1 + 1 + 1 + 1 + 1, 0, none⟩) 2 2) by rw [tN.cell (cell_lt x2) (by simp)]; exact x2)
        have x3n := (show w5.cell? ⟨w.heap.size + 1 + 1 + 1 + 1, 3, none⟩ = some (.slice (some ⟨w.heap.size + 1 + 1 + 1 + 1 + 1 + 1 + 1 + 1 + 1 + 1, 0, none⟩) 3 3) by rw [tN.cell (cell_lt x3) (by simp)]; exact x3)
        have tS := (Tch.refl [w.heap.size + 1 + 1 + 1 + 1 + 1 + 1 + 1 + 1 + 1 + 1] w5).setCell (p := ⟨w.heap.size + 1 + 1 + 1 + 1 + 1 + 1 + 1 + 1 + 1 + 1, 11, none⟩) (.inl (by simp)) (.slice aoN cN.length capN)
        have x2s := (tS.cell (cell_lt x2n) (by simp)).trans x2n
        have x3s := (tS.cell (cell_lt x3n) (by simp)).trans x3n
        refine hK.out _ _ (⟨x2n, x3n⟩) (fun hHeld => ?_)
        clear hK K
        try simp only [Act.put, List.setIfInBounds_toArray, List.set_cons_zero, List.set_cons_succ]
        refine wpAnyH_take (i := 14) (v := ?_) rfl (by kernel_rfl) (by kernel_rfl) (by kernel_rfl) (fun _ _ _ h => h) (Or.inl ⟨by rfl, ?_⟩) (by assumption) ?_
        rotate_left
        · (intro w hSw; (try dsimp only at hSw); go_simp; try with_reducible rfl)
        try simp only [Act.put, List.setIfInBounds_toArray, List.set_cons_zero, List.set_cons_succ]
        refine wpAnyH_take (i := 15) (v := ?_) rfl (by kernel_rfl) (by kernel_rfl) (by kernel_rfl) (fun _ _ _ h => h) (Or.inl ⟨by rfl, ?_⟩) (by assumption) ?_
        rotate_left
        · (intro w hSw; (try dsimp only at hSw); go_simp; try with_reducible rfl)
        try simp only [Act.put, List.setIfInBounds_toArray, List.set_cons_zero, List.set_cons_succ]
        refine wpAnyH_ready (rs := [16]) (by kernel_rfl) (by simp) ?_
        refine AllReadyH.cons rfl (fun K hK => ?_) AllReadyH.nil
        go_simp
        refine hK.out _ _ (⟨x2s, x3s⟩) (fun hHeld => ?_)
        clear hK K
        try simp only [Act.put, List.setIfInBounds_toArray, List.set_cons_zero, List.set_cons_succ]
        refine wpAnyH_done (by kernel_rfl) ?_ _
        go_wp2_with fail
        have hlt := (World.ownsRow.lt hD.hM (w.heap.size + 1 + 1 + 1 + 1 + 1 + 1 + 1 + 1 + 1 + 1) rfl).2
        have hnew := (src_of_owns hoN (w.heap.size :: (w.heap.size + 1 + 1 + 1 + 1 + 1 + 1 + 1 + 1 + 1 + 1) :: L0) (fun g hg hx => by
          have := hfN g hg
          rcases List.mem_cons.1 hx with hx | hx
          · omega
          · rcases List.mem_cons.1 hx with hx | hx
            · omega
            · have := hL0 _ hx
              have hz9 : w.heap.size ≤ wr.drew.heap.size := hzw
              omega)).tch tS (fun i hi _ => by rw [List.mem_singleton] at hi; rw [hi]; exact List.mem_cons_of_mem _ List.mem_cons_self)
        go_roundw
        case rel => exact ⟨3, v0, v1, .slice aoN cN.length capN, c0, c1, cN, by omega, by first | rfl | go_num, (hD.tch tN).set2 _, (hd0.tch tN (by simp)).tch tS (fun i hi _ => by rw [List.mem_singleton] at hi; rw [hi]; exact List.mem_cons_of_mem _ List.mem_cons_self), (hd1.tch tN (by simp)).tch tS (fun i hi _ => by rw [List.mem_singleton] at hi; rw [hi]; exact List.mem_cons_of_mem _ List.mem_cons_self), hnew, hk0.elim .inl (fun h => .inr (by omega)), hk1'.elim .inl (fun h => .inr (by omega)), .inl ⟨hrN, hlN1, hlN2⟩, (tD.then tN).setCell (.inr (by simp; omega)) _⟩
        case measure => simp [intOf]
    · have hR := hS.hR
      have hX := hS.hX
      have x0 : wr.cell? ⟨w.heap.size + 1 + 1 + 1 + 1, 0, none⟩ = some _ := (cell_of_row wr _ 0 _ _ _ hX).trans rfl
      have x1 : wr.cell? ⟨w.heap.size + 1 + 1 + 1 + 1, 1, none⟩ = some _ := (cell_of_row wr _ 1 _ _ _ hX).trans rfl
      have x2 : wr.cell? ⟨w.heap.size + 1 + 1 + 1 + 1, 2, none⟩ = some _ := (cell_of_row wr _ 2 _ _ _ hX).trans rfl
      have x3 : wr.cell? ⟨w.heap.size + 1 + 1 + 1 + 1, 3, none⟩ = some _ := (cell_of_row wr _ 3 _ _ _ hX).trans rfl
      have x4 : wr.cell? ⟨w.heap.size + 1 + 1 + 1 + 1, 4, none⟩ = some _ := (cell_of_row wr _ 4 _ _ _ hX).trans rfl
      have y0 : wr.cell? ⟨w.heap.size, 0, none⟩ = some _ := (cell_of_row wr _ 0 _ _ _ hR).trans rfl
      have y1 : wr.cell? ⟨w.heap.size, 1, none⟩ = some _ := (cell_of_row wr _ 1 _ _ _ hR).trans rfl
      have y2 : wr.cell? ⟨w.heap.size, 2, none⟩ = some _ := (cell_of_row wr _ 2 _ _ _ hR).trans rfl
      have y3 : wr.cell? ⟨w.heap.size, 3, none⟩ = some _ := (cell_of_row wr _ 3 _ _ _ hR).trans rfl
      have y4 : wr.cell? ⟨w.heap.size, 4, none⟩ = some _ := (cell_of_row wr _ 4 _ _ _ hR).trans rfl
      have hfz : ∀ j, wr.frozen? ⟨w.heap.size, j, none⟩ = false := fun j => by simp [World.frozen?, hR]
      have f0 := hfz 0
      have f1 := hfz 1
      have f2 := hfz 2
      have f3 := hfz 3
      have f4 := hfz 4
      clear hX hR hfz
      go_wp2_with fail
      have hm3e : m = 3 := by omega
      subst hm3e
      have tZ : Tch [w.heap.size] wr (((((wr.setCell ⟨w.heap.size, 0, none⟩ (.string ⟨n0.toArray⟩)).setCell ⟨w.heap.size, 1, none⟩ (.slice (some ⟨w.heap.size + 1 + 1, 0, none⟩) 4 4)).setCell ⟨w.heap.size, 2, none⟩ (.slice (some ⟨w.heap.size + 1 + 1 + 1 + 1 + 1 + 1 + 1, 0, none⟩) 2 2)).setCell ⟨w.heap.size, 3, none⟩ (.slice (some ⟨w.heap.size + 1 + 1 + 1 + 1 + 1 + 1 + 1 + 1 + 1 + 1, 0, none⟩) 3 3)).setCell ⟨w.heap.size, 4, none⟩ (.slice (some ⟨w.heap.size + 1 + 1 + 1, 0, none⟩) 2 2)) := (((((Tch.refl [w.heap.size] wr).setCell (.inl (by simp)) _).setCell (.inl (by simp)) _).setCell (.inl (by simp)) _).setCell (.inl (by simp)) _).setCell (.inl (by simp)) _
      obtain ⟨Z, hZ⟩ : ∃ Z, Z = (((((wr.setCell ⟨w.heap.size, 0, none⟩ (.string ⟨n0.toArray⟩)).setCell ⟨w.heap.size, 1, none⟩ (.slice (some ⟨w.heap.size + 1 + 1, 0, none⟩) 4 4)).setCell ⟨w.heap.size, 2, none⟩ (.slice (some ⟨w.heap.size + 1 + 1 + 1 + 1 + 1 + 1 + 1, 0, none⟩) 2 2)).setCell ⟨w.heap.size, 3, none⟩ (.slice (some ⟨w.heap.size + 1 + 1 + 1 + 1 + 1 + 1 + 1 + 1 + 1 + 1, 0, none⟩) 3 3)).setCell ⟨w.heap.size, 4, none⟩ (.slice (some ⟨w.heap.size + 1 + 1 + 1, 0, none⟩) 2 2)) := ⟨_, rfl⟩
      have z0 : Z.cell? ⟨w.heap.size, 0, none⟩ = some (.string ⟨n0.toArray⟩) := by rw [hZ]; simp [go_sem, y0]
      have z1 : Z.cell? ⟨w.heap.size, 1, none⟩ = some (.slice (some ⟨w.heap.size + 1 + 1, 0, none⟩) 4 4) := by rw [hZ]; simp [go_sem, y1]
      have z2 : Z.cell? ⟨w.heap.size, 2, none⟩ = some (.slice (some ⟨w.heap.size + 1 + 1 + 1 + 1 + 1 + 1 + 1, 0, none⟩) 2 2) := by rw [hZ]; simp [go_sem, y2]
      have z3 : Z.cell? ⟨w.heap.size, 3, none⟩ = some (.slice (some ⟨w.heap.size + 1 + 1 + 1 + 1 + 1 + 1 + 1 + 1 + 1 + 1, 0, none⟩) 3 3) := by rw [hZ]; simp [go_sem, y3]
      have z4 : Z.cell? ⟨w.heap.size, 4, none⟩ = some (.slice (some ⟨w.heap.size + 1 + 1 + 1, 0, none⟩) 2 2) := by rw [hZ]; simp [go_sem, y4]
      rw [← hZ] at tZ ⊢
      clear hZ y0 y1 y2 y3 y4 x0 x1 x2 x3 x4 f0 f1 f2 f3 f4
      refine bodyPost_ret (v := .agg #[.string ⟨n0.toArray⟩, .slice (some ⟨w.heap.size + 1 + 1, 0, none⟩) 4 4, .slice (some ⟨w.heap.size + 1 + 1 + 1 + 1 + 1 + 1 + 1, 0, none⟩) 2 2, .slice (some ⟨w.heap.size + 1 + 1 + 1 + 1 + 1 + 1 + 1 + 1 + 1 + 1, 0, none⟩) 3 3, .slice (some ⟨w.heap.size + 1 + 1 + 1, 0, none⟩) 2 2]) (by simp [results, go_sem, z0, z1, z2, z3, z4]) rfl ?_
      have hcm : ∀ v c, RCode wr (w.heap.size :: (w.heap.size + 1 + 1 + 1 + 1 + 1 + 1 + 1 + 1 + 1 + 1) :: L0) v c → RCode wr (w.heap.size :: L0) v c := fun v c h => Src.mono h (fun i hi _ => by
        rcases List.mem_cons.1 hi with hi | hi
        · exact hi ▸ List.mem_cons_self
        · exact List.mem_cons_of_mem _ (List.mem_cons_of_mem _ hi))
      have hI := (AppS.img hL0 hS (hcm _ _ hc0) (hcm _ _ hc1) (hcm _ _ hc2)).tch tZ (fun i hi _ => by rw [List.mem_singleton] at hi; rw [hi]; exact List.mem_cons_self)
      refine ⟨_, c0, c1, c2, rfl, ?_, hk0.resolve_right (by omega), hk1'.resolve_right (by omega), hk2'.resolve_right (by omega), ht.trans tZ (by simp) (fun i hi hx => by simp at hx; omega)⟩
      unfold appI
      rw [hn0, hn1, hn2]
      exact hI.mono (fun i hi _ => List.mem_cons_of_mem _ hi)
end Go.Proofs.YtapephelfijcbaaGreatDoor
