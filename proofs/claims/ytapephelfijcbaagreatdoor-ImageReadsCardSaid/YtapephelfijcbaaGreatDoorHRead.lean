/-
  CONTRACTS: Read of code and taciturnref1. Conditions: the reader's bytes lie in blocks that nobody turns.
-/
import Derived.Test.YtapephelfijcbaaGreatDoorHLay
import Derived.Test.YtapephelfijcbaaGreatDoorHCodeP
namespace Go.Proofs.YtapephelfijcbaaGreatDoor
open Go.RowKit Go.Tcn
set_option linter.unusedVariables false
set_option linter.unusedSimpArgs false
theorem readI_short (l : List Int) (k : Bool) (h : rdOk l k 1 = false) : readI l k = ((0, 0, 0), 7, rdRest l k 1, true) := by unfold readI tk; simp [h]
theorem readI_op (l : List Int) (k : Bool) (h : rdOk l k 1 = true) (ho : ¬ (1 ≤ beN (rdOut l k 1) ∧ beN (rdOut l k 1) ≤ 39)) : readI l k = ((0, 0, 0), 8, rdRest l k 1, false) := by unfold readI tk; simp only [h, Bool.not_true, Bool.false_eq_true, if_false]; rw [if_pos ho]
/-- What is behind the operands, read. -/
def opsI (op : Int) (l : List Int) (k : Bool) : (Int × Int) × List Int × Bool :=
  if op = 1 then ((s32 (tk l k 4).1, 0), (tk l k 4).2)
  else if op = 23 ∨ op = 24 then (((tk l k 2).1, 0), (tk l k 2).2)
  else if op = 27 then (((tk l k 1).1, (tk (tk l k 1).2.1 (tk l k 1).2.2 1).1), (tk (tk l k 1).2.1 (tk l k 1).2.2 1).2)
  else if opndN op = 1 then (((tk l k 1).1, 0), (tk l k 1).2)
  else ((0, 0), (l, k))
theorem readI_ok (l : List Int) (k : Bool) (h : rdOk l k 1 = true) (op : Int) (hop : beN (rdOut l k 1) = op) (ho : 1 ≤ op ∧ op ≤ 39) (a b : Int) (r : List Int) (k' : Bool) (e : opsI op (rdRest l k 1) false = ((a, b), r, k')) :
    readI l k = if k' = true then ((0, 0, 0), 7, r, k') else if rightI op a b = false then ((0, 0, 0), 9, r, k') else ((op, a, b), 0, r, k') := by
  have e1 : readI l k = (let x := opsI op (rdRest l k 1) false; if x.2.2 = true then ((0, 0, 0), 7, x.2) else if rightI op x.1.1 x.1.2 = false then ((0, 0, 0), 9, x.2) else ((op, x.1.1, x.1.2), 0, x.2)) := by
    unfold readI opsI
    have et : tk l k 1 = (op, rdRest l k 1, false) := by unfold tk; rw [hop, h]; rfl
    rw [et]
    simp only [Bool.false_eq_true, if_false]
    rw [if_neg (by simpa using ho)]
  rw [e1, e]

set_option maxRecDepth 100000 in
set_option maxHeartbeats 2000000 in
theorem code_Read_short (w : World) (p : Nat) (L : List Nat) (l : List Int) (lack : Bool) (h : Rd w 116 p L l lack) (hb : l.length ≤ 140737488355328) (hs : rdOk l lack 1 = false) :
    Calls Tryz.prog 97 #[.pointer (some ⟨p, 0, none⟩)] w fun e w' => e = .returned (.tuple #[.agg #[.int .i64 0, .int .i64 0, .int .i64 0], .int .i64 7]) ∧ Rd w' 116 p L (rdRest l lack 1) true ∧ Tch [p] w w' := by
  have hplt := h.lt
  obtain ⟨W, hW⟩ : ∃ W, W = w.alloc (.cells #[.int .i64 0, .int .i64 0, .int .i64 0] 47) := ⟨_, rfl⟩
  have tw : Tch [] w W := by rw [hW]; exact (Tch.refl [] w).alloc _
  have hx : By W w.heap.size (.int .i64 0) (.int .i64 0) (.int .i64 0) := by rw [hW]; exact By.new _ _ _ _ _
  have h1 := (h.wide (Nat.le_refl _)).tch tw (by simp) (by simp)
  go_enter Tryz.func97, Tryz.ntmps97
  go_wp2_with fail
  rw [← hW]
  clear hW
  refine (oct_RU8 _ p _ l lack h1 hb).mono ?_
  rintro e w2 ⟨rfl, h2, t2⟩
  rw [hs] at h2
  have hg0 : w.heap.size ∉ [p] := by simp; omega
  have hx2 := hx.tch t2 hg0
  have t02 := tw.trans t2 (M := [p]) (by simp) (fun _ _ x => x)
  obtain ⟨o, ho⟩ : ∃ o, o = beN (rdOut l lack 1) := ⟨_, rfl⟩
  rw [← ho]
  have HO := Lib.hid ho; clear ho
  obtain ⟨V, hV⟩ : ∃ V, V = w2.alloc (.cells #[.int .i64 o, .int .i64 0, .int .i64 0] 47) := ⟨_, rfl⟩
  have tv : Tch [] w2 V := by rw [hV]; exact (Tch.refl [] w2).alloc _
  have hy : By V w2.heap.size (.int .i64 o) (.int .i64 0) (.int .i64 0) := by rw [hV]; exact By.new _ _ _ _ _
  have hx3 := hx2.tch tv (by simp)
  have h3 := (h2.wide (Nat.le_refl _)).tch tv (by simp) (by simp)
  have hc3 := h3.lackCell
  have t03 := t02.trans tv (M := [p]) (fun _ _ x => x) (by simp)
  have hgg : w.heap.size < w2.heap.size := hx2.lt
  clear h1 h2 hx hx2 tw t2 t02 tv
  go_upto_region 4 with fail
  rw [← hV]
  clear hV
  obtain ⟨c0, c1, c2, f0, f1, f2⟩ := hx3
  go_wp2_with fail
  refine (oct_Lack _ p _ _ _ h3).mono ?_
  rintro e w' ⟨rfl, rfl⟩
  go_wp2_with fail
  refine bodyPost_ret (v := .tuple #[.agg #[.int .i64 0, .int .i64 0, .int .i64 0], .int .i64 7]) (by simp [results, Tryz.results97, go_sem, c0, c1, c2, f0, f1, f2]) rfl ?_
  exact ⟨rfl, (((h3.set (by simp) (by simp; omega) _).set (by simp) (by simp; omega) _).set (by simp) (by simp; omega) _).thin.thin, ((t03.setCell (.inr (by simp)) _).setCell (.inr (by simp)) _).setCell (.inr (by simp)) _⟩

theorem code_NameS (op : Int) (h : 1 ≤ op ∧ op ≤ 39) (w : World) : ∃ c l, Calls Tryz.prog 115 #[.int .i64 op] w fun e w' => e = .returned (.string ⟨(c :: l).toArray⟩) ∧ Tch [] w w' := by
  have hn : nmAt op ≠ [] := fun e => (nmAt_nil op).1 e h
  obtain ⟨c, l, e⟩ := List.exists_cons_of_ne_nil hn
  refine ⟨c, l, ?_⟩
  rw [← e]
  exact code_Name op w
theorem code_NameN (op : Int) (h : ¬ (1 ≤ op ∧ op ≤ 39)) (w : World) : Calls Tryz.prog 115 #[.int .i64 op] w fun e w' => e = .returned (.string ⟨#[]⟩) ∧ Tch [] w w' := by
  have := code_Name op w
  rw [(nmAt_nil op).2 h] at this
  exact this
set_option maxRecDepth 100000 in
set_option maxHeartbeats 2000000 in
theorem code_Read_op (w : World) (p : Nat) (L : List Nat) (l : List Int) (lack : Bool) (h : Rd w 116 p L l lack) (hb : l.length ≤ 140737488355328) (hs : rdOk l lack 1 = true) (hno : ¬ (1 ≤ beN (rdOut l lack 1) ∧ beN (rdOut l lack 1) ≤ 39)) :
    Calls Tryz.prog 97 #[.pointer (some ⟨p, 0, none⟩)] w fun e w' => e = .returned (.tuple #[.agg #[.int .i64 0, .int .i64 0, .int .i64 0], .int .i64 8]) ∧ Rd w' 116 p L (rdRest l lack 1) false ∧ Tch [p] w w' := by
  have hplt := h.lt
  obtain ⟨W, hW⟩ : ∃ W, W = w.alloc (.cells #[.int .i64 0, .int .i64 0, .int .i64 0] 47) := ⟨_, rfl⟩
  have tw : Tch [] w W := by rw [hW]; exact (Tch.refl [] w).alloc _
  have hx : By W w.heap.size (.int .i64 0) (.int .i64 0) (.int .i64 0) := by rw [hW]; exact By.new _ _ _ _ _
  have h1 := (h.wide (Nat.le_refl _)).tch tw (by simp) (by simp)
  go_enter Tryz.func97, Tryz.ntmps97
  go_wp2_with fail
  rw [← hW]
  clear hW
  refine (oct_RU8 _ p _ l lack h1 hb).mono ?_
  rintro e w2 ⟨rfl, h2, t2⟩
  rw [hs] at h2
  have hg0 : w.heap.size ∉ [p] := by simp; omega
  have hx2 := hx.tch t2 hg0
  have t02 := tw.trans t2 (M := [p]) (by simp) (fun _ _ x => x)
  obtain ⟨o, ho⟩ : ∃ o, o = beN (rdOut l lack 1) := ⟨_, rfl⟩
  rw [← ho]
  have HO := Lib.hid ho; clear ho
  obtain ⟨V, hV⟩ : ∃ V, V = w2.alloc (.cells #[.int .i64 o, .int .i64 0, .int .i64 0] 47) := ⟨_, rfl⟩
  have tv : Tch [] w2 V := by rw [hV]; exact (Tch.refl [] w2).alloc _
  have hy : By V w2.heap.size (.int .i64 o) (.int .i64 0) (.int .i64 0) := by rw [hV]; exact By.new _ _ _ _ _
  have hx3 := hx2.tch tv (by simp)
  have h3 := (h2.wide (Nat.le_refl _)).tch tv (by simp) (by simp)
  have hc3 := h3.lackCell
  have t03 := t02.trans tv (M := [p]) (fun _ _ x => x) (by simp)
  have hgg : w.heap.size < w2.heap.size := hx2.lt
  clear h1 h2 hx hx2 tw t2 t02 tv
  go_upto_region 4 with fail
  rw [← hV]
  clear hV
  obtain ⟨c0, c1, c2, f0, f1, f2⟩ := hx3
  go_wp2_with fail
  refine (oct_Lack _ p _ _ _ h3).mono ?_
  rintro e w' ⟨rfl, rfl⟩
  rw [← HO.out] at hno
  obtain ⟨d0, d1, d2, g0, g1, g2⟩ := hy
  have hNm := fun w => code_NameN o hno w
  go_wp2_with fail
  refine (hNm _).mono ?_
  rintro e w4 ⟨rfl, t4⟩
  have hx4 := (By.mk c0 c1 c2 f0 f1 f2).tch t4 (by simp)
  have h4 := h3.tch t4 (by simp) (by simp)
  have t04 := t03.trans t4 (M := [p]) (fun _ _ x => x) (by simp)
  clear h3 t03 hNm hno c0 c1 c2 f0 f1 f2
  obtain ⟨c0, c1, c2, f0, f1, f2⟩ := hx4
  go_wp2_with fail
  refine bodyPost_ret (v := .tuple #[.agg #[.int .i64 0, .int .i64 0, .int .i64 0], .int .i64 8]) (by simp [results, Tryz.results97, go_sem, c0, c1, c2, f0, f1, f2]) rfl ?_
  exact ⟨rfl, (((h4.set (by simp) (by simp; omega) _).set (by simp) (by simp; omega) _).set (by simp) (by simp; omega) _).thin.thin, ((t04.setCell (.inr (by simp)) _).setCell (.inr (by simp)) _).setCell (.inr (by simp)) _⟩
set_option maxRecDepth 100000 in
set_option maxHeartbeats 4000000 in
theorem code_Read_ok (w : World) (p : Nat) (L : List Nat) (l : List Int) (lack : Bool) (h : Rd w 116 p L l lack) (hb : l.length ≤ 140737488355328) (hs : rdOk l lack 1 = true) (hok : 1 ≤ beN (rdOut l lack 1) ∧ beN (rdOut l lack 1) ≤ 39) (x : (Int × Int × Int) × Int × List Int × Bool) (hx : readI l lack = x) :
    Calls Tryz.prog 97 #[.pointer (some ⟨p, 0, none⟩)] w fun e w' => e = .returned (.tuple #[.agg #[.int .i64 x.1.1, .int .i64 x.1.2.1, .int .i64 x.1.2.2], .int .i64 x.2.1]) ∧ Rd w' 116 p L x.2.2.1 x.2.2.2 ∧ Tch [p] w w' := by
  have HXX := Lib.hid hx; clear hx
  have hplt := h.lt
  obtain ⟨W, hW⟩ : ∃ W, W = w.alloc (.cells #[.int .i64 0, .int .i64 0, .int .i64 0] 47) := ⟨_, rfl⟩
  have tw : Tch [] w W := by rw [hW]; exact (Tch.refl [] w).alloc _
  have hx : By W w.heap.size (.int .i64 0) (.int .i64 0) (.int .i64 0) := by rw [hW]; exact By.new _ _ _ _ _
  have h1 := (h.wide (Nat.le_refl _)).tch tw (by simp) (by simp)
  go_enter Tryz.func97, Tryz.ntmps97
  go_wp2_with fail
  rw [← hW]
  clear hW
  refine (oct_RU8 _ p _ l lack h1 hb).mono ?_
  rintro e w2 ⟨rfl, h2, t2⟩
  rw [hs] at h2
  have hg0 : w.heap.size ∉ [p] := by simp; omega
  have hx2 := hx.tch t2 hg0
  have t02 := tw.trans t2 (M := [p]) (by simp) (fun _ _ x => x)
  obtain ⟨o, ho⟩ : ∃ o, o = beN (rdOut l lack 1) := ⟨_, rfl⟩
  rw [← ho]
  have HO := Lib.hid ho; clear ho
  obtain ⟨V, hV⟩ : ∃ V, V = w2.alloc (.cells #[.int .i64 o, .int .i64 0, .int .i64 0] 47) := ⟨_, rfl⟩
  have tv : Tch [] w2 V := by rw [hV]; exact (Tch.refl [] w2).alloc _
  have hy : By V w2.heap.size (.int .i64 o) (.int .i64 0) (.int .i64 0) := by rw [hV]; exact By.new _ _ _ _ _
  have hx3 := hx2.tch tv (by simp)
  have h3 := (h2.wide (Nat.le_refl _)).tch tv (by simp) (by simp)
  have hc3 := h3.lackCell
  have t03 := t02.trans tv (M := [p]) (fun _ _ x => x) (by simp)
  have hgg : w.heap.size < w2.heap.size := hx2.lt
  clear h1 h2 hx hx2 tw t2 t02 tv
  go_upto_region 4 with fail
  rw [← hV]
  clear hV
  obtain ⟨c0, c1, c2, f0, f1, f2⟩ := hx3
  go_wp2_with fail
  refine (oct_Lack _ p _ _ _ h3).mono ?_
  rintro e w' ⟨rfl, rfl⟩
  have hok2 := hok
  rw [← HO.out] at hok2
  obtain ⟨d0, d1, d2, g0, g1, g2⟩ := hy
  obtain ⟨cc, ll, hNm⟩ := code_NameS o hok2 V
  go_wp2_with fail
  refine hNm.mono ?_
  rintro e w4 ⟨rfl, t4⟩
  have hx4 := (By.mk c0 c1 c2 f0 f1 f2).tch t4 (by simp)
  have hy4 := (By.mk d0 d1 d2 g0 g1 g2).tch t4 (by simp)
  have h4 := h3.tch t4 (by simp) (by simp)
  have t04 := t03.trans t4 (M := [p]) (fun _ _ x => x) (by simp)
  clear h3 t03 hNm d0 d1 d2 g0 g1 g2 c0 c1 c2 f0 f1 f2 hc3
  obtain ⟨d0, d1, d2, g0, g1, g2⟩ := hy4
  obtain ⟨c0, c1, c2, f0, f1, f2⟩ := hx4
  have hg1 : w2.heap.size ∉ [p] := by simp; omega
  go_upto_block 1 with fail
  go_cut [] (fun wz => ∃ (a b : Int) (r : List Int) (k' : Bool), opsI o (rdRest l lack 1) false = ((a, b), r, k') ∧ (0 ≤ b ∧ b ≤ 4294967295) ∧ Rd wz 116 p (w2.heap.size :: w.heap.size :: L) r k' ∧ By wz w2.heap.size (.int .i64 o) (.int .i64 a) (.int .i64 b) ∧ By wz w.heap.size (.int .i64 0) (.int .i64 0) (.int .i64 0) ∧ Tch [p] w wz)
  case first =>
   have hcs : o = 1 ∨ o = 23 ∨ o = 24 ∨ o = 27 ∨ ((o ≠ 1 ∧ o ≠ 23 ∧ o ≠ 24 ∧ o ≠ 27) ∧ opndN o = 1) ∨ ((o ≠ 1 ∧ o ≠ 23 ∧ o ≠ 24 ∧ o ≠ 27) ∧ opndN o ≠ 1) := by omega
   clear hok2 hok
   rcases hcs with hk | hk | hk | hk | hk | hk
   · subst hk
     have hE : opsI 1 (rdRest l lack 1) false = ((s32 (tk (rdRest l lack 1) false 4).1, 0), (tk (rdRest l lack 1) false 4).2) := rfl
     have HE := Lib.hid hE; clear hE
     have hbd := rd_bound (rdRest l lack 1) false 4 h4.byt (by omega)
     go_wp2_with fail
     refine (oct_RS32 _ p _ (rdRest l lack 1) false h4 (Nat.le_trans (rdRest_le _ _ _) hb)).mono ?_
     rintro e w5 ⟨rfl, h5, t5⟩
     have hx5 := (By.mk c0 c1 c2 f0 f1 f2).tch t5 hg0
     have hy5 := (By.mk d0 d1 d2 g0 g1 g2).tch t5 hg1
     have t05 := t04.trans t5 (M := [p]) (fun _ _ x => x) (fun _ _ x => x)
     have hbyt5 := h5.byt
     have hlen5 : (rdRest (rdRest l lack 1) false 4).length ≤ 140737488355328 := Nat.le_trans (rdRest_le _ _ _) (Nat.le_trans (rdRest_le _ _ _) hb)
     clear c0 c1 c2 f0 f1 f2 d0 d1 d2 g0 g1 g2 t04 h4
     obtain ⟨d0, d1, d2, g0, g1, g2⟩ := hy5
     obtain ⟨c0, c1, c2, f0, f1, f2⟩ := hx5
     go_wp2_with fail
     go_meet
     case rel => exact ⟨_, _, _, _, HE, by simp, h5.set (by simp) (by simp; omega) _, (By.mk d0 d1 d2 g0 g1 g2).set1 _, (By.mk c0 c1 c2 f0 f1 f2).tch ((Tch.refl [w2.heap.size] w5).setCell (by simp) _) (by simp; omega), t05.setCell (.inr (by show w.heap.size ≤ w2.heap.size; omega)) _⟩
   · subst hk
     have hE : opsI 23 (rdRest l lack 1) false = (((tk (rdRest l lack 1) false 2).1, 0), (tk (rdRest l lack 1) false 2).2) := rfl
     have HE := Lib.hid hE; clear hE
     have hbd := rd_bound (rdRest l lack 1) false 2 h4.byt (by omega)
     go_wp2_with fail
     refine (oct_RU16 _ p _ (rdRest l lack 1) false h4 (Nat.le_trans (rdRest_le _ _ _) hb)).mono ?_
     rintro e w5 ⟨rfl, h5, t5⟩
     have hx5 := (By.mk c0 c1 c2 f0 f1 f2).tch t5 hg0
     have hy5 := (By.mk d0 d1 d2 g0 g1 g2).tch t5 hg1
     have t05 := t04.trans t5 (M := [p]) (fun _ _ x => x) (fun _ _ x => x)
     have hbyt5 := h5.byt
     have hlen5 : (rdRest (rdRest l lack 1) false 2).length ≤ 140737488355328 := Nat.le_trans (rdRest_le _ _ _) (Nat.le_trans (rdRest_le _ _ _) hb)
     clear c0 c1 c2 f0 f1 f2 d0 d1 d2 g0 g1 g2 t04 h4
     obtain ⟨d0, d1, d2, g0, g1, g2⟩ := hy5
     obtain ⟨c0, c1, c2, f0, f1, f2⟩ := hx5
     go_wp2_with fail
     go_meet
     case rel => exact ⟨_, _, _, _, HE, by simp, h5.set (by simp) (by simp; omega) _, (By.mk d0 d1 d2 g0 g1 g2).set1 _, (By.mk c0 c1 c2 f0 f1 f2).tch ((Tch.refl [w2.heap.size] w5).setCell (by simp) _) (by simp; omega), t05.setCell (.inr (by show w.heap.size ≤ w2.heap.size; omega)) _⟩
   · subst hk
     have hE : opsI 24 (rdRest l lack 1) false = (((tk (rdRest l lack 1) false 2).1, 0), (tk (rdRest l lack 1) false 2).2) := rfl
     have HE := Lib.hid hE; clear hE
     have hbd := rd_bound (rdRest l lack 1) false 2 h4.byt (by omega)
     go_wp2_with fail
     refine (oct_RU16 _ p _ (rdRest l lack 1) false h4 (Nat.le_trans (rdRest_le _ _ _) hb)).mono ?_
     rintro e w5 ⟨rfl, h5, t5⟩
     have hx5 := (By.mk c0 c1 c2 f0 f1 f2).tch t5 hg0
     have hy5 := (By.mk d0 d1 d2 g0 g1 g2).tch t5 hg1
     have t05 := t04.trans t5 (M := [p]) (fun _ _ x => x) (fun _ _ x => x)
     have hbyt5 := h5.byt
     have hlen5 : (rdRest (rdRest l lack 1) false 2).length ≤ 140737488355328 := Nat.le_trans (rdRest_le _ _ _) (Nat.le_trans (rdRest_le _ _ _) hb)
     clear c0 c1 c2 f0 f1 f2 d0 d1 d2 g0 g1 g2 t04 h4
     obtain ⟨d0, d1, d2, g0, g1, g2⟩ := hy5
     obtain ⟨c0, c1, c2, f0, f1, f2⟩ := hx5
     go_wp2_with fail
     go_meet
     case rel => exact ⟨_, _, _, _, HE, by simp, h5.set (by simp) (by simp; omega) _, (By.mk d0 d1 d2 g0 g1 g2).set1 _, (By.mk c0 c1 c2 f0 f1 f2).tch ((Tch.refl [w2.heap.size] w5).setCell (by simp) _) (by simp; omega), t05.setCell (.inr (by show w.heap.size ≤ w2.heap.size; omega)) _⟩
   · subst hk
     have hE : opsI 27 (rdRest l lack 1) false = (((tk (rdRest l lack 1) false 1).1, (tk (tk (rdRest l lack 1) false 1).2.1 (tk (rdRest l lack 1) false 1).2.2 1).1), (tk (tk (rdRest l lack 1) false 1).2.1 (tk (rdRest l lack 1) false 1).2.2 1).2) := rfl
     have HE := Lib.hid hE; clear hE
     have hbd := rd_bound (rdRest l lack 1) false 1 h4.byt (by omega)
     go_wp2_with fail
     refine (oct_RU8 _ p _ (rdRest l lack 1) false h4 (Nat.le_trans (rdRest_le _ _ _) hb)).mono ?_
     rintro e w5 ⟨rfl, h5, t5⟩
     have hx5 := (By.mk c0 c1 c2 f0 f1 f2).tch t5 hg0
     have hy5 := (By.mk d0 d1 d2 g0 g1 g2).tch t5 hg1
     have t05 := t04.trans t5 (M := [p]) (fun _ _ x => x) (fun _ _ x => x)
     have hbyt5 := h5.byt
     have hlen5 : (rdRest (rdRest l lack 1) false 1).length ≤ 140737488355328 := Nat.le_trans (rdRest_le _ _ _) (Nat.le_trans (rdRest_le _ _ _) hb)
     clear c0 c1 c2 f0 f1 f2 d0 d1 d2 g0 g1 g2 t04 h4
     obtain ⟨d0, d1, d2, g0, g1, g2⟩ := hy5
     obtain ⟨c0, c1, c2, f0, f1, f2⟩ := hx5
     have hbd2 := rd_bound (rdRest (rdRest l lack 1) false 1) (!rdOk (rdRest l lack 1) false 1) 1 hbyt5 (by omega)
     go_wp2_with fail
     have hx6 := (By.mk c0 c1 c2 f0 f1 f2).tch ((Tch.refl [w2.heap.size] w5).setCell (p := ⟨w2.heap.size, 1, none⟩) (by simp) (.int .i64 (beN (rdOut (rdRest l lack 1) false 1)))) (by simp; omega)
     have hy6 := (By.mk d0 d1 d2 g0 g1 g2).set1 (.int .i64 (beN (rdOut (rdRest l lack 1) false 1)))
     have h6 := h5.set (q := ⟨w2.heap.size, 1, none⟩) (by simp) (by simp; omega) (.int .i64 (beN (rdOut (rdRest l lack 1) false 1)))
     have t06 := t05.setCell (p := ⟨w2.heap.size, 1, none⟩) (.inr (by show w.heap.size ≤ w2.heap.size; omega)) (.int .i64 (beN (rdOut (rdRest l lack 1) false 1)))
     refine (oct_RU8 _ p _ _ _ h6 hlen5).mono ?_
     rintro e w7 ⟨rfl, h7, t7⟩
     have hx7 := hx6.tch t7 hg0
     have hy7 := hy6.tch t7 hg1
     have t07 := t06.trans t7 (M := [p]) (fun _ _ x => x) (fun _ _ x => x)
     clear c0 c1 c2 f0 f1 f2 d0 d1 d2 g0 g1 g2 t05 h5 hx6 hy6 h6 t06
     obtain ⟨d0, d1, d2, g0, g1, g2⟩ := hy7
     obtain ⟨c0, c1, c2, f0, f1, f2⟩ := hx7
     go_wp2_with fail
     go_meet
     case rel => exact ⟨_, _, _, _, HE, by unfold tk; exact hbd2, h7.set (by simp) (by simp; omega) _, (By.mk d0 d1 d2 g0 g1 g2).set2 _, (By.mk c0 c1 c2 f0 f1 f2).tch ((Tch.refl [w2.heap.size] w7).setCell (by simp) _) (by simp; omega), t07.setCell (.inr (by show w.heap.size ≤ w2.heap.size; omega)) _⟩
   · obtain ⟨hne, hk⟩ := hk
     have hE : opsI o (rdRest l lack 1) false = (((tk (rdRest l lack 1) false 1).1, 0), (tk (rdRest l lack 1) false 1).2) := by unfold opsI; rw [if_neg (by omega), if_neg (by omega), if_neg (by omega), if_pos hk]
     have HE := Lib.hid hE; clear hE
     have k1 : (o == 1) = false := beq_eq_false_iff_ne.2 (by omega)
     have k23 : (o == 23) = false := beq_eq_false_iff_ne.2 (by omega)
     have k24 : (o == 24) = false := beq_eq_false_iff_ne.2 (by omega)
     have k27 : (o == 27) = false := beq_eq_false_iff_ne.2 (by omega)
     have hopn := fun w => code_Operands o w
     rw [hk] at hopn
     clear hk hne
     go_wp2_with fail
     refine (hopn _).mono ?_
     rintro e w' ⟨rfl, rfl⟩
     have hbd := rd_bound (rdRest l lack 1) false 1 h4.byt (by omega)
     go_wp2_with fail
     refine (oct_RU8 _ p _ (rdRest l lack 1) false h4 (Nat.le_trans (rdRest_le _ _ _) hb)).mono ?_
     rintro e w5 ⟨rfl, h5, t5⟩
     have hx5 := (By.mk c0 c1 c2 f0 f1 f2).tch t5 hg0
     have hy5 := (By.mk d0 d1 d2 g0 g1 g2).tch t5 hg1
     have t05 := t04.trans t5 (M := [p]) (fun _ _ x => x) (fun _ _ x => x)
     have hbyt5 := h5.byt
     have hlen5 : (rdRest (rdRest l lack 1) false 1).length ≤ 140737488355328 := Nat.le_trans (rdRest_le _ _ _) (Nat.le_trans (rdRest_le _ _ _) hb)
     clear c0 c1 c2 f0 f1 f2 d0 d1 d2 g0 g1 g2 t04 h4
     obtain ⟨d0, d1, d2, g0, g1, g2⟩ := hy5
     obtain ⟨c0, c1, c2, f0, f1, f2⟩ := hx5
     go_wp2_with fail
     go_meet
     case rel => exact ⟨_, _, _, _, HE, by simp, h5.set (by simp) (by simp; omega) _, (By.mk d0 d1 d2 g0 g1 g2).set1 _, (By.mk c0 c1 c2 f0 f1 f2).tch ((Tch.refl [w2.heap.size] w5).setCell (by simp) _) (by simp; omega), t05.setCell (.inr (by show w.heap.size ≤ w2.heap.size; omega)) _⟩
   · obtain ⟨hne, hk⟩ := hk
     have hE : opsI o (rdRest l lack 1) false = ((0, 0), ((rdRest l lack 1), false)) := by unfold opsI; rw [if_neg (by omega), if_neg (by omega), if_neg (by omega), if_neg hk]
     have HE := Lib.hid hE; clear hE
     have k1 : (o == 1) = false := beq_eq_false_iff_ne.2 (by omega)
     have k23 : (o == 23) = false := beq_eq_false_iff_ne.2 (by omega)
     have k24 : (o == 24) = false := beq_eq_false_iff_ne.2 (by omega)
     have k27 : (o == 27) = false := beq_eq_false_iff_ne.2 (by omega)
     have hopn := fun w => code_Operands o w
     rw [opndN_one o hk (by omega)] at hopn
     clear hk hne
     go_wp2_with fail
     refine (hopn _).mono ?_
     rintro e w' ⟨rfl, rfl⟩
     go_wp2_with fail
     go_meet
     case rel => exact ⟨_, _, _, _, HE, by simp, h4, By.mk d0 d1 d2 g0 g1 g2, By.mk c0 c1 c2 f0 f1 f2, t04⟩
  case rest =>
    obtain ⟨a, b, r, k', hE, hb2, h6, hy6, hx6, t06⟩ := hcut
    have hfin := readI_ok l lack hs o HO.out.symm hok2 a b r k' hE
    rw [HXX.out] at hfin
    clear d0 d1 d2 g0 g1 g2 c0 c1 c2 f0 f1 f2 h4 t04 hE
    have hc6 := h6.lackCell
    obtain ⟨d0, d1, d2, g0, g1, g2⟩ := hy6
    obtain ⟨c0, c1, c2, f0, f1, f2⟩ := hx6
    cases k'
    · have hR := fun w => code_Right o a b w (by omega)
      rw [if_neg (by simp)] at hfin
      cases hri : rightI o a b
      · rw [hri, if_pos rfl] at hfin
        rw [hri] at hR
        subst hfin
        go_wp2_with fail
        refine (oct_Lack _ p _ _ _ h6).mono ?_
        rintro e w' ⟨rfl, rfl⟩
        go_wp2_with fail
        refine (hR _).mono ?_
        rintro e w7 ⟨rfl, t7⟩
        have hx7 := (By.mk c0 c1 c2 f0 f1 f2).tch t7 (by simp)
        have h7 := h6.tch t7 (by simp) (by simp)
        have t07 := t06.trans t7 (M := [p]) (fun _ _ x => x) (by simp)
        clear c0 c1 c2 f0 f1 f2 d0 d1 d2 g0 g1 g2 hR h6 t06 hc6
        obtain ⟨c0, c1, c2, f0, f1, f2⟩ := hx7
        go_wp2_with fail
        refine bodyPost_ret (v := .tuple #[.agg #[.int .i64 0, .int .i64 0, .int .i64 0], .int .i64 9]) (by simp [results, Tryz.results97, go_sem, c0, c1, c2, f0, f1, f2]) rfl ?_
        exact ⟨rfl, (((h7.set (by simp) (by simp; omega) _).set (by simp) (by simp; omega) _).set (by simp) (by simp; omega) _).thin.thin, ((t07.setCell (.inr (by simp)) _).setCell (.inr (by simp)) _).setCell (.inr (by simp)) _⟩
      · rw [hri, if_neg (by simp)] at hfin
        rw [hri] at hR
        subst hfin
        go_wp2_with fail
        refine (oct_Lack _ p _ _ _ h6).mono ?_
        rintro e w' ⟨rfl, rfl⟩
        go_wp2_with fail
        refine (hR _).mono ?_
        rintro e w7 ⟨rfl, t7⟩
        have hx7 := (By.mk c0 c1 c2 f0 f1 f2).tch t7 (by simp)
        have hy7 := (By.mk d0 d1 d2 g0 g1 g2).tch t7 (by simp)
        have h7 := h6.tch t7 (by simp) (by simp)
        have t07 := t06.trans t7 (M := [p]) (fun _ _ x => x) (by simp)
        clear c0 c1 c2 f0 f1 f2 d0 d1 d2 g0 g1 g2 hR h6 t06 hc6
        obtain ⟨c0, c1, c2, f0, f1, f2⟩ := hx7
        obtain ⟨d0, d1, d2, g0, g1, g2⟩ := hy7
        go_wp2_with fail
        refine bodyPost_ret (v := .tuple #[.agg #[.int .i64 o, .int .i64 a, .int .i64 b], .int .i64 0]) (by simp [results, Tryz.results97, go_sem, c0, c1, c2, f0, f1, f2]) rfl ?_
        exact ⟨rfl, (((h7.set (by simp) (by simp; omega) _).set (by simp) (by simp; omega) _).set (by simp) (by simp; omega) _).thin.thin, ((t07.setCell (.inr (by simp)) _).setCell (.inr (by simp)) _).setCell (.inr (by simp)) _⟩
    · rw [if_pos rfl] at hfin
      subst hfin
      go_wp2_with fail
      refine (oct_Lack _ p _ _ _ h6).mono ?_
      rintro e w' ⟨rfl, rfl⟩
      go_wp2_with fail
      refine bodyPost_ret (v := .tuple #[.agg #[.int .i64 0, .int .i64 0, .int .i64 0], .int .i64 7]) (by simp [results, Tryz.results97, go_sem, c0, c1, c2, f0, f1, f2]) rfl ?_
      exact ⟨rfl, (((h6.set (by simp) (by simp; omega) _).set (by simp) (by simp; omega) _).set (by simp) (by simp; omega) _).thin.thin, ((t06.setCell (.inr (by simp)) _).setCell (.inr (by simp)) _).setCell (.inr (by simp)) _⟩

set_option maxRecDepth 100000 in
set_option maxHeartbeats 2000000 in
theorem ref_Read_short (w : World) (p : Nat) (L : List Nat) (l : List Int) (lack : Bool) (h : Rd w 89 p L l lack) (hb : l.length ≤ 140737488355328) (hs : rdOk l lack 1 = false) :
    Calls Tryz.prog 61 #[.pointer (some ⟨p, 0, none⟩)] w fun e w' => e = .returned (.tuple #[.agg #[.int .i64 0, .int .i64 0, .int .i64 0], .int .i64 7]) ∧ Rd w' 89 p L (rdRest l lack 1) true ∧ Tch [p] w w' := by
  have hplt := h.lt
  obtain ⟨W, hW⟩ : ∃ W, W = w.alloc (.cells #[.int .i64 0, .int .i64 0, .int .i64 0] 47) := ⟨_, rfl⟩
  have tw : Tch [] w W := by rw [hW]; exact (Tch.refl [] w).alloc _
  have hx : By W w.heap.size (.int .i64 0) (.int .i64 0) (.int .i64 0) := by rw [hW]; exact By.new _ _ _ _ _
  have h1 := (h.wide (Nat.le_refl _)).tch tw (by simp) (by simp)
  go_enter Tryz.func61, Tryz.ntmps61
  go_wp2_with fail
  rw [← hW]
  clear hW
  refine (ref_RU8 _ p _ l lack h1 hb).mono ?_
  rintro e w2 ⟨rfl, h2, t2⟩
  rw [hs] at h2
  have hg0 : w.heap.size ∉ [p] := by simp; omega
  have hx2 := hx.tch t2 hg0
  have t02 := tw.trans t2 (M := [p]) (by simp) (fun _ _ x => x)
  obtain ⟨o, ho⟩ : ∃ o, o = beN (rdOut l lack 1) := ⟨_, rfl⟩
  rw [← ho]
  have HO := Lib.hid ho; clear ho
  obtain ⟨V, hV⟩ : ∃ V, V = w2.alloc (.cells #[.int .i64 o, .int .i64 0, .int .i64 0] 47) := ⟨_, rfl⟩
  have tv : Tch [] w2 V := by rw [hV]; exact (Tch.refl [] w2).alloc _
  have hy : By V w2.heap.size (.int .i64 o) (.int .i64 0) (.int .i64 0) := by rw [hV]; exact By.new _ _ _ _ _
  have hx3 := hx2.tch tv (by simp)
  have h3 := (h2.wide (Nat.le_refl _)).tch tv (by simp) (by simp)
  have hc3 := h3.lackCell
  have t03 := t02.trans tv (M := [p]) (fun _ _ x => x) (by simp)
  have hgg : w.heap.size < w2.heap.size := hx2.lt
  clear h1 h2 hx hx2 tw t2 t02 tv
  go_upto_region 2 with fail
  rw [← hV]
  clear hV
  obtain ⟨c0, c1, c2, f0, f1, f2⟩ := hx3
  go_wp2_with fail
  refine bodyPost_ret (v := .tuple #[.agg #[.int .i64 0, .int .i64 0, .int .i64 0], .int .i64 7]) (by simp [results, Tryz.results61, go_sem, c0, c1, c2, f0, f1, f2]) rfl ?_
  exact ⟨rfl, (((h3.set (by simp) (by simp; omega) _).set (by simp) (by simp; omega) _).set (by simp) (by simp; omega) _).thin.thin, ((t03.setCell (.inr (by simp)) _).setCell (.inr (by simp)) _).setCell (.inr (by simp)) _⟩

theorem ref_NameS (op : Int) (h : 1 ≤ op ∧ op ≤ 39) (w : World) : ∃ c l, Calls Tryz.prog 89 #[.int .i64 op] w fun e w' => e = .returned (.string ⟨(c :: l).toArray⟩) ∧ Tch [] w w' := by
  have hn : nmAt op ≠ [] := fun e => (nmAt_nil op).1 e h
  obtain ⟨c, l, e⟩ := List.exists_cons_of_ne_nil hn
  refine ⟨c, l, ?_⟩
  rw [← e]
  exact ref_Name op w
theorem ref_NameN (op : Int) (h : ¬ (1 ≤ op ∧ op ≤ 39)) (w : World) : Calls Tryz.prog 89 #[.int .i64 op] w fun e w' => e = .returned (.string ⟨#[]⟩) ∧ Tch [] w w' := by
  have := ref_Name op w
  rw [(nmAt_nil op).2 h] at this
  exact this
set_option maxRecDepth 100000 in
set_option maxHeartbeats 2000000 in
theorem ref_Read_op (w : World) (p : Nat) (L : List Nat) (l : List Int) (lack : Bool) (h : Rd w 89 p L l lack) (hb : l.length ≤ 140737488355328) (hs : rdOk l lack 1 = true) (hno : ¬ (1 ≤ beN (rdOut l lack 1) ∧ beN (rdOut l lack 1) ≤ 39)) :
    Calls Tryz.prog 61 #[.pointer (some ⟨p, 0, none⟩)] w fun e w' => e = .returned (.tuple #[.agg #[.int .i64 0, .int .i64 0, .int .i64 0], .int .i64 8]) ∧ Rd w' 89 p L (rdRest l lack 1) false ∧ Tch [p] w w' := by
  have hplt := h.lt
  obtain ⟨W, hW⟩ : ∃ W, W = w.alloc (.cells #[.int .i64 0, .int .i64 0, .int .i64 0] 47) := ⟨_, rfl⟩
  have tw : Tch [] w W := by rw [hW]; exact (Tch.refl [] w).alloc _
  have hx : By W w.heap.size (.int .i64 0) (.int .i64 0) (.int .i64 0) := by rw [hW]; exact By.new _ _ _ _ _
  have h1 := (h.wide (Nat.le_refl _)).tch tw (by simp) (by simp)
  go_enter Tryz.func61, Tryz.ntmps61
  go_wp2_with fail
  rw [← hW]
  clear hW
  refine (ref_RU8 _ p _ l lack h1 hb).mono ?_
  rintro e w2 ⟨rfl, h2, t2⟩
  rw [hs] at h2
  have hg0 : w.heap.size ∉ [p] := by simp; omega
  have hx2 := hx.tch t2 hg0
  have t02 := tw.trans t2 (M := [p]) (by simp) (fun _ _ x => x)
  obtain ⟨o, ho⟩ : ∃ o, o = beN (rdOut l lack 1) := ⟨_, rfl⟩
  rw [← ho]
  have HO := Lib.hid ho; clear ho
  obtain ⟨V, hV⟩ : ∃ V, V = w2.alloc (.cells #[.int .i64 o, .int .i64 0, .int .i64 0] 47) := ⟨_, rfl⟩
  have tv : Tch [] w2 V := by rw [hV]; exact (Tch.refl [] w2).alloc _
  have hy : By V w2.heap.size (.int .i64 o) (.int .i64 0) (.int .i64 0) := by rw [hV]; exact By.new _ _ _ _ _
  have hx3 := hx2.tch tv (by simp)
  have h3 := (h2.wide (Nat.le_refl _)).tch tv (by simp) (by simp)
  have hc3 := h3.lackCell
  have t03 := t02.trans tv (M := [p]) (fun _ _ x => x) (by simp)
  have hgg : w.heap.size < w2.heap.size := hx2.lt
  clear h1 h2 hx hx2 tw t2 t02 tv
  go_upto_region 2 with fail
  rw [← hV]
  clear hV
  obtain ⟨c0, c1, c2, f0, f1, f2⟩ := hx3
  rw [← HO.out] at hno
  obtain ⟨d0, d1, d2, g0, g1, g2⟩ := hy
  have hNm := fun w => ref_NameN o hno w
  go_wp2_with fail
  refine (hNm _).mono ?_
  rintro e w4 ⟨rfl, t4⟩
  have hx4 := (By.mk c0 c1 c2 f0 f1 f2).tch t4 (by simp)
  have h4 := h3.tch t4 (by simp) (by simp)
  have t04 := t03.trans t4 (M := [p]) (fun _ _ x => x) (by simp)
  clear h3 t03 hNm hno c0 c1 c2 f0 f1 f2
  obtain ⟨c0, c1, c2, f0, f1, f2⟩ := hx4
  go_wp2_with fail
  refine bodyPost_ret (v := .tuple #[.agg #[.int .i64 0, .int .i64 0, .int .i64 0], .int .i64 8]) (by simp [results, Tryz.results61, go_sem, c0, c1, c2, f0, f1, f2]) rfl ?_
  exact ⟨rfl, (((h4.set (by simp) (by simp; omega) _).set (by simp) (by simp; omega) _).set (by simp) (by simp; omega) _).thin.thin, ((t04.setCell (.inr (by simp)) _).setCell (.inr (by simp)) _).setCell (.inr (by simp)) _⟩
set_option maxRecDepth 100000 in
set_option maxHeartbeats 4000000 in
theorem ref_Read_ok (w : World) (p : Nat) (L : List Nat) (l : List Int) (lack : Bool) (h : Rd w 89 p L l lack) (hb : l.length ≤ 140737488355328) (hs : rdOk l lack 1 = true) (hok : 1 ≤ beN (rdOut l lack 1) ∧ beN (rdOut l lack 1) ≤ 39) (x : (Int × Int × Int) × Int × List Int × Bool) (hx : readI l lack = x) :
    Calls Tryz.prog 61 #[.pointer (some ⟨p, 0, none⟩)] w fun e w' => e = .returned (.tuple #[.agg #[.int .i64 x.1.1, .int .i64 x.1.2.1, .int .i64 x.1.2.2], .int .i64 x.2.1]) ∧ Rd w' 89 p L x.2.2.1 x.2.2.2 ∧ Tch [p] w w' := by
  have HXX := Lib.hid hx; clear hx
  have hplt := h.lt
  obtain ⟨W, hW⟩ : ∃ W, W = w.alloc (.cells #[.int .i64 0, .int .i64 0, .int .i64 0] 47) := ⟨_, rfl⟩
  have tw : Tch [] w W := by rw [hW]; exact (Tch.refl [] w).alloc _
  have hx : By W w.heap.size (.int .i64 0) (.int .i64 0) (.int .i64 0) := by rw [hW]; exact By.new _ _ _ _ _
  have h1 := (h.wide (Nat.le_refl _)).tch tw (by simp) (by simp)
  go_enter Tryz.func61, Tryz.ntmps61
  go_wp2_with fail
  rw [← hW]
  clear hW
  refine (ref_RU8 _ p _ l lack h1 hb).mono ?_
  rintro e w2 ⟨rfl, h2, t2⟩
  rw [hs] at h2
  have hg0 : w.heap.size ∉ [p] := by simp; omega
  have hx2 := hx.tch t2 hg0
  have t02 := tw.trans t2 (M := [p]) (by simp) (fun _ _ x => x)
  obtain ⟨o, ho⟩ : ∃ o, o = beN (rdOut l lack 1) := ⟨_, rfl⟩
  rw [← ho]
  have HO := Lib.hid ho; clear ho
  obtain ⟨V, hV⟩ : ∃ V, V = w2.alloc (.cells #[.int .i64 o, .int .i64 0, .int .i64 0] 47) := ⟨_, rfl⟩
  have tv : Tch [] w2 V := by rw [hV]; exact (Tch.refl [] w2).alloc _
  have hy : By V w2.heap.size (.int .i64 o) (.int .i64 0) (.int .i64 0) := by rw [hV]; exact By.new _ _ _ _ _
  have hx3 := hx2.tch tv (by simp)
  have h3 := (h2.wide (Nat.le_refl _)).tch tv (by simp) (by simp)
  have hc3 := h3.lackCell
  have t03 := t02.trans tv (M := [p]) (fun _ _ x => x) (by simp)
  have hgg : w.heap.size < w2.heap.size := hx2.lt
  clear h1 h2 hx hx2 tw t2 t02 tv
  go_upto_region 2 with fail
  rw [← hV]
  clear hV
  obtain ⟨c0, c1, c2, f0, f1, f2⟩ := hx3
  have hok2 := hok
  rw [← HO.out] at hok2
  obtain ⟨d0, d1, d2, g0, g1, g2⟩ := hy
  obtain ⟨cc, ll, hNm⟩ := ref_NameS o hok2 V
  go_wp2_with fail
  refine hNm.mono ?_
  rintro e w4 ⟨rfl, t4⟩
  have hx4 := (By.mk c0 c1 c2 f0 f1 f2).tch t4 (by simp)
  have hy4 := (By.mk d0 d1 d2 g0 g1 g2).tch t4 (by simp)
  have h4 := h3.tch t4 (by simp) (by simp)
  have t04 := t03.trans t4 (M := [p]) (fun _ _ x => x) (by simp)
  clear h3 t03 hNm d0 d1 d2 g0 g1 g2 c0 c1 c2 f0 f1 f2 hc3
  obtain ⟨d0, d1, d2, g0, g1, g2⟩ := hy4
  obtain ⟨c0, c1, c2, f0, f1, f2⟩ := hx4
  have hg1 : w2.heap.size ∉ [p] := by simp; omega
  go_upto_block 0 with fail
  go_cut [] (fun wz => ∃ (a b : Int) (r : List Int) (k' : Bool), opsI o (rdRest l lack 1) false = ((a, b), r, k') ∧ (0 ≤ b ∧ b ≤ 4294967295) ∧ Rd wz 89 p (w2.heap.size :: w.heap.size :: L) r k' ∧ By wz w2.heap.size (.int .i64 o) (.int .i64 a) (.int .i64 b) ∧ By wz w.heap.size (.int .i64 0) (.int .i64 0) (.int .i64 0) ∧ Tch [p] w wz)
  case first =>
   have hcs : o = 1 ∨ o = 23 ∨ o = 24 ∨ o = 27 ∨ ((o ≠ 1 ∧ o ≠ 23 ∧ o ≠ 24 ∧ o ≠ 27) ∧ opndN o = 1) ∨ ((o ≠ 1 ∧ o ≠ 23 ∧ o ≠ 24 ∧ o ≠ 27) ∧ opndN o ≠ 1) := by omega
   clear hok2 hok
   rcases hcs with hk | hk | hk | hk | hk | hk
   · subst hk
     have hE : opsI 1 (rdRest l lack 1) false = ((s32 (tk (rdRest l lack 1) false 4).1, 0), (tk (rdRest l lack 1) false 4).2) := rfl
     have HE := Lib.hid hE; clear hE
     have hbd := rd_bound (rdRest l lack 1) false 4 h4.byt (by omega)
     go_wp2_with fail
     refine (ref_RS32 _ p _ (rdRest l lack 1) false h4 (Nat.le_trans (rdRest_le _ _ _) hb)).mono ?_
     rintro e w5 ⟨rfl, h5, t5⟩
     have hx5 := (By.mk c0 c1 c2 f0 f1 f2).tch t5 hg0
     have hy5 := (By.mk d0 d1 d2 g0 g1 g2).tch t5 hg1
     have t05 := t04.trans t5 (M := [p]) (fun _ _ x => x) (fun _ _ x => x)
     have hbyt5 := h5.byt
     have hlen5 : (rdRest (rdRest l lack 1) false 4).length ≤ 140737488355328 := Nat.le_trans (rdRest_le _ _ _) (Nat.le_trans (rdRest_le _ _ _) hb)
     clear c0 c1 c2 f0 f1 f2 d0 d1 d2 g0 g1 g2 t04 h4
     obtain ⟨d0, d1, d2, g0, g1, g2⟩ := hy5
     obtain ⟨c0, c1, c2, f0, f1, f2⟩ := hx5
     go_wp2_with fail
     go_meet
     case rel => exact ⟨_, _, _, _, HE, by simp, h5.set (by simp) (by simp; omega) _, (By.mk d0 d1 d2 g0 g1 g2).set1 _, (By.mk c0 c1 c2 f0 f1 f2).tch ((Tch.refl [w2.heap.size] w5).setCell (by simp) _) (by simp; omega), t05.setCell (.inr (by show w.heap.size ≤ w2.heap.size; omega)) _⟩
   · subst hk
     have hE : opsI 23 (rdRest l lack 1) false = (((tk (rdRest l lack 1) false 2).1, 0), (tk (rdRest l lack 1) false 2).2) := rfl
     have HE := Lib.hid hE; clear hE
     have hbd := rd_bound (rdRest l lack 1) false 2 h4.byt (by omega)
     go_wp2_with fail
     refine (ref_RU16 _ p _ (rdRest l lack 1) false h4 (Nat.le_trans (rdRest_le _ _ _) hb)).mono ?_
     rintro e w5 ⟨rfl, h5, t5⟩
     have hx5 := (By.mk c0 c1 c2 f0 f1 f2).tch t5 hg0
     have hy5 := (By.mk d0 d1 d2 g0 g1 g2).tch t5 hg1
     have t05 := t04.trans t5 (M := [p]) (fun _ _ x => x) (fun _ _ x => x)
     have hbyt5 := h5.byt
     have hlen5 : (rdRest (rdRest l lack 1) false 2).length ≤ 140737488355328 := Nat.le_trans (rdRest_le _ _ _) (Nat.le_trans (rdRest_le _ _ _) hb)
     clear c0 c1 c2 f0 f1 f2 d0 d1 d2 g0 g1 g2 t04 h4
     obtain ⟨d0, d1, d2, g0, g1, g2⟩ := hy5
     obtain ⟨c0, c1, c2, f0, f1, f2⟩ := hx5
     go_wp2_with fail
     go_meet
     case rel => exact ⟨_, _, _, _, HE, by simp, h5.set (by simp) (by simp; omega) _, (By.mk d0 d1 d2 g0 g1 g2).set1 _, (By.mk c0 c1 c2 f0 f1 f2).tch ((Tch.refl [w2.heap.size] w5).setCell (by simp) _) (by simp; omega), t05.setCell (.inr (by show w.heap.size ≤ w2.heap.size; omega)) _⟩
   · subst hk
     have hE : opsI 24 (rdRest l lack 1) false = (((tk (rdRest l lack 1) false 2).1, 0), (tk (rdRest l lack 1) false 2).2) := rfl
     have HE := Lib.hid hE; clear hE
     have hbd := rd_bound (rdRest l lack 1) false 2 h4.byt (by omega)
     go_wp2_with fail
     refine (ref_RU16 _ p _ (rdRest l lack 1) false h4 (Nat.le_trans (rdRest_le _ _ _) hb)).mono ?_
     rintro e w5 ⟨rfl, h5, t5⟩
     have hx5 := (By.mk c0 c1 c2 f0 f1 f2).tch t5 hg0
     have hy5 := (By.mk d0 d1 d2 g0 g1 g2).tch t5 hg1
     have t05 := t04.trans t5 (M := [p]) (fun _ _ x => x) (fun _ _ x => x)
     have hbyt5 := h5.byt
     have hlen5 : (rdRest (rdRest l lack 1) false 2).length ≤ 140737488355328 := Nat.le_trans (rdRest_le _ _ _) (Nat.le_trans (rdRest_le _ _ _) hb)
     clear c0 c1 c2 f0 f1 f2 d0 d1 d2 g0 g1 g2 t04 h4
     obtain ⟨d0, d1, d2, g0, g1, g2⟩ := hy5
     obtain ⟨c0, c1, c2, f0, f1, f2⟩ := hx5
     go_wp2_with fail
     go_meet
     case rel => exact ⟨_, _, _, _, HE, by simp, h5.set (by simp) (by simp; omega) _, (By.mk d0 d1 d2 g0 g1 g2).set1 _, (By.mk c0 c1 c2 f0 f1 f2).tch ((Tch.refl [w2.heap.size] w5).setCell (by simp) _) (by simp; omega), t05.setCell (.inr (by show w.heap.size ≤ w2.heap.size; omega)) _⟩
   · subst hk
     have hE : opsI 27 (rdRest l lack 1) false = (((tk (rdRest l lack 1) false 1).1, (tk (tk (rdRest l lack 1) false 1).2.1 (tk (rdRest l lack 1) false 1).2.2 1).1), (tk (tk (rdRest l lack 1) false 1).2.1 (tk (rdRest l lack 1) false 1).2.2 1).2) := rfl
     have HE := Lib.hid hE; clear hE
     have hbd := rd_bound (rdRest l lack 1) false 1 h4.byt (by omega)
     go_wp2_with fail
     refine (ref_RU8 _ p _ (rdRest l lack 1) false h4 (Nat.le_trans (rdRest_le _ _ _) hb)).mono ?_
     rintro e w5 ⟨rfl, h5, t5⟩
     have hx5 := (By.mk c0 c1 c2 f0 f1 f2).tch t5 hg0
     have hy5 := (By.mk d0 d1 d2 g0 g1 g2).tch t5 hg1
     have t05 := t04.trans t5 (M := [p]) (fun _ _ x => x) (fun _ _ x => x)
     have hbyt5 := h5.byt
     have hlen5 : (rdRest (rdRest l lack 1) false 1).length ≤ 140737488355328 := Nat.le_trans (rdRest_le _ _ _) (Nat.le_trans (rdRest_le _ _ _) hb)
     clear c0 c1 c2 f0 f1 f2 d0 d1 d2 g0 g1 g2 t04 h4
     obtain ⟨d0, d1, d2, g0, g1, g2⟩ := hy5
     obtain ⟨c0, c1, c2, f0, f1, f2⟩ := hx5
     have hbd2 := rd_bound (rdRest (rdRest l lack 1) false 1) (!rdOk (rdRest l lack 1) false 1) 1 hbyt5 (by omega)
     go_wp2_with fail
     have hx6 := (By.mk c0 c1 c2 f0 f1 f2).tch ((Tch.refl [w2.heap.size] w5).setCell (p := ⟨w2.heap.size, 1, none⟩) (by simp) (.int .i64 (beN (rdOut (rdRest l lack 1) false 1)))) (by simp; omega)
     have hy6 := (By.mk d0 d1 d2 g0 g1 g2).set1 (.int .i64 (beN (rdOut (rdRest l lack 1) false 1)))
     have h6 := h5.set (q := ⟨w2.heap.size, 1, none⟩) (by simp) (by simp; omega) (.int .i64 (beN (rdOut (rdRest l lack 1) false 1)))
     have t06 := t05.setCell (p := ⟨w2.heap.size, 1, none⟩) (.inr (by show w.heap.size ≤ w2.heap.size; omega)) (.int .i64 (beN (rdOut (rdRest l lack 1) false 1)))
     refine (ref_RU8 _ p _ _ _ h6 hlen5).mono ?_
     rintro e w7 ⟨rfl, h7, t7⟩
     have hx7 := hx6.tch t7 hg0
     have hy7 := hy6.tch t7 hg1
     have t07 := t06.trans t7 (M := [p]) (fun _ _ x => x) (fun _ _ x => x)
     clear c0 c1 c2 f0 f1 f2 d0 d1 d2 g0 g1 g2 t05 h5 hx6 hy6 h6 t06
     obtain ⟨d0, d1, d2, g0, g1, g2⟩ := hy7
     obtain ⟨c0, c1, c2, f0, f1, f2⟩ := hx7
     go_wp2_with fail
     go_meet
     case rel => exact ⟨_, _, _, _, HE, by unfold tk; exact hbd2, h7.set (by simp) (by simp; omega) _, (By.mk d0 d1 d2 g0 g1 g2).set2 _, (By.mk c0 c1 c2 f0 f1 f2).tch ((Tch.refl [w2.heap.size] w7).setCell (by simp) _) (by simp; omega), t07.setCell (.inr (by show w.heap.size ≤ w2.heap.size; omega)) _⟩
   · obtain ⟨hne, hk⟩ := hk
     have hE : opsI o (rdRest l lack 1) false = (((tk (rdRest l lack 1) false 1).1, 0), (tk (rdRest l lack 1) false 1).2) := by unfold opsI; rw [if_neg (by omega), if_neg (by omega), if_neg (by omega), if_pos hk]
     have HE := Lib.hid hE; clear hE
     have k1 : (o == 1) = false := beq_eq_false_iff_ne.2 (by omega)
     have k23 : (o == 23) = false := beq_eq_false_iff_ne.2 (by omega)
     have k24 : (o == 24) = false := beq_eq_false_iff_ne.2 (by omega)
     have k27 : (o == 27) = false := beq_eq_false_iff_ne.2 (by omega)
     have hopn := fun w => ref_Operands o w
     rw [hk] at hopn
     clear hk hne
     go_wp2_with fail
     refine (hopn _).mono ?_
     rintro e w' ⟨rfl, rfl⟩
     have hbd := rd_bound (rdRest l lack 1) false 1 h4.byt (by omega)
     go_wp2_with fail
     refine (ref_RU8 _ p _ (rdRest l lack 1) false h4 (Nat.le_trans (rdRest_le _ _ _) hb)).mono ?_
     rintro e w5 ⟨rfl, h5, t5⟩
     have hx5 := (By.mk c0 c1 c2 f0 f1 f2).tch t5 hg0
     have hy5 := (By.mk d0 d1 d2 g0 g1 g2).tch t5 hg1
     have t05 := t04.trans t5 (M := [p]) (fun _ _ x => x) (fun _ _ x => x)
     have hbyt5 := h5.byt
     have hlen5 : (rdRest (rdRest l lack 1) false 1).length ≤ 140737488355328 := Nat.le_trans (rdRest_le _ _ _) (Nat.le_trans (rdRest_le _ _ _) hb)
     clear c0 c1 c2 f0 f1 f2 d0 d1 d2 g0 g1 g2 t04 h4
     obtain ⟨d0, d1, d2, g0, g1, g2⟩ := hy5
     obtain ⟨c0, c1, c2, f0, f1, f2⟩ := hx5
     go_wp2_with fail
     go_meet
     case rel => exact ⟨_, _, _, _, HE, by simp, h5.set (by simp) (by simp; omega) _, (By.mk d0 d1 d2 g0 g1 g2).set1 _, (By.mk c0 c1 c2 f0 f1 f2).tch ((Tch.refl [w2.heap.size] w5).setCell (by simp) _) (by simp; omega), t05.setCell (.inr (by show w.heap.size ≤ w2.heap.size; omega)) _⟩
   · obtain ⟨hne, hk⟩ := hk
     have hE : opsI o (rdRest l lack 1) false = ((0, 0), ((rdRest l lack 1), false)) := by unfold opsI; rw [if_neg (by omega), if_neg (by omega), if_neg (by omega), if_neg hk]
     have HE := Lib.hid hE; clear hE
     have k1 : (o == 1) = false := beq_eq_false_iff_ne.2 (by omega)
     have k23 : (o == 23) = false := beq_eq_false_iff_ne.2 (by omega)
     have k24 : (o == 24) = false := beq_eq_false_iff_ne.2 (by omega)
     have k27 : (o == 27) = false := beq_eq_false_iff_ne.2 (by omega)
     have hopn := fun w => ref_Operands o w
     rw [opndN_one o hk (by omega)] at hopn
     clear hk hne
     go_wp2_with fail
     refine (hopn _).mono ?_
     rintro e w' ⟨rfl, rfl⟩
     go_wp2_with fail
     go_meet
     case rel => exact ⟨_, _, _, _, HE, by simp, h4, By.mk d0 d1 d2 g0 g1 g2, By.mk c0 c1 c2 f0 f1 f2, t04⟩
  case rest =>
    obtain ⟨a, b, r, k', hE, hb2, h6, hy6, hx6, t06⟩ := hcut
    have hfin := readI_ok l lack hs o HO.out.symm hok2 a b r k' hE
    rw [HXX.out] at hfin
    clear d0 d1 d2 g0 g1 g2 c0 c1 c2 f0 f1 f2 h4 t04 hE
    have hc6 := h6.lackCell
    obtain ⟨d0, d1, d2, g0, g1, g2⟩ := hy6
    obtain ⟨c0, c1, c2, f0, f1, f2⟩ := hx6
    cases k'
    · have hR := fun w => ref_Right o a b w
      rw [if_neg (by simp)] at hfin
      cases hri : rightI o a b
      · rw [hri, if_pos rfl] at hfin
        rw [hri] at hR
        subst hfin
        
        go_wp2_with fail
        refine (hR _).mono ?_
        rintro e w7 ⟨rfl, t7⟩
        have hx7 := (By.mk c0 c1 c2 f0 f1 f2).tch t7 (by simp)
        have h7 := h6.tch t7 (by simp) (by simp)
        have t07 := t06.trans t7 (M := [p]) (fun _ _ x => x) (by simp)
        clear c0 c1 c2 f0 f1 f2 d0 d1 d2 g0 g1 g2 hR h6 t06 hc6
        obtain ⟨c0, c1, c2, f0, f1, f2⟩ := hx7
        go_wp2_with fail
        refine bodyPost_ret (v := .tuple #[.agg #[.int .i64 0, .int .i64 0, .int .i64 0], .int .i64 9]) (by simp [results, Tryz.results61, go_sem, c0, c1, c2, f0, f1, f2]) rfl ?_
        exact ⟨rfl, (((h7.set (by simp) (by simp; omega) _).set (by simp) (by simp; omega) _).set (by simp) (by simp; omega) _).thin.thin, ((t07.setCell (.inr (by simp)) _).setCell (.inr (by simp)) _).setCell (.inr (by simp)) _⟩
      · rw [hri, if_neg (by simp)] at hfin
        rw [hri] at hR
        subst hfin
        
        go_wp2_with fail
        refine (hR _).mono ?_
        rintro e w7 ⟨rfl, t7⟩
        have hx7 := (By.mk c0 c1 c2 f0 f1 f2).tch t7 (by simp)
        have hy7 := (By.mk d0 d1 d2 g0 g1 g2).tch t7 (by simp)
        have h7 := h6.tch t7 (by simp) (by simp)
        have t07 := t06.trans t7 (M := [p]) (fun _ _ x => x) (by simp)
        clear c0 c1 c2 f0 f1 f2 d0 d1 d2 g0 g1 g2 hR h6 t06 hc6
        obtain ⟨c0, c1, c2, f0, f1, f2⟩ := hx7
        obtain ⟨d0, d1, d2, g0, g1, g2⟩ := hy7
        go_wp2_with fail
        refine bodyPost_ret (v := .tuple #[.agg #[.int .i64 o, .int .i64 a, .int .i64 b], .int .i64 0]) (by simp [results, Tryz.results61, go_sem, c0, c1, c2, f0, f1, f2]) rfl ?_
        exact ⟨rfl, (((h7.set (by simp) (by simp; omega) _).set (by simp) (by simp; omega) _).set (by simp) (by simp; omega) _).thin.thin, ((t07.setCell (.inr (by simp)) _).setCell (.inr (by simp)) _).setCell (.inr (by simp)) _⟩
    · rw [if_pos rfl] at hfin
      subst hfin
      
      go_wp2_with fail
      refine bodyPost_ret (v := .tuple #[.agg #[.int .i64 0, .int .i64 0, .int .i64 0], .int .i64 7]) (by simp [results, Tryz.results61, go_sem, c0, c1, c2, f0, f1, f2]) rfl ?_
      exact ⟨rfl, (((h6.set (by simp) (by simp; omega) _).set (by simp) (by simp; omega) _).set (by simp) (by simp; omega) _).thin.thin, ((t06.setCell (.inr (by simp)) _).setCell (.inr (by simp)) _).setCell (.inr (by simp)) _⟩
end Go.Proofs.YtapephelfijcbaaGreatDoor
