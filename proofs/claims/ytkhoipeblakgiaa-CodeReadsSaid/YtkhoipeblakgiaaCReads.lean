/-
  STATEMENT: CodeReads: any bytes are instructions, one behind the other, or refused, as the document says: the walk. Conditions: none.
-/
import Derived.Test.YtkhoipeblakgiaaCBackP
import Derived.Test.YtkhoipeblakgiaaRawOpen
import Derived.Test.YtkhoipeblakgiaaQui
namespace Go.Proofs.Ytkhoipeblakgiaa
open Go.RowKit Go.Tcn
set_option linter.unusedVariables false
set_option linter.unusedSimpArgs false

theorem opsI_le (op : Int) (l : List Int) (k : Bool) : (opsI op l k).2.1.length ≤ l.length := by
  unfold opsI tk
  repeat' split
  · exact rdRest_le _ _ _
  · exact rdRest_le _ _ _
  · exact Nat.le_trans (rdRest_le _ _ _) (rdRest_le _ _ _)
  · exact rdRest_le _ _ _
  · exact Nat.le_refl _
theorem readI_le (l : List Int) (k : Bool) : (readI l k).2.2.1.length ≤ l.length := by
  cases hs : rdOk l k 1
  · rw [readI_short l k hs]; exact rdRest_le _ _ _
  · by_cases ho : 1 ≤ beN (rdOut l k 1) ∧ beN (rdOut l k 1) ≤ 39
    · have h1 := opsI_le (beN (rdOut l k 1)) (rdRest l k 1) false
      have h2 := rdRest_le l k 1
      rcases hq : opsI (beN (rdOut l k 1)) (rdRest l k 1) false with ⟨⟨a, b⟩, r, k'⟩
      rw [hq] at h1
      rw [readI_ok l k hs _ rfl ho a b r k' hq]
      split
      · exact Nat.le_trans h1 h2
      · split
        · exact Nat.le_trans h1 h2
        · exact Nat.le_trans h1 h2
    · rw [readI_op l k hs ho]; exact rdRest_le _ _ _
theorem few_all (l : List Int) : l.take l.length = l := List.take_length
/-- All bytes, in new memory. -/
theorem hand_FewAll (w : World) (x : Value) (b : List Int) (hx : Src w [] x b.length (bys b)) (hb : b.length ≤ 140737488355328) :
    Calls Try.prog 17 #[x, .int .i64 b.length] w fun e w' => ∃ ao cap, e = .returned (.slice ao b.length cap) ∧ w'.ownsRow 0 5 1 (.slice ao b.length cap) b.length (bys b) ∧ (∀ g, (Value.slice ao b.length cap).ownBlock = some g → w.heap.size ≤ g) ∧ Tch [] w w' := by
  have := hand_Few w [] x b hx b.length (by omega) (by omega) (by omega)
  rw [few_all] at this
  exact this
set_option maxRecDepth 100000 in
set_option maxHeartbeats 4000000 in
theorem codeReads_walk (W : World) (u v : Value) (l : List Rw) (hl : Raws W u l) (rw0 : List Int) (hr : Src W [] v rw0.length (bys rw0)) (hrb : Byt rw0) (hrl : rw0.length ≤ 140737488351232) (any : Bool) :
    Calls Try.prog 4 #[u, v, .bool any] W fun e w' => e = .returned (.bool true) ∧ Tch [] W w' := by
  obtain ⟨i0, hi, hz0, hz1, hz2⟩ := info_parts info_u8
  have hl0 := hl
  obtain ⟨ao, cap, rfl, hlm, hel⟩ := hl.ex
  obtain ⟨aor, capr, rfl⟩ := hr.form
  go_enter Try.func4, Try.ntmps4
  go_wp2_with fail
  refine (hand_FewAll _ _ rw0 hr (by omega)).mono ?_
  rintro e w1 ⟨ao1, cap1, rfl, ho1, hg1, t1⟩
  have hlt1 := World.ownsRow.lt ho1
  have hsb := src_of_owns ho1 [] (by simp)
  go_upto_if 23 with fail
  go_cut [7] (fun v wz => ∃ (bl : List Int) (aob : Option Addr) (capb : Nat), v = .slice aob bl.length capb ∧ Src wz [] v bl.length (bys bl) ∧ Byt bl ∧ bl.length ≤ 140737488355328 ∧ Tch [] W wz)
  case first =>
    cases any
    · go_wp2_with fail
      have tb : Tch [] w1 (w1.alloc (.cells #[.slice none 0 0] 33)) := (Tch.refl [] w1).alloc _
      have hw0 : Wr (w1.alloc (.cells #[.slice none 0 0] 33)) 33 5 w1.heap.size w1.heap.size [] := Wr.new w1 33 5
      go_loopw [9, 10] (fun i _ wz => ∃ (k : Nat) (m : List Int) (r : Nat), k ≤ l.length ∧ k ≤ 12 ∧ i = .int .i64 k ∧ Wr wz 33 5 w1.heap.size r m ∧ m.length ≤ 5 * k ∧ Byt m ∧ w1.heap.size ≤ r ∧ Tch [] w1 wz) (fun i _ _ => 12 - (intOf i).toNat)
      case atStart => exact ⟨0, [], _, by omega, by omega, rfl, hw0, by simp, Byt.nil, Nat.le_refl _, tb⟩
      case round =>
        obtain ⟨k, m, r, hk1, hk2, rfl, hw, hml, hmb, hrw, ht⟩ := hrel
        clear hw0 tb
        by_cases hk : k < l.length ∧ k < 12
        · obtain ⟨hk3, hk4⟩ := hk
          obtain ⟨ad, rfl, hadlt, hcell⟩ := hel k l[k] (by simp [hk3])
          obtain ⟨i1, i2, i3, i4⟩ := hl0.rng l[k] (List.getElem_mem hk3)
          have tWr := t1.then ht
          have hc : ∀ (j : Nat) u, (rawCells l[k]).toList[j]? = some u → wr.cell? ((ad.add (k * 4)).add j) = some u := fun j u hj => by
            rw [tWr.cell (by rw [Addr_add_block, Addr_add_block]; exact hadlt) (by simp)]; exact hcell j u hj
          have hin := fun w => law3_instr w l[k].1 l[k].2.1 l[k].2.2.1 l[k].2.2.2 i1 i2 i3 i4
          generalize l[k] = xx at *
          obtain ⟨ra, rb, rc, rd⟩ := xx
          clear hcell hel hl hl0 tWr
          dsimp only [rawCells] at *
          go_wp2_with (first | (refine wpList_load_agg rfl 23 (.tmp 38) rfl (ad.add (k * 4)) rfl #[.int .i64 ra, .int .i64 rb, .int .i64 rc, .int .i64 rd] _ hc Try.underlying23 rfl (by kernel_rfl) ?_) | fail)
          refine (hin _).mono ?_
          rintro e w2 ⟨op, x, y, rfl, hop, hx, hy, t2⟩
          have hw2 := hw.tch t2 (by simp) (by simp)
          have ht2 := ht.then t2
          obtain ⟨V, hV⟩ : ∃ V, V = w2.alloc (.cells #[.int .i64 op, .int .i64 x, .int .i64 y] 25) := ⟨_, rfl⟩
          have tV : Tch [] w2 V := by rw [hV]; exact (Tch.refl [] w2).alloc _
          have di : By V w2.heap.size (.int .i64 op) (.int .i64 x) (.int .i64 y) := by rw [hV]; exact By.new _ _ _ _ _
          have hwV := hw2.tch tV (by simp) (by simp)
          have htV := ht2.then tV
          have lp2 := hw2.lt
          have lr2 := hw2.row_lt
          go_upto_region 8 with fail
          rw [← hV]
          clear hV hw hw2 ht ht2 tV t2 hc hin
          have di0 := di
          obtain ⟨c0, c1, c2, f0, f1, f2⟩ := di
          have hR := fun w => ref_Right op x y w
          cases hri : rightI op x y
          · rw [hri] at hR
            go_wp2_with fail
            refine (hR _).mono ?_
            rintro e w3 ⟨rfl, t3⟩
            have hw3 := hwV.tch t3 (by simp) (by simp)
            go_wp2_with fail
            go_roundw
            case rel => exact ⟨_, _, _, _, _, _, _, _, _, _, _, _, _, _, _, _, _, _, _, _, _, _, ⟨k + 1, m, r, by omega, by omega, by go_num, hw3, by omega, hmb, hrw, htV.then t3⟩, rfl⟩
            case measure => simp [intOf]; omega
          · rw [hri] at hR
            go_wp2_with fail
            refine (hR _).mono ?_
            rintro e w3 ⟨rfl, t3⟩
            have hw3 := hwV.tch t3 (by simp) (by simp)
            have di3 := di0.tch t3 (by simp)
            have ht3 := htV.then t3
            clear c0 c1 c2 f0 f1 f2 hwV htV
            obtain ⟨c0, c1, c2, f0, f1, f2⟩ := di3
            have hei := encI_length op x y
            have heb := encI_byt op x y
            go_wp2_with fail
            refine (ref_Lay _ _ r m op x y hop hx hy hw3 (by omega)).mono ?_
            rintro e w4 ⟨rfl, r4, h4, hr4, t4⟩
            have tw4 : Tch [] w1 w4 := ht3.trans t4 (by simp) (by intro i hi hx; simp at hx; omega)
            have hr5 : w1.heap.size ≤ r4 := by have := ht3.size; omega
            go_wp2_with fail
            go_roundw
            case rel => exact ⟨_, _, _, _, _, _, _, _, _, _, _, _, _, _, _, _, _, _, _, _, _, _, ⟨k + 1, m ++ encI op x y, r4, by omega, by omega, by go_num, h4, by rw [List.length_append]; omega, hmb.append heb, hr5, tw4⟩, rfl⟩
            case measure => simp [intOf]; omega
        · have hcases : ¬ k < l.length ∨ (k < l.length ∧ ¬ k < 12) := by omega
          clear hel hl hl0 hr ho1
          obtain ⟨v2, hv2, ho2, hrow2, hne2⟩ := hw.ex
          have c2 : wr.cell? ⟨w1.heap.size, 0, none⟩ = some v2 := by simp [World.cell?, hv2]
          have hsbr := hsb.tch ht (by simp)
          have hbnd : m.length + rw0.length ≤ 9223372036854775807 ∧ (m.length + rw0.length) * 1 ≤ 140737488355328 := by omega
          have hb2 : ∀ k, v2.ownBlock = some k → w1.heap.size ≤ k := fun k hk => by rw [hk] at hrow2; simp at hrow2; omega
          have HW := Lib.hid hrow2
          clear hrow2 hw hv2
          rcases hcases with hk0 | ⟨hk0, hk3⟩
          all_goals
            go_wp2_with (at_builtin; refine wpList_append_any _ rfl (.tmp 49) (.tmp 50) 31 rfl 5 i0 (.int .u8 0) 1 1 Try.underlying31 hi hz0 hz1 hz2 rfl (by decide) v2 m.length (bys m) rfl ho2 [] (.slice ao1 rw0.length cap1) rw0.length (bys rw0) rfl hsbr (by simp) (bys_one rw0) hbnd ?_; intro ao5 cap5 w5 hown hgrow hat)
            go_meet
            case rel =>
              refine ⟨m ++ rw0, ao5, cap5, by rw [List.length_append], ?_, hmb.append hrb, by rw [List.length_append]; omega, t1.then (ht.grown hgrow (fun g hg => .inr (hb2 g hg)))⟩
              rw [List.length_append, bys_append]
              exact src_of_owns hown [] (by simp)
    · go_wp2_with fail
      go_meet
      case rel => exact ⟨rw0, ao1, cap1, rfl, hsb, hrb, by omega, t1⟩
  case rest =>
    obtain ⟨bl, aob, capb, rfl, hsB, hbB, hlB, tB⟩ := hcut
    clear hel hl hl0 hr ho1 hg1 hlt1 hsb t1
    go_wp2_with fail
    refine (oct_NewReader _ [] (by simp) [] _ _ hsB hbB hlB).mono ?_
    rintro e w3 ⟨p, rfl, hp, h3, t3⟩
    have tW3 := tB.then t3
    have zB := tB.size
    go_wp2_with fail
    refine (known3 _).mono ?_
    rintro e w4 ⟨rfl, t4⟩
    have h4 := h3.tch t4 (by simp) (by simp)
    have hs4 := hsB.tch (t3.then t4) (by simp)
    have tW4 := tW3.then t4
    have lp := h4.lt
    clear h3 t3 t4 tB tW3 hsB
    go_wp2_with fail
    refine (hand_FewAll _ _ bl hs4 hlB).mono ?_
    rintro e w5 ⟨ao5, cap5, rfl, ho5, hg5, t5⟩
    have h5 := h4.tch t5 (by simp) (by simp)
    have tW5 := tW4.then t5
    have hlt5 := World.ownsRow.lt ho5
    obtain ⟨U, hU⟩ : ∃ U, U = w5.alloc (.cells #[.slice ao5 bl.length cap5, .bool false] 46) := ⟨_, rfl⟩
    have tU : Tch [] w5 U := by rw [hU]; exact (Tch.refl [] w5).alloc _
    have z5 := t5.size
    have hp6 := (h5.wide (Nat.le_refl _)).tch tU (by simp) (by simp)
    have hq6 : Rd U 46 w5.heap.size [p] bl false := by
      rw [hU]
      exact ⟨⟨ao5, cap5, heap_alloc_new w5 _, src_of_owns (ho5.alloc _) _ (fun g hg hx => by have h1 := hg5 g hg; have h2 := (hlt5 g hg).2; simp at hx; omega)⟩, hbB⟩
    have tWU := tW5.then tU
    have hpq : p ≠ w5.heap.size := by omega
    have zW5 := tW5.size
    go_upto_region 15 with fail
    rw [← hU]
    clear hU tU h5 h4 hs4 ho5 hg5 hlt5 t5 tW5 tW4 hbB
    generalize w5.heap.size = q at *
    go_wp2_with fail
    go_loopw [13] (fun i wz => ∃ (j : Nat) (m : List Int) (k : Bool), j ≤ 30 ∧ i = .int .i64 j ∧ m.length ≤ 140737488355328 ∧ Rd wz 69 p [q] m k ∧ Rd wz 46 q [p] m k ∧ Tch [] W wz) (fun i _ => 30 - (intOf i).toNat)
    case atStart => exact ⟨0, bl, false, by omega, rfl, hlB, hp6, hq6, tWU⟩
    case round =>
      obtain ⟨j, m, k, hj, rfl, hml, hP, hQ, ht⟩ := hrel
      clear hp6 hq6 tWU
      by_cases hlt : j < 30
      · obtain ⟨x, hx⟩ : ∃ x, readI m k = x := ⟨_, rfl⟩
        have hle := readI_le m k
        rw [hx] at hle
        obtain ⟨⟨op, a, b⟩, er, m', k'⟩ := x
        dsimp only at hle
        have HX := Lib.hid hx; clear hx
        go_wp2_with fail
        refine (code_Read _ p [q] _ _ hP hml _ HX.out).mono ?_
        rintro e w6 ⟨rfl, hP6, t6⟩
        have hQ6 := hQ.tch t6 (by simp; omega) (by simp)
        obtain ⟨V, hV⟩ : ∃ V, V = w6.alloc (.cells #[.int .i64 op, .int .i64 a, .int .i64 b] 25) := ⟨_, rfl⟩
        have tV : Tch [] w6 V := by rw [hV]; exact (Tch.refl [] w6).alloc _
        have di : By V w6.heap.size (.int .i64 op) (.int .i64 a) (.int .i64 b) := by rw [hV]; exact By.new _ _ _ _ _
        have hPV := hP6.tch tV (by simp) (by simp)
        have hQV := hQ6.tch tV (by simp) (by simp)
        have tWV : Tch [] W V := (ht.trans t6 (by simp) (by intro i hi hx; simp at hx; omega)).then tV
        have lq6 := hQ6.lt
        go_upto_region 19 with fail
        rw [← hV]
        clear hV tV hP6 hQ6 hP hQ t6
        go_wp2_with fail
        refine (ref_Read _ q [p] _ _ hQV hml _ HX.out).mono ?_
        rintro e w7 ⟨rfl, hQ7, t7⟩
        have hP7 := hPV.tch t7 (by simp; omega) (by simp)
        have di7 := di.tch t7 (by simp; omega)
        have tW7 : Tch [] W w7 := tWV.trans t7 (by simp) (by intro i hi hx; simp at hx; omega)
        obtain ⟨Z, hZ⟩ : ∃ Z, Z = w7.alloc (.cells #[.int .i64 op, .int .i64 a, .int .i64 b] 25) := ⟨_, rfl⟩
        have tZ : Tch [] w7 Z := by rw [hZ]; exact (Tch.refl [] w7).alloc _
        have dj : By Z w7.heap.size (.int .i64 op) (.int .i64 a) (.int .i64 b) := by rw [hZ]; exact By.new _ _ _ _ _
        have diZ := di7.tch tZ (by simp)
        have hPZ := hP7.tch tZ (by simp) (by simp)
        have hQZ := hQ7.tch tZ (by simp) (by simp)
        have tWZ := tW7.then tZ
        go_upto_region 20 with fail
        rw [← hZ]
        clear hZ tZ hP7 hQ7 hPV hQV t7 di di7 tW7 tWV
        obtain ⟨c0, c1, c2, f0, f1, f2⟩ := diZ
        obtain ⟨d0, d1, d2, g0, g1, g2⟩ := dj
        cases her : (er == 0)
        · have her2 : (er != 0) = true := by rw [bne, her]; rfl
          go_wp2_with fail
          go_ret
          exact ⟨rfl, tWZ⟩
        · obtain rfl : er = 0 := by simpa using her
          go_wp2_with fail
          go_roundw
          case rel => exact ⟨j + 1, m', k', by omega, by go_num, by omega, hPZ, hQZ, tWZ⟩
          case measure => simp [intOf]; omega
      · go_wp2_with fail
        go_ret
        exact ⟨rfl, ht⟩
end Go.Proofs.Ytkhoipeblakgiaa
