/-
  STATEMENT: LabelOrder: lists are joined in any order to the same: the walk. Conditions: none.
-/
import Derived.Test.YtkakoefdfjooeaaFew
import Derived.Test.YtkakoefdfjooeaaKn6
namespace Go.Proofs.Ytkakoefdfjooeaa
open Go.RowKit Go.Tcn
set_option linter.unusedVariables false
set_option linter.unusedSimpArgs false
theorem joinO_comm (x y : List Int) : joinO y x = joinO x y := by unfold joinO; rw [joinL_comm]
theorem joinK_comm (x y : List Int) : joinK y x = joinK x y := by unfold joinK; rw [joinL_comm]
theorem JoinAll_as (w : World) (L M : List Nat) (va vb : Value) (x y p : List Int) (k : Bool) (hp : joinO x y = p) (hk : joinK x y = k) (ha : Src w L va x.length (ins x)) (hb : Src w M vb y.length (ins y)) (hxl : x.length ≤ 10) (hyl : y.length ≤ 10) :
    Calls Try.prog 55 #[va, vb] w fun e w' => ∃ ao cap, e = .returned (.tuple #[.slice ao p.length cap, .bool k]) ∧ Src w' [] (.slice ao p.length cap) p.length (ins p) ∧ Tch [] w w' := by
  subst hp; subst hk
  refine (lab_JoinAll w L M va vb x y ha hb (by omega) (by omega)).mono ?_
  rintro e w' ⟨ao, cap, rfl, ho, _, t⟩
  exact ⟨ao, cap, rfl, src_of_owns ho [] (by simp), t⟩
theorem ints_same (w : World) (va vb : Value) (p q : List Int) (hpq : p = q) (ha : Src w [] va p.length (ins p)) (hb : Src w [] vb q.length (ins q)) (hl : p.length ≤ 10) :
    Calls Try.prog 57 #[va, vb] w fun e w' => e = .returned (.bool true) ∧ Tch [] w w' := by
  subst hpq
  refine (ints_eq w [] [] va vb p p ha hb (by omega) (by omega)).mono ?_
  rintro e w' ⟨rfl, t⟩
  exact ⟨by simp, t⟩
theorem FitsAll_yes (w : World) (va vb : Value) (x y : List Int) (hf : fitsL x y = true) (ha : Src w [] va x.length (ins x)) (hb : Src w [] vb y.length (ins y)) (hxl : x.length ≤ 10) (hyl : y.length ≤ 10) :
    Calls Try.prog 58 #[va, vb] w fun e w' => e = .returned (.bool true) ∧ Tch [] w w' := by
  refine (lab_FitsAll w [] [] va vb x y ha hb (by omega) (by omega)).mono ?_
  rintro e w' ⟨rfl, t⟩
  exact ⟨by rw [hf], t⟩
theorem cut_ints {w : World} {ao : Option Addr} {c n : Nat} {x : List Int} (h : Src w [] (.slice ao x.length c) x.length (ins x)) (hn : n ≤ x.length) : Src w [] (.slice ao n c) (x.take n).length (ins (x.take n)) := by
  have := h.cut_h (sz := 1) hn
  rw [Nat.mul_one, ← ins_take] at this
  rw [List.length_take, Nat.min_eq_left hn]
  exact this
/-- All that the walk asks of the lists. -/
theorem order_facts (x y z : List Int) : (joinK x y = false ∧ joinO x y = []) ∨ ∃ p, joinL x y = some p ∧ joinO x y = p ∧ joinK x y = true ∧ fitsL x p = true ∧ fitsL y p = true ∧ p.length = x.length ∧
    ((joinK y z = false ∧ joinO y z = [] ∧ joinK p z = false ∧ joinO p z = []) ∨ (∃ q, joinO y z = q ∧ joinK y z = true ∧ q.length = y.length ∧ joinO x q = joinO p z ∧ joinK x q = joinK p z)) := by
  cases h : joinL x y with
  | none => left; simp [joinK, joinO, h]
  | some p =>
    right
    have hl := joinL_out x y p h
    refine ⟨p, rfl, by simp [joinO, h], by simp [joinK, h], fitsL_join x y p h, fitsL_join y x p (by rw [joinL_comm]; exact h), hl.1, ?_⟩
    have ha := joinL_assoc x y z p h
    cases hq : joinL y z with
    | none => left; rw [hq] at ha; simp [joinK, joinO, hq, ha]
    | some q =>
      right
      rw [hq] at ha
      exact ⟨q, by simp [joinO, hq], by simp [joinK, hq], (joinL_out y z q hq).1, by simp [joinO, ha], by simp [joinK, ha]⟩
theorem joinO_len (x y : List Int) (n : Nat) (h : x.length ≤ n) : (joinO x y).length ≤ n := by
  unfold joinO
  cases h2 : joinL x y with
  | none => simp
  | some p => have := joinL_out x y p h2; simp; omega
theorem _root_.Go.Tcn.Src.len_cap {w : World} {L : List Nat} {ao : Option Addr} {m c : Nat} {news : List Value} (h : Src w L (.slice ao m c) m news) : m ≤ c := by
  rcases h.ex with ⟨h1, h2, _⟩ | ⟨ad, c', h1, h2, _⟩
  · omega
  · simp only [Value.slice.injEq] at h1; omega
set_option maxRecDepth 100000 in
set_option maxHeartbeats 4000000 in
theorem labelOrder_walk (W : World) (u0 u1 u2 : Value) (l0 l1 l2 : List Int) (hs0 : Src W [] u0 l0.length (ins l0)) (hb0 : I64 l0) (hm0 : l0.length ≤ 9223372036854775807) (hs1 : Src W [] u1 l1.length (ins l1)) (hb1 : I64 l1) (hm1 : l1.length ≤ 9223372036854775807)
    (hs2 : Src W [] u2 l2.length (ins l2)) (hb2 : I64 l2) (hm2 : l2.length ≤ 9223372036854775807) :
    Calls Try.prog 10 #[u0, u1, u2] W fun e w' => e = .returned (.bool true) ∧ Tch [] W w' := by
  go_enter Try.func10, Try.ntmps10
  go_wp2_with fail
  refine (lab_few _ [] u0 l0 hs0 hb0 hm0 false).mono ?_
  rintro e w1 ⟨ao0, cap0, rfl, ho0, hg0, t1⟩
  go_wp2_with fail
  refine (lab_few _ [] u1 l1 (hs1.tch t1 (by simp)) hb1 hm1 false).mono ?_
  rintro e w2 ⟨ao1, cap1, rfl, ho1, hg1, t2⟩
  go_wp2_with fail
  refine (lab_few _ [] u2 l2 (hs2.tch (t1.then t2) (by simp)) hb2 hm2 false).mono ?_
  rintro e w3 ⟨ao2, cap2, rfl, ho2, hg2, t3⟩
  have hx := (src_of_owns ho0 [] (by simp)).tch (t2.then t3) (by simp)
  have hy := (src_of_owns ho1 [] (by simp)).tch t3 (by simp)
  have hz := src_of_owns ho2 [] (by simp)
  have hlx : (fewK l0 false).length ≤ 10 := by rw [fewK_length]; omega
  have hly : (fewK l1 false).length ≤ 10 := by rw [fewK_length]; omega
  have hlz : (fewK l2 false).length ≤ 10 := by rw [fewK_length]; omega
  have tW := (t1.then t2).then t3
  clear hs0 hs1 hs2 hb0 hb1 hb2 hm0 hm1 hm2 ho0 hg0 t1 t2 t3 hg1 ho1 ho2 hg2
  generalize fewK l0 false = x0 at *
  generalize fewK l1 false = y0 at *
  generalize fewK l2 false = z0 at *
  go_upto_region 5 with fail
  obtain ⟨n, hn, hn1, hn2, hn3⟩ : ∃ n : Nat, (if (z0.length : Int) < if y0.length < x0.length then (y0.length : Int) else (x0.length : Int) then (z0.length : Int) else if y0.length < x0.length then (y0.length : Int) else (x0.length : Int)) = (n : Int) ∧ n ≤ x0.length ∧ n ≤ y0.length ∧ n ≤ z0.length := by
    refine ⟨min (min x0.length y0.length) z0.length, ?_, by omega, by omega, by omega⟩
    split <;> split at * <;> omega
  rw [hn]
  clear hn
  have hcx : ∀ (ao : Option Addr) (len cap n : Nat) (hn : n ≤ cap) (w : World), (Instr.slice 54 (.slice ao len cap) none (some (.int .i64 (n : Int))) none).run Try.prog w = .ok (.slice ao n cap) w := fun ao len cap n hn w => run_cut_h (P := Try.prog) 54 3 1 Try.underlying54 (by kernel_rfl) (by kernel_rfl) ao len cap n hn w
  have hc0 := hcx ao0 x0.length cap0 n (by have := hx.len_cap; omega)
  have hc1 := hcx ao1 y0.length cap1 n (by have := hy.len_cap; omega)
  have hc2 := hcx ao2 z0.length cap2 n (by have := hz.len_cap; omega)
  have sx := cut_ints hx hn1
  have sy := cut_ints hy hn2
  have sz := cut_ints hz hn3
  have hxn : (x0.take n).length = n := by rw [List.length_take]; omega
  have hyn : (y0.take n).length = n := by rw [List.length_take]; omega
  have hzn : (z0.take n).length = n := by rw [List.length_take]; omega
  have hof := order_facts (x0.take n) (y0.take n) (z0.take n)
  have hn10 : n ≤ 10 := by omega
  clear hx hy hz hcx
  generalize x0.take n = x at *
  generalize y0.take n = y at *
  generalize z0.take n = z at *
  have HX := Lib.hid hxn; have HY := Lib.hid hyn; have HZ := Lib.hid hzn
  clear hxn hyn hzn
  have lx : x.length ≤ 10 := by rw [HX.out]; exact hn10
  have ly : y.length ≤ 10 := by rw [HY.out]; exact hn10
  have lz : z.length ≤ 10 := by rw [HZ.out]; exact hn10
  have hp1 := hand_Pick n 1 (by omega) (by omega) (by omega)
  rw [Int.emod_one] at hp1
  rcases hof with ⟨hk, ho⟩ | ⟨p, hpj, ho, hk, hfx, hfy, hpl, hrest⟩
  · go_wp2_with fail
    clear hc0 hc1 hc2
    refine (JoinAll_as _ [] [] _ _ x y [] false ho hk sx sy lx ly).mono ?_
    rintro e w5 ⟨ao5, cap5, rfl, s5, t5⟩
    go_wp2_with fail
    refine (JoinAll_as _ [] [] _ _ y x [] false (by rw [joinO_comm]; exact ho) (by rw [joinK_comm]; exact hk) (sy.tch t5 (by simp)) (sx.tch t5 (by simp)) ly lx).mono ?_
    rintro e w6 ⟨ao6, cap6, rfl, s6, t6⟩
    clear ho hk
    go_wp2_with fail
    refine (lab_known6 _).mono ?_
    rintro e w7 ⟨rfl, rfl⟩
    go_wp2_with fail
    refine (ints_same _ _ _ [] [] rfl (s5.tch t6 (by simp)) s6 (by simp)).mono ?_
    rintro e w7 ⟨rfl, t7⟩
    go_wp2_with fail
    go_ret
    exact ⟨rfl, ((tW.then t5).then t6).then t7⟩
  · have lp : p.length ≤ 10 := by omega
    have hpl2 := Lib.hid hpl; clear hpl hpj
    go_wp2_with fail
    clear hc0 hc1 hc2
    refine (JoinAll_as _ [] [] _ _ x y p true ho hk sx sy lx ly).mono ?_
    rintro e w5 ⟨ao5, cap5, rfl, s5, t5⟩
    go_wp2_with fail
    refine (JoinAll_as _ [] [] _ _ y x p true (by rw [joinO_comm]; exact ho) (by rw [joinK_comm]; exact hk) (sy.tch t5 (by simp)) (sx.tch t5 (by simp)) ly lx).mono ?_
    rintro e w6 ⟨ao6, cap6, rfl, s6, t6⟩
    clear ho hk
    go_wp2_with fail
    refine (lab_known6 _).mono ?_
    rintro e w7 ⟨rfl, rfl⟩
    go_wp2_with fail
    refine (ints_same _ _ _ p p rfl (s5.tch t6 (by simp)) s6 lp).mono ?_
    rintro e w7 ⟨rfl, t7⟩
    have q7 := (t5.then t6).then t7
    have x7 := sx.tch q7 (by simp)
    have y7 := sy.tch q7 (by simp)
    have z7 := sz.tch q7 (by simp)
    have p7 := s5.tch (t6.then t7) (by simp)
    have tW7 := tW.then q7
    clear sx sy sz s5 s6 t5 t6 t7 q7 tW
    go_wp2_with fail
    rcases hrest with ⟨r1, r2, r3, r4⟩ | ⟨q, r1, r2, r3, r4, r5⟩
    · refine (JoinAll_as _ [] [] _ _ p z [] false r4 r3 p7 z7 lp lz).mono ?_
      rintro e w8 ⟨ao8, cap8, rfl, s8, t8⟩
      go_wp2_with fail
      refine (JoinAll_as _ [] [] _ _ y z [] false r2 r1 (y7.tch t8 (by simp)) (z7.tch t8 (by simp)) ly lz).mono ?_
      rintro e w9 ⟨ao9, cap9, rfl, s9, t9⟩
      go_wp2_with fail
      refine (JoinAll_as _ [] [] _ _ x [] (joinO x []) (joinK x []) rfl rfl ((x7.tch t8 (by simp)).tch t9 (by simp)) s9 lx (by simp)).mono ?_
      rintro e w10 ⟨ao10, cap10, rfl, s10, t10⟩
      clear r1 r2 r3 r4
      generalize joinO x [] = u at *
      generalize joinK x [] = b at *
      cases b
      all_goals
        go_wp2_with fail
        refine (FitsAll_yes _ _ _ x p hfx (((x7.tch t8 (by simp)).tch t9 (by simp)).tch t10 (by simp)) (((p7.tch t8 (by simp)).tch t9 (by simp)).tch t10 (by simp)) lx lp).mono ?_
        rintro e w11 ⟨rfl, t11⟩
        have q11 := ((t8.then t9).then t10).then t11
        go_wp2_with fail
        refine (FitsAll_yes _ _ _ y p hfy (y7.tch q11 (by simp)) (p7.tch q11 (by simp)) ly lp).mono ?_
        rintro e w12 ⟨rfl, t12⟩
        go_wp2_with fail
        refine (hp1 _).mono ?_
        rintro e w13 ⟨rfl, rfl⟩
        go_wp2_with fail
        go_ret
        exact ⟨rfl, (tW7.then q11).then t12⟩
    · have lq : q.length ≤ 10 := by omega
      have hpz := joinO_len p z 10 lp
      have HQ := Lib.hid r3; clear r3
      refine (JoinAll_as _ [] [] _ _ p z (joinO p z) (joinK p z) rfl rfl p7 z7 lp lz).mono ?_
      rintro e w8 ⟨ao8, cap8, rfl, s8, t8⟩
      go_wp2_with fail
      refine (JoinAll_as _ [] [] _ _ y z q true r1 r2 (y7.tch t8 (by simp)) (z7.tch t8 (by simp)) ly lz).mono ?_
      rintro e w9 ⟨ao9, cap9, rfl, s9, t9⟩
      go_wp2_with fail
      refine (JoinAll_as _ [] [] _ _ x q (joinO p z) (joinK p z) r4 r5 ((x7.tch t8 (by simp)).tch t9 (by simp)) s9 lx lq).mono ?_
      rintro e w10 ⟨ao10, cap10, rfl, s10, t10⟩
      clear r1 r2 r4 r5
      generalize joinO p z = u at *
      generalize joinK p z = b at *
      have s8' := (s8.tch t9 (by simp)).tch t10 (by simp)
      cases b
      · go_wp2_with fail
        refine (FitsAll_yes _ _ _ x p hfx (((x7.tch t8 (by simp)).tch t9 (by simp)).tch t10 (by simp)) (((p7.tch t8 (by simp)).tch t9 (by simp)).tch t10 (by simp)) lx lp).mono ?_
        rintro e w11 ⟨rfl, t11⟩
        have q11 := ((t8.then t9).then t10).then t11
        go_wp2_with fail
        refine (FitsAll_yes _ _ _ y p hfy (y7.tch q11 (by simp)) (p7.tch q11 (by simp)) ly lp).mono ?_
        rintro e w12 ⟨rfl, t12⟩
        go_wp2_with fail
        refine (hp1 _).mono ?_
        rintro e w13 ⟨rfl, rfl⟩
        go_wp2_with fail
        go_ret
        exact ⟨rfl, (tW7.then q11).then t12⟩
      · go_wp2_with fail
        refine (ints_same _ _ _ u u rfl s8' s10 hpz).mono ?_
        rintro e w10b ⟨rfl, t10b⟩
        have q10 := ((t8.then t9).then t10).then t10b
        go_wp2_with fail
        refine (FitsAll_yes _ _ _ x p hfx (x7.tch q10 (by simp)) (p7.tch q10 (by simp)) lx lp).mono ?_
        rintro e w11 ⟨rfl, t11⟩
        have q11 := q10.then t11
        go_wp2_with fail
        refine (FitsAll_yes _ _ _ y p hfy (y7.tch q11 (by simp)) (p7.tch q11 (by simp)) ly lp).mono ?_
        rintro e w12 ⟨rfl, t12⟩
        go_wp2_with fail
        refine (hp1 _).mono ?_
        rintro e w13 ⟨rfl, rfl⟩
        go_wp2_with fail
        go_ret
        exact ⟨rfl, (tW7.then q11).then t12⟩
end Go.Proofs.Ytkakoefdfjooeaa
