/-
  CONTRACTS: image: an applet's bytes. Conditions: utf8's tables as they are laid; sizes of 64 bits.
  CONTRACTS: image.Same: which applets are the same. Conditions: sizes of 64 bits.
-/
import Derived.Test.YteebapopeaafhaaGreatDoorHImr
import Derived.Test.YteebapopeaafhaaGreatDoorHLay
import Derived.Test.YteebapopeaafhaaGreatDoorHCodeP
import Derived.Laws.IdiomStrings
import Derived.Laws.AppendOwn
namespace Go.Tcn
open Go.RowKit
set_option linter.unusedVariables false
set_option linter.unusedSimpArgs false
/-- A writer of the call's own, behind world V. -/
structure LJ (T E : TypeId) (V w : World) (p r : Nat) (l : List Int) : Prop where
  wr : Wr w T E p r l
  hp : V.heap.size ≤ p
  hr : V.heap.size ≤ r
  t : Tch [] V w
theorem LJ.step {T E : TypeId} {V w w' : World} {p r : Nat} {l l' : List Int} (h : LJ T E V w p r l) (k : WrTo T E p r l' w w') : ∃ r', LJ T E V w' p r' l' := by
  obtain ⟨r', a, b, c⟩ := k
  have := h.t.size
  have h1 := h.hp
  have h2 := h.hr
  exact ⟨r', a, h1, by omega, h.t.trans c (by simp) (fun i hi hx => by simp at hx; omega)⟩
theorem LJ.ahead {T E : TypeId} {V w w' : World} {p r : Nat} {l : List Int} (h : LJ T E V w p r l) (k : Tch [] w w') : LJ T E V w' p r l :=
  ⟨h.wr.tch k (by simp) (by simp), h.hp, h.hr, h.t.then k⟩
end Go.Tcn
namespace Go.Proofs.YteebapopeaafhaaGreatDoor
open Go.RowKit Go.Tcn
set_option linter.unusedVariables false
set_option linter.unusedSimpArgs false
end Go.Proofs.YteebapopeaafhaaGreatDoor
namespace Go.Tcn
open Go.RowKit
set_option linter.unusedVariables false
set_option linter.unusedSimpArgs false
/-- The cells of an instruction of a list, as the walk names them. -/
theorem RCode.at3 {w : World} {L : List Nat} {ao : Option Addr} {m c : Nat} {l : List Ins} (h : RCode w L (.slice ao m c) l) {k : Nat} (hk : k < l.length) :
    ∃ ad, ao = some ad ∧ ad.block < w.heap.size ∧ w.cell? (ad.add (k * 3)) = some (.int .i64 l[k].op) ∧ w.cell? ⟨(ad.add (k * 3)).block, (ad.add (k * 3)).off + 1, none⟩ = some (.int .i64 l[k].a) ∧ w.cell? ⟨(ad.add (k * 3)).block, (ad.add (k * 3)).off + 2, none⟩ = some (.int .i64 l[k].b) := by
  obtain ⟨ad, rfl, hl, hc⟩ := h.at hk
  have e0 := hc 0 _ rfl
  have e1 := hc 1 _ rfl
  have e2 := hc 2 _ rfl
  rw [Addr_add_zero] at e0
  have ea : ∀ (A : Addr) n, n ≠ 0 → A.add n = ⟨A.block, A.off + n, none⟩ := fun A n hn => by simp [Addr.add, hn]
  rw [ea _ 1 (by omega)] at e1
  rw [ea _ 2 (by omega)] at e2
  exact ⟨ad, rfl, hl, e0, e1, e2⟩
end Go.Tcn
namespace Go.Proofs.YteebapopeaafhaaGreatDoor
open Go.RowKit Go.Tcn
set_option linter.unusedVariables false
set_option linter.unusedSimpArgs false
set_option maxRecDepth 100000 in
set_option maxHeartbeats 4000000 in
theorem im_eqins (w : World) (v0 v1 : Value) (a b : List Ins) (h0 : RCode w [] v0 a) (h1 : RCode w [] v1 b) (hm0 : a.length ≤ 9223372036854775807) (hm1 : b.length ≤ 9223372036854775807) :
    Calls Tryz.prog 91 #[v0, v1] w fun e w' => e = .returned (.bool (decide (a = b))) ∧ Tch [] w w' := by
  obtain ⟨a0, c0, rfl⟩ := RCode.form h0
  obtain ⟨a1, c1, rfl⟩ := RCode.form h1
  by_cases hl : a.length = b.length
  · have hat := fun (W : World) (t : Tch [] w W) k (hk : k < a.length) => RCode.at3 (h0.tch t (by simp)) hk
    have hbt := fun (W : World) (t : Tch [] w W) k (hk : k < b.length) => RCode.at3 (h1.tch t (by simp)) hk
    clear h0 h1
    rw [← hl]
    have HL := Lib.hid hl
    clear hl
    go_enter Tryz.func91, Tryz.ntmps91
    go_wp2_with fail
    go_loopw [13] (fun i wz => ∃ k : Nat, k ≤ a.length ∧ i = .int .i64 k ∧ a.take k = b.take k ∧ Tch [] w wz) (fun i _ => a.length - (intOf i).toNat)
    case atStart => exact ⟨0, by omega, rfl, by simp, Tch.refl _ _⟩
    case round =>
      obtain ⟨k, hk1, rfl, htk, ht⟩ := hrel
      have hl := HL.out
      by_cases hk : k < a.length
      · have hk' : k < b.length := by omega
        obtain ⟨ad0, rfl, _, q0, q1, q2⟩ := hat wr.drew ht.drew k hk
        obtain ⟨ad1, rfl, _, q3, q4, q5⟩ := hbt wr.drew ht.drew k hk'
        have hak : a.take (k + 1) = a.take k ++ [a[k]] := (List.take_append_getElem hk).symm
        have hbk : b.take (k + 1) = b.take k ++ [b[k]] := (List.take_append_getElem hk').symm
        have hne : a[k] ≠ b[k] → a ≠ b := fun h e => h (by simp [e])
        generalize a[k] = x at *
        generalize b[k] = y at *
        clear hat hbt hl hk'
        have HT := Lib.hid htk; clear htk
        obtain ⟨xo, xa, xb⟩ := x
        obtain ⟨yo, ya, yb⟩ := y
        simp only at q0 q1 q2 q3 q4 q5
        by_cases hxy : xo = yo ∧ xa = ya ∧ xb = yb
        · obtain ⟨rfl, rfl, rfl⟩ := hxy
          go_wp2_with fail
          go_region
          all_goals go_wp2
          all_goals go_roundw
          all_goals (first | (case rel => exact ⟨k + 1, by omega, by go_num, by rw [hak, hbk, HT.out], ht.drew⟩) | (case measure => simp [intOf]; omega))
        · have hd : decide (a = b) = false := decide_eq_false (hne (fun e => hxy (by simpa using e)))
          have HD := Lib.hid hd; clear hd hne
          by_cases h1 : xo = yo
          · subst h1
            by_cases h2 : xa = ya
            · subst h2
              have h3 : ¬ xb = yb := fun e => hxy ⟨rfl, rfl, e⟩
              clear hxy
              go_wp2_with fail
              go_region
              all_goals go_wp2
              all_goals (first | go_ret | go_ret2 | go_end0)
              all_goals exact ⟨by rw [HD.out]; rfl, ht.drew⟩
            · clear hxy
              go_wp2_with fail
              go_region
              all_goals go_wp2
              all_goals (first | go_ret | go_ret2 | go_end0)
              all_goals exact ⟨by rw [HD.out]; rfl, ht.drew⟩
          · clear hxy
            go_wp2_with fail
            go_region
            all_goals go_wp2
            all_goals (first | go_ret | go_ret2 | go_end0)
            all_goals exact ⟨by rw [HD.out]; rfl, ht.drew⟩
      · have he : a = b := by
          have e1 : a.take k = a := List.take_of_length_le (by omega)
          have e2 : b.take k = b := List.take_of_length_le (by omega)
          rw [← e1, htk, e2]
        have HE := Lib.hid he; clear he
        clear hat hbt htk hl
        go_wp2_with fail
        (first | go_ret | go_ret2 | go_end0)
        exact ⟨by rw [decide_eq_true HE.out]; rfl, ht⟩
  · have hd : decide (a = b) = false := decide_eq_false (fun e => hl (by rw [e]))
    rw [hd]
    have hb : (((a.length : Int)) != ((b.length : Int))) = true := by simp; omega
    go_enter Tryz.func91, Tryz.ntmps91
    go_wp2_with fail
    (first | go_ret | go_ret2 | go_end0)
    exact ⟨rfl, Tch.refl _ _⟩
set_option maxRecDepth 100000 in
set_option maxHeartbeats 4000000 in
theorem im_eqint (w : World) (v0 v1 : Value) (a b : List Int) (h0 : RInts w [] v0 a) (h1 : RInts w [] v1 b) (hm0 : a.length ≤ 9223372036854775807) (hm1 : b.length ≤ 9223372036854775807) :
    Calls Tryz.prog 48 #[v0, v1] w fun e w' => e = .returned (.bool (decide (a = b))) ∧ Tch [] w w' := lk_equal w v0 v1 a b h0 h1 hm0 hm1
theorem decI (x y : Imp) : decide (x = y) = (decide (x.name = y.name) && decide (x.exp = y.exp) && decide (x.params = y.params) && decide (x.result = y.result)) := by
  cases x; cases y
  simp only [Imp.mk.injEq, Bool.decide_and]
  simp only [Bool.and_assoc]
theorem decM (x y : Mth) : decide (x = y) = (decide (x.params = y.params) && decide (x.result = y.result) && decide (x.locals = y.locals) && decide (x.code = y.code)) := by
  cases x; cases y
  simp only [Mth.mk.injEq, Bool.decide_and]
  simp only [Bool.and_assoc]
theorem decG (x y : Img) : decide (x = y) = (decide (x.name = y.name) && decide (x.fields = y.fields) && decide (x.imports = y.imports) && decide (x.methods = y.methods) && decide (x.exports = y.exports)) := by
  cases x; cases y
  simp only [Img.mk.injEq, Bool.decide_and]
  simp only [Bool.and_assoc]
set_option maxRecDepth 100000 in
set_option maxHeartbeats 4000000 in
theorem im_sameImport (w : World) (x y : Imp) (vx vy : Value) (hx : RInts w [] vx x.params) (hy : RInts w [] vy y.params) (zx : x.params.length ≤ 9223372036854775807) (zy : y.params.length ≤ 9223372036854775807) :
    Calls Tryz.prog 50 #[.agg #[.string ⟨x.name.toArray⟩, .int .i64 x.exp, vx, .int .i64 x.result], .agg #[.string ⟨y.name.toArray⟩, .int .i64 y.exp, vy, .int .i64 y.result]] w fun e w' => e = .returned (.bool (decide (x = y))) ∧ Tch [] w w' := by
  have hdec := decI x y
  obtain ⟨V, hVd⟩ : ∃ V, V = (w.alloc (.cells #[.string ⟨x.name.toArray⟩, .int .i64 x.exp, vx, .int .i64 x.result] 51)).alloc (.cells #[.string ⟨y.name.toArray⟩, .int .i64 y.exp, vy, .int .i64 y.result] 51) := ⟨_, rfl⟩
  have tV : Tch [] w V := by rw [hVd]; exact ((Tch.refl [] w).alloc _).alloc _
  have hB1 : Bq V w.heap.size (.string ⟨x.name.toArray⟩) (.int .i64 x.exp) vx (.int .i64 x.result) := by
    rw [hVd]; exact (Bq.new w _ _ _ _ _).tch ((Tch.refl [] _).alloc _) (by simp)
  have hB2 : Bq V (w.heap.size + 1) (.string ⟨y.name.toArray⟩) (.int .i64 y.exp) vy (.int .i64 y.result) := by
    rw [hVd]
    have := Bq.new (w.alloc (.cells #[.string ⟨x.name.toArray⟩, .int .i64 x.exp, vx, .int .i64 x.result] 51)) (.string ⟨y.name.toArray⟩) (.int .i64 y.exp) vy (.int .i64 y.result) 51
    simpa using this
  have hE := im_eqint V vx vy x.params y.params (hx.tch tV (by simp)) (hy.tch tV (by simp)) zx zy
  go_enter Tryz.func50, Tryz.ntmps50
  go_upto_region 1 with fail
  rw [← hVd]
  clear hVd
  obtain ⟨b0, b1, b2, b3⟩ := hB1
  obtain ⟨d0, d1, d2, d3⟩ := hB2
  have HD := Lib.hid hdec; clear hdec
  by_cases h1 : x.name = y.name
  · have e1 : (x.name == y.name) = true := by simp [h1]
    have k1 := Lib.hid (decide_eq_true h1)
    clear h1
    by_cases h2 : x.exp = y.exp
    · have e2 : (x.exp == y.exp) = true := by simp [h2]
      have k2 := Lib.hid (decide_eq_true h2)
      clear h2
      by_cases h3 : x.params = y.params
      · have k3 := decide_eq_true h3
        rw [k3] at hE
        have K3 := Lib.hid k3; clear k3 h3
        by_cases h4 : x.result = y.result
        · have e4 : (x.result == y.result) = true := by simp [h4]
          have k4 := Lib.hid (decide_eq_true h4)
          clear h4
          go_wp2_with fail
          refine hE.mono ?_
          rintro e w1 ⟨rfl, t1⟩
          have hb3 : w1.cell? ⟨w.heap.size, 3, none⟩ = some (.int .i64 x.result) := by rw [t1.cell (cell_lt b3) (by simp)]; exact b3
          have hd3 : w1.cell? ⟨w.heap.size + 1, 3, none⟩ = some (.int .i64 y.result) := by rw [t1.cell (cell_lt d3) (by simp)]; exact d3
          go_wp2_with fail
          go_ret
          exact ⟨by rw [HD.out, k1.out, k2.out, K3.out, k4.out]; rfl, tV.then t1⟩
        · have e4 : (x.result == y.result) = false := by simp [h4]
          have k4 := Lib.hid (decide_eq_false h4)
          clear h4
          go_wp2_with fail
          refine hE.mono ?_
          rintro e w1 ⟨rfl, t1⟩
          have hb3 : w1.cell? ⟨w.heap.size, 3, none⟩ = some (.int .i64 x.result) := by rw [t1.cell (cell_lt b3) (by simp)]; exact b3
          have hd3 : w1.cell? ⟨w.heap.size + 1, 3, none⟩ = some (.int .i64 y.result) := by rw [t1.cell (cell_lt d3) (by simp)]; exact d3
          go_wp2_with fail
          go_ret
          exact ⟨by rw [HD.out, k1.out, k2.out, K3.out, k4.out]; rfl, tV.then t1⟩
      · have k3 := decide_eq_false h3
        rw [k3] at hE
        have K3 := Lib.hid k3; clear k3 h3
        go_wp2_with fail
        refine hE.mono ?_
        rintro e w1 ⟨rfl, t1⟩
        go_wp2_with fail
        go_ret
        exact ⟨by rw [HD.out, k1.out, k2.out, K3.out]; rfl, tV.then t1⟩
    · have e2 : (x.exp == y.exp) = false := by simp [h2]
      have k2 := Lib.hid (decide_eq_false h2)
      clear h2
      go_wp2_with fail
      go_ret
      exact ⟨by rw [HD.out, k1.out, k2.out]; rfl, tV⟩
  · have e1 : (x.name == y.name) = false := by simp [h1]
    have k1 := Lib.hid (decide_eq_false h1)
    clear h1
    go_wp2_with fail
    go_ret
    exact ⟨by rw [HD.out, k1.out]; rfl, tV⟩
set_option maxRecDepth 100000 in
set_option maxHeartbeats 4000000 in
theorem im_sameMethod (w : World) (x y : Mth) (px py lx ly cx cy : Value) (hpx : RInts w [] px x.params) (hpy : RInts w [] py y.params) (hlx : RInts w [] lx x.locals) (hly : RInts w [] ly y.locals) (hcx : RCode w [] cx x.code) (hcy : RCode w [] cy y.code) (zx : MthZ x) (zy : MthZ y) :
    Calls Tryz.prog 52 #[.agg #[px, .int .i64 x.result, lx, cx], .agg #[py, .int .i64 y.result, ly, cy]] w fun e w' => e = .returned (.bool (decide (x = y))) ∧ Tch [] w w' := by
  have hdec := decM x y
  obtain ⟨z1, z2, z3, _⟩ := zx
  obtain ⟨y1, y2, y3, _⟩ := zy
  obtain ⟨V, hVd⟩ : ∃ V, V = (w.alloc (.cells #[px, .int .i64 x.result, lx, cx] 55)).alloc (.cells #[py, .int .i64 y.result, ly, cy] 55) := ⟨_, rfl⟩
  have tV : Tch [] w V := by rw [hVd]; exact ((Tch.refl [] w).alloc _).alloc _
  have hB1 : ∀ W, Tch [] V W → Bq W w.heap.size px (.int .i64 x.result) lx cx := fun W t => by
    refine Bq.tch ?_ t (by simp)
    rw [hVd]; exact (Bq.new w _ _ _ _ _).tch ((Tch.refl [] _).alloc _) (by simp)
  have hB2 : ∀ W, Tch [] V W → Bq W (w.heap.size + 1) py (.int .i64 y.result) ly cy := fun W t => by
    refine Bq.tch ?_ t (by simp)
    rw [hVd]
    have := Bq.new (w.alloc (.cells #[px, .int .i64 x.result, lx, cx] 55)) py (.int .i64 y.result) ly cy 55
    simpa using this
  have hE1 := fun W (t : Tch [] V W) => im_eqint W px py x.params y.params (hpx.tch (tV.then t) (by simp)) (hpy.tch (tV.then t) (by simp)) z1 y1
  have hE2 := fun W (t : Tch [] V W) => im_eqint W lx ly x.locals y.locals (hlx.tch (tV.then t) (by simp)) (hly.tch (tV.then t) (by simp)) z2 y2
  have hE3 := fun W (t : Tch [] V W) => im_eqins W cx cy x.code y.code (hcx.tch (tV.then t) (by simp)) (hcy.tch (tV.then t) (by simp)) z3 y3
  clear hpx hpy hlx hly hcx hcy
  go_enter Tryz.func52, Tryz.ntmps52
  go_upto_region 1 with fail
  rw [← hVd]
  clear hVd
  have HD := Lib.hid hdec; clear hdec
  obtain ⟨b0, b1, b2, b3⟩ := hB1 V (Tch.refl _ _)
  obtain ⟨d0, d1, d2, d3⟩ := hB2 V (Tch.refl _ _)
  go_wp2_with fail
  refine (hE1 V (Tch.refl _ _)).mono ?_
  rintro e w1 ⟨rfl, t1⟩
  clear b0 b1 b2 b3 d0 d1 d2 d3
  obtain ⟨b0, b1, b2, b3⟩ := hB1 w1 t1
  obtain ⟨d0, d1, d2, d3⟩ := hB2 w1 t1
  cases k1 : decide (x.params = y.params)
  · go_wp2_with fail
    go_ret
    exact ⟨by rw [HD.out, k1]; rfl, tV.then t1⟩
  by_cases h4 : x.result = y.result
  · have e4 : (x.result == y.result) = true := by simp [h4]
    have k4 := Lib.hid (decide_eq_true h4)
    clear h4
    go_wp2_with fail
    refine (hE2 w1 t1).mono ?_
    rintro e w2 ⟨rfl, t2⟩
    have t12 := t1.then t2
    clear b0 b1 b2 b3 d0 d1 d2 d3 t2
    obtain ⟨b0, b1, b2, b3⟩ := hB1 w2 t12
    obtain ⟨d0, d1, d2, d3⟩ := hB2 w2 t12
    cases k2 : decide (x.locals = y.locals)
    · go_wp2_with fail
      go_ret
      exact ⟨by rw [HD.out, k1, k4.out, k2]; rfl, tV.then t12⟩
    go_wp2_with fail
    refine (hE3 w2 t12).mono ?_
    rintro e w3 ⟨rfl, t3⟩
    cases k3 : decide (x.code = y.code)
    · go_wp2_with fail
      go_ret
      exact ⟨by rw [HD.out, k1, k4.out, k2, k3]; rfl, tV.then (t12.then t3)⟩
    · go_wp2_with fail
      go_ret
      exact ⟨by rw [HD.out, k1, k4.out, k2, k3]; rfl, tV.then (t12.then t3)⟩
  · have e4 : (x.result == y.result) = false := by simp [h4]
    have k4 := Lib.hid (decide_eq_false h4)
    clear h4
    go_wp2_with fail
    go_ret
    exact ⟨by rw [HD.out, k1, k4.out]; rfl, tV.then t1⟩
set_option maxRecDepth 100000 in
set_option maxHeartbeats 4000000 in
theorem im_ef_imp (w : World) (v0 v1 : Value) (a b : List Imp) (h0 : RImps w [] v0 a) (h1 : RImps w [] v1 b) (hm0 : a.length ≤ 9223372036854775807) (hm1 : b.length ≤ 9223372036854775807) (za : ∀ x ∈ a, x.params.length ≤ 9223372036854775807) (zb : ∀ x ∈ b, x.params.length ≤ 9223372036854775807) :
    Calls Tryz.prog 49 #[v0, v1, .func (.func 50) #[] #[]] w fun e w' => e = .returned (.bool (decide (a = b))) ∧ Tch [] w w' := by
  obtain ⟨a0, c0, rfl⟩ := RImps.form h0
  obtain ⟨a1, c1, rfl⟩ := RImps.form h1
  by_cases hl : a.length = b.length
  · have hat := fun (W : World) (t : Tch [] w W) k (hk : k < a.length) => RImps.at (h0.tch t (by simp)) hk
    have hbt := fun (W : World) (t : Tch [] w W) k (hk : k < b.length) => RImps.at (h1.tch t (by simp)) hk
    clear h0 h1
    rw [← hl]
    have HL := Lib.hid hl
    clear hl
    go_enter Tryz.func49, Tryz.ntmps49
    go_wp2_with fail
    go_loopw [17] (fun i wz => ∃ k : Nat, k ≤ a.length ∧ i = .int .i64 k ∧ a.take k = b.take k ∧ Tch [] w wz) (fun i _ => a.length - (intOf i).toNat)
    case atStart => exact ⟨0, by omega, rfl, by simp, Tch.refl _ _⟩
    case round =>
      obtain ⟨k, hk1, rfl, htk, ht⟩ := hrel
      have hl := HL.out
      by_cases hk : k < a.length
      · have hk' : k < b.length := by omega
        have zx := za a[k] (List.getElem_mem hk)
        have zy := zb b[k] (List.getElem_mem hk')
        obtain ⟨ad0, vp0, rfl, _, ip0, hc0⟩ := hat wr ht k hk
        obtain ⟨ao1, hao1⟩ : ∃ ao1, ao1 = a1 := ⟨_, rfl⟩
        have hb1 := fun W t => hbt W t k hk'
        have hak : a.take (k + 1) = a.take k ++ [a[k]] := (List.take_append_getElem hk).symm
        have hbk : b.take (k + 1) = b.take k ++ [b[k]] := (List.take_append_getElem hk').symm
        have hne : a[k] ≠ b[k] → a ≠ b := fun h e => h (by simp [e])
        generalize a[k] = x at *
        generalize b[k] = y at *
        have HT := Lib.hid htk; clear htk hat hbt hl hao1 ao1
        unfold str at hc0
        obtain ⟨ad1, hea1⟩ : ∃ ad1, a1 = some ad1 := by
          obtain ⟨ad1, vp1, e1, _, ip1, hc1⟩ := hb1 wr ht
          exact ⟨_, e1⟩
        subst hea1
        obtain ⟨ap0, cp0, rfl⟩ := Src.form ip0
        go_upto_region 6 with (first | (refine wpList_load_agg rfl 51 (.tmp 20) rfl (ad0.add (k * 4)) rfl #[.string ⟨x.name.toArray⟩, .int .i64 x.exp, .slice ap0 x.params.length cp0, .int .i64 x.result] _ hc0 Tryz.underlying51 rfl (by kernel_rfl) ?_) | fail)
        obtain ⟨V1, hV1⟩ : ∃ V1, V1 = wr.alloc (.cells #[.string ⟨x.name.toArray⟩, .int .i64 x.exp, .slice ap0 x.params.length cp0, .int .i64 x.result] 51) := ⟨_, rfl⟩
        have t1 : Tch [] wr V1 := by rw [hV1]; exact (Tch.refl [] wr).alloc _
        have hX1 : ∀ (j : Nat) u, (#[.string ⟨x.name.toArray⟩, .int .i64 x.exp, .slice ap0 x.params.length cp0, .int .i64 x.result] : Array Value).toList[j]? = some u → V1.cell? ((⟨wr.heap.size, 0, none⟩ : Addr).add j) = some u := by rw [hV1]; exact new_cells wr _ _
        rw [← hV1]
        clear hV1
        obtain ⟨ad1b, vp1, e1b, _, ip1, hc1⟩ := hb1 V1 (ht.then t1)
        simp only [Option.some.injEq] at e1b
        subst e1b
        unfold str at hc1
        obtain ⟨ap1, cp1, rfl⟩ := Src.form ip1
        clear hb1
        go_upto_region 7 with (first | (refine wpList_load_agg rfl 51 (.tmp 24) rfl (ad1.add (k * 4)) rfl #[.string ⟨y.name.toArray⟩, .int .i64 y.exp, .slice ap1 y.params.length cp1, .int .i64 y.result] _ hc1 Tryz.underlying51 rfl (by kernel_rfl) ?_) | fail)
        obtain ⟨V2, hV2⟩ : ∃ V2, V2 = V1.alloc (.cells #[.string ⟨y.name.toArray⟩, .int .i64 y.exp, .slice ap1 y.params.length cp1, .int .i64 y.result] 51) := ⟨_, rfl⟩
        have t2 : Tch [] V1 V2 := by rw [hV2]; exact (Tch.refl [] V1).alloc _
        have hX2 : ∀ (j : Nat) u, (#[.string ⟨y.name.toArray⟩, .int .i64 y.exp, .slice ap1 y.params.length cp1, .int .i64 y.result] : Array Value).toList[j]? = some u → V2.cell? ((⟨V1.heap.size, 0, none⟩ : Addr).add j) = some u := by rw [hV2]; exact new_cells V1 _ _
        have hX12 : ∀ (j : Nat) u, (#[.string ⟨x.name.toArray⟩, .int .i64 x.exp, .slice ap0 x.params.length cp0, .int .i64 x.result] : Array Value).toList[j]? = some u → V2.cell? ((⟨wr.heap.size, 0, none⟩ : Addr).add j) = some u := fun j u hj => by
          have h := hX1 j u hj
          rw [t2.cell (cell_lt h) (by simp)]; exact h
        rw [← hV2]
        clear hV2 hX1 hc0 hc1
        have tt := t1.then t2
        have hS := im_sameImport V2 x y _ _ (RInts.tch ip0 tt (by simp)) (RInts.tch ip1 t2 (by simp)) zx zy
        cases hd : decide (x = y)
        · have hf : decide (a = b) = false := decide_eq_false (hne (of_decide_eq_false hd))
          rw [hd] at hS
          have HF := Lib.hid hf; clear hf hd hne
          go_wp2_with (first | (refine wpList_load_agg rfl 51 (.tmp 8) rfl ⟨wr.heap.size, 0, none⟩ rfl #[.string ⟨x.name.toArray⟩, .int .i64 x.exp, .slice ap0 x.params.length cp0, .int .i64 x.result] _ hX12 Tryz.underlying51 rfl (by kernel_rfl) ?_) | (refine wpList_load_agg rfl 51 (.tmp 9) rfl ⟨V1.heap.size, 0, none⟩ rfl #[.string ⟨y.name.toArray⟩, .int .i64 y.exp, .slice ap1 y.params.length cp1, .int .i64 y.result] _ hX2 Tryz.underlying51 rfl (by kernel_rfl) ?_) | fail)
          refine hS.mono ?_
          rintro e w3 ⟨rfl, t3⟩
          go_wp2_with fail
          (first | go_ret | go_ret2 | go_end0)
          exact ⟨by rw [HF.out]; rfl, ht.then (tt.then t3)⟩
        · have hxy := of_decide_eq_true hd
          rw [hd] at hS
          have HX := Lib.hid hxy; clear hxy hd hne
          go_wp2_with (first | (refine wpList_load_agg rfl 51 (.tmp 8) rfl ⟨wr.heap.size, 0, none⟩ rfl #[.string ⟨x.name.toArray⟩, .int .i64 x.exp, .slice ap0 x.params.length cp0, .int .i64 x.result] _ hX12 Tryz.underlying51 rfl (by kernel_rfl) ?_) | (refine wpList_load_agg rfl 51 (.tmp 9) rfl ⟨V1.heap.size, 0, none⟩ rfl #[.string ⟨y.name.toArray⟩, .int .i64 y.exp, .slice ap1 y.params.length cp1, .int .i64 y.result] _ hX2 Tryz.underlying51 rfl (by kernel_rfl) ?_) | fail)
          refine hS.mono ?_
          rintro e w3 ⟨rfl, t3⟩
          go_wp2_with fail
          go_roundw
          case rel => exact ⟨k + 1, by omega, by go_num, by rw [hak, hbk, HT.out, HX.out], ht.then (tt.then t3)⟩
          case measure => simp [intOf]; omega
      · have he : a = b := by
          have e1 : a.take k = a := List.take_of_length_le (by omega)
          have e2 : b.take k = b := List.take_of_length_le (by omega)
          rw [← e1, htk, e2]
        have HE := Lib.hid he; clear he
        clear hat hbt htk hl
        go_wp2_with fail
        (first | go_ret | go_ret2 | go_end0)
        exact ⟨by rw [decide_eq_true HE.out]; rfl, ht⟩
  · have hd : decide (a = b) = false := decide_eq_false (fun e => hl (by rw [e]))
    rw [hd]
    have hb : (((a.length : Int)) != ((b.length : Int))) = true := by simp; omega
    go_enter Tryz.func49, Tryz.ntmps49
    go_wp2_with fail
    (first | go_ret | go_ret2 | go_end0)
    exact ⟨rfl, Tch.refl _ _⟩
set_option maxRecDepth 100000 in
set_option maxHeartbeats 4000000 in
theorem im_ef_mth (w : World) (v0 v1 : Value) (a b : List Mth) (h0 : RMths w [] v0 a) (h1 : RMths w [] v1 b) (hm0 : a.length ≤ 9223372036854775807) (hm1 : b.length ≤ 9223372036854775807) (za : ∀ x ∈ a, MthZ x) (zb : ∀ x ∈ b, MthZ x) :
    Calls Tryz.prog 51 #[v0, v1, .func (.func 52) #[] #[]] w fun e w' => e = .returned (.bool (decide (a = b))) ∧ Tch [] w w' := by
  obtain ⟨a0, c0, rfl⟩ := RMths.form h0
  obtain ⟨a1, c1, rfl⟩ := RMths.form h1
  by_cases hl : a.length = b.length
  · have hat := fun (W : World) (t : Tch [] w W) k (hk : k < a.length) => RMths.at (h0.tch t (by simp)) hk
    have hbt := fun (W : World) (t : Tch [] w W) k (hk : k < b.length) => RMths.at (h1.tch t (by simp)) hk
    clear h0 h1
    rw [← hl]
    have HL := Lib.hid hl
    clear hl
    go_enter Tryz.func51, Tryz.ntmps51
    go_wp2_with fail
    go_loopw [17] (fun i wz => ∃ k : Nat, k ≤ a.length ∧ i = .int .i64 k ∧ a.take k = b.take k ∧ Tch [] w wz) (fun i _ => a.length - (intOf i).toNat)
    case atStart => exact ⟨0, by omega, rfl, by simp, Tch.refl _ _⟩
    case round =>
      obtain ⟨k, hk1, rfl, htk, ht⟩ := hrel
      have hl := HL.out
      by_cases hk : k < a.length
      · have hk' : k < b.length := by omega
        have zx := za a[k] (List.getElem_mem hk)
        have zy := zb b[k] (List.getElem_mem hk')
        obtain ⟨ad0, vp0, vl0, vc0, rfl, _, ip0, il0, ic0, hc0⟩ := hat wr ht k hk
        obtain ⟨ao1, hao1⟩ : ∃ ao1, ao1 = a1 := ⟨_, rfl⟩
        have hb1 := fun W t => hbt W t k hk'
        have hak : a.take (k + 1) = a.take k ++ [a[k]] := (List.take_append_getElem hk).symm
        have hbk : b.take (k + 1) = b.take k ++ [b[k]] := (List.take_append_getElem hk').symm
        have hne : a[k] ≠ b[k] → a ≠ b := fun h e => h (by simp [e])
        generalize a[k] = x at *
        generalize b[k] = y at *
        have HT := Lib.hid htk; clear htk hat hbt hl hao1 ao1
        skip
        obtain ⟨ad1, hea1⟩ : ∃ ad1, a1 = some ad1 := by
          obtain ⟨ad1, vp1, vl1, vc1, e1, _, ip1, il1, ic1, hc1⟩ := hb1 wr ht
          exact ⟨_, e1⟩
        subst hea1
        obtain ⟨ap0, cp0, rfl⟩ := Src.form ip0
        obtain ⟨al0, cl0, rfl⟩ := Src.form il0
        obtain ⟨ac0, cc0, rfl⟩ := RCode.form ic0
        go_upto_region 6 with (first | (refine wpList_load_agg rfl 55 (.tmp 20) rfl (ad0.add (k * 4)) rfl #[.slice ap0 x.params.length cp0, .int .i64 x.result, .slice al0 x.locals.length cl0, .slice ac0 x.code.length cc0] _ hc0 Tryz.underlying55 rfl (by kernel_rfl) ?_) | fail)
        obtain ⟨V1, hV1⟩ : ∃ V1, V1 = wr.alloc (.cells #[.slice ap0 x.params.length cp0, .int .i64 x.result, .slice al0 x.locals.length cl0, .slice ac0 x.code.length cc0] 55) := ⟨_, rfl⟩
        have t1 : Tch [] wr V1 := by rw [hV1]; exact (Tch.refl [] wr).alloc _
        have hX1 : ∀ (j : Nat) u, (#[.slice ap0 x.params.length cp0, .int .i64 x.result, .slice al0 x.locals.length cl0, .slice ac0 x.code.length cc0] : Array Value).toList[j]? = some u → V1.cell? ((⟨wr.heap.size, 0, none⟩ : Addr).add j) = some u := by rw [hV1]; exact new_cells wr _ _
        rw [← hV1]
        clear hV1
        obtain ⟨ad1b, vp1, vl1, vc1, e1b, _, ip1, il1, ic1, hc1⟩ := hb1 V1 (ht.then t1)
        simp only [Option.some.injEq] at e1b
        subst e1b
        skip
        obtain ⟨ap1, cp1, rfl⟩ := Src.form ip1
        obtain ⟨al1, cl1, rfl⟩ := Src.form il1
        obtain ⟨ac1, cc1, rfl⟩ := RCode.form ic1
        clear hb1
        go_upto_region 7 with (first | (refine wpList_load_agg rfl 55 (.tmp 24) rfl (ad1.add (k * 4)) rfl #[.slice ap1 y.params.length cp1, .int .i64 y.result, .slice al1 y.locals.length cl1, .slice ac1 y.code.length cc1] _ hc1 Tryz.underlying55 rfl (by kernel_rfl) ?_) | fail)
        obtain ⟨V2, hV2⟩ : ∃ V2, V2 = V1.alloc (.cells #[.slice ap1 y.params.length cp1, .int .i64 y.result, .slice al1 y.locals.length cl1, .slice ac1 y.code.length cc1] 55) := ⟨_, rfl⟩
        have t2 : Tch [] V1 V2 := by rw [hV2]; exact (Tch.refl [] V1).alloc _
        have hX2 : ∀ (j : Nat) u, (#[.slice ap1 y.params.length cp1, .int .i64 y.result, .slice al1 y.locals.length cl1, .slice ac1 y.code.length cc1] : Array Value).toList[j]? = some u → V2.cell? ((⟨V1.heap.size, 0, none⟩ : Addr).add j) = some u := by rw [hV2]; exact new_cells V1 _ _
        have hX12 : ∀ (j : Nat) u, (#[.slice ap0 x.params.length cp0, .int .i64 x.result, .slice al0 x.locals.length cl0, .slice ac0 x.code.length cc0] : Array Value).toList[j]? = some u → V2.cell? ((⟨wr.heap.size, 0, none⟩ : Addr).add j) = some u := fun j u hj => by
          have h := hX1 j u hj
          rw [t2.cell (cell_lt h) (by simp)]; exact h
        rw [← hV2]
        clear hV2 hX1 hc0 hc1
        have tt := t1.then t2
        have hS := im_sameMethod V2 x y _ _ _ _ _ _ (RInts.tch ip0 tt (by simp)) (RInts.tch ip1 t2 (by simp)) (RInts.tch il0 tt (by simp)) (RInts.tch il1 t2 (by simp)) (RCode.tch ic0 tt (by simp)) (RCode.tch ic1 t2 (by simp)) zx zy
        cases hd : decide (x = y)
        · have hf : decide (a = b) = false := decide_eq_false (hne (of_decide_eq_false hd))
          rw [hd] at hS
          have HF := Lib.hid hf; clear hf hd hne
          go_wp2_with (first | (refine wpList_load_agg rfl 55 (.tmp 8) rfl ⟨wr.heap.size, 0, none⟩ rfl #[.slice ap0 x.params.length cp0, .int .i64 x.result, .slice al0 x.locals.length cl0, .slice ac0 x.code.length cc0] _ hX12 Tryz.underlying55 rfl (by kernel_rfl) ?_) | (refine wpList_load_agg rfl 55 (.tmp 9) rfl ⟨V1.heap.size, 0, none⟩ rfl #[.slice ap1 y.params.length cp1, .int .i64 y.result, .slice al1 y.locals.length cl1, .slice ac1 y.code.length cc1] _ hX2 Tryz.underlying55 rfl (by kernel_rfl) ?_) | fail)
          refine hS.mono ?_
          rintro e w3 ⟨rfl, t3⟩
          go_wp2_with fail
          (first | go_ret | go_ret2 | go_end0)
          exact ⟨by rw [HF.out]; rfl, ht.then (tt.then t3)⟩
        · have hxy := of_decide_eq_true hd
          rw [hd] at hS
          have HX := Lib.hid hxy; clear hxy hd hne
          go_wp2_with (first | (refine wpList_load_agg rfl 55 (.tmp 8) rfl ⟨wr.heap.size, 0, none⟩ rfl #[.slice ap0 x.params.length cp0, .int .i64 x.result, .slice al0 x.locals.length cl0, .slice ac0 x.code.length cc0] _ hX12 Tryz.underlying55 rfl (by kernel_rfl) ?_) | (refine wpList_load_agg rfl 55 (.tmp 9) rfl ⟨V1.heap.size, 0, none⟩ rfl #[.slice ap1 y.params.length cp1, .int .i64 y.result, .slice al1 y.locals.length cl1, .slice ac1 y.code.length cc1] _ hX2 Tryz.underlying55 rfl (by kernel_rfl) ?_) | fail)
          refine hS.mono ?_
          rintro e w3 ⟨rfl, t3⟩
          go_wp2_with fail
          go_roundw
          case rel => exact ⟨k + 1, by omega, by go_num, by rw [hak, hbk, HT.out, HX.out], ht.then (tt.then t3)⟩
          case measure => simp [intOf]; omega
      · have he : a = b := by
          have e1 : a.take k = a := List.take_of_length_le (by omega)
          have e2 : b.take k = b := List.take_of_length_le (by omega)
          rw [← e1, htk, e2]
        have HE := Lib.hid he; clear he
        clear hat hbt htk hl
        go_wp2_with fail
        (first | go_ret | go_ret2 | go_end0)
        exact ⟨by rw [decide_eq_true HE.out]; rfl, ht⟩
  · have hd : decide (a = b) = false := decide_eq_false (fun e => hl (by rw [e]))
    rw [hd]
    have hb : (((a.length : Int)) != ((b.length : Int))) = true := by simp; omega
    go_enter Tryz.func51, Tryz.ntmps51
    go_wp2_with fail
    (first | go_ret | go_ret2 | go_end0)
    exact ⟨rfl, Tch.refl _ _⟩
set_option maxRecDepth 100000 in
set_option maxHeartbeats 8000000 in
theorem im_Same (w : World) (x y : Img) (fx ix mx ex fy iy my ey : Value) (hfx : RInts w [] fx x.fields) (hix : RImps w [] ix x.imports) (hmx : RMths w [] mx x.methods) (hex : RInts w [] ex x.exports) (hfy : RInts w [] fy y.fields) (hiy : RImps w [] iy y.imports) (hmy : RMths w [] my y.methods) (hey : RInts w [] ey y.exports) (zx : ImgZ x) (zy : ImgZ y) :
    Calls Tryz.prog 21 #[.agg #[.string ⟨x.name.toArray⟩, fx, ix, mx, ex], .agg #[.string ⟨y.name.toArray⟩, fy, iy, my, ey]] w fun e w' => e = .returned (.bool (decide (x = y))) ∧ Tch [] w w' := by
  have hdec := decG x y
  obtain ⟨z1, z2, z3, z4, z5, z6⟩ := zx
  obtain ⟨y1, y2, y3, y4, y5, y6⟩ := zy
  obtain ⟨V, hVd⟩ : ∃ V, V = (w.alloc (.cells #[.string ⟨x.name.toArray⟩, fx, ix, mx, ex] 30)).alloc (.cells #[.string ⟨y.name.toArray⟩, fy, iy, my, ey] 30) := ⟨_, rfl⟩
  have tV : Tch [] w V := by rw [hVd]; exact ((Tch.refl [] w).alloc _).alloc _
  have hB1 : ∀ W, Tch [] V W → B5 W w.heap.size (.string ⟨x.name.toArray⟩) fx ix mx ex := fun W t => by
    refine B5.tch ?_ t
    rw [hVd]; exact (B5.new w _ _ _ _ _ _).tch ((Tch.refl [] _).alloc _)
  have hB2 : ∀ W, Tch [] V W → B5 W (w.heap.size + 1) (.string ⟨y.name.toArray⟩) fy iy my ey := fun W t => by
    refine B5.tch ?_ t
    rw [hVd]
    have := B5.new (w.alloc (.cells #[.string ⟨x.name.toArray⟩, fx, ix, mx, ex] 30)) (.string ⟨y.name.toArray⟩) fy iy my ey 30
    simpa using this
  have hE1 := fun W (t : Tch [] V W) => im_eqint W fx fy x.fields y.fields (hfx.tch (tV.then t) (by simp)) (hfy.tch (tV.then t) (by simp)) z1 y1
  have hE2 := fun W (t : Tch [] V W) => im_ef_imp W ix iy x.imports y.imports (hix.tch (tV.then t) (by simp)) (hiy.tch (tV.then t) (by simp)) z2 y2 z3 y3
  have hE3 := fun W (t : Tch [] V W) => im_ef_mth W mx my x.methods y.methods (hmx.tch (tV.then t) (by simp)) (hmy.tch (tV.then t) (by simp)) z4 y4 z5 y5
  have hE4 := fun W (t : Tch [] V W) => im_eqint W ex ey x.exports y.exports (hex.tch (tV.then t) (by simp)) (hey.tch (tV.then t) (by simp)) z6 y6
  clear hfx hix hmx hex hfy hiy hmy hey
  go_enter Tryz.func21, Tryz.ntmps21
  go_upto_region 1 with fail
  rw [← hVd]
  clear hVd
  have HD := Lib.hid hdec; clear hdec
  obtain ⟨b0, b1, b2, b3, b4⟩ := hB1 V (Tch.refl _ _)
  obtain ⟨d0, d1, d2, d3, d4⟩ := hB2 V (Tch.refl _ _)
  by_cases h1 : x.name = y.name
  · have e1 : (x.name == y.name) = true := by simp [h1]
    have k1 := Lib.hid (decide_eq_true h1)
    clear h1
    go_wp2_with fail
    refine (hE1 V (Tch.refl _ _)).mono ?_
    rintro e w1 ⟨rfl, t1⟩
    clear b0 b1 b2 b3 b4 d0 d1 d2 d3 d4
    obtain ⟨b0, b1, b2, b3, b4⟩ := hB1 w1 t1
    obtain ⟨d0, d1, d2, d3, d4⟩ := hB2 w1 t1
    cases k2 : decide (x.fields = y.fields)
    · go_wp2_with fail
      go_ret
      exact ⟨by rw [HD.out, k1.out, k2]; rfl, tV.then t1⟩
    go_wp2_with fail
    refine (hE2 w1 t1).mono ?_
    rintro e w2 ⟨rfl, t2⟩
    have t12 := t1.then t2
    clear b0 b1 b2 b3 b4 d0 d1 d2 d3 d4 t2
    obtain ⟨b0, b1, b2, b3, b4⟩ := hB1 w2 t12
    obtain ⟨d0, d1, d2, d3, d4⟩ := hB2 w2 t12
    cases k3 : decide (x.imports = y.imports)
    · go_wp2_with fail
      go_ret
      exact ⟨by rw [HD.out, k1.out, k2, k3]; rfl, tV.then t12⟩
    go_wp2_with fail
    refine (hE3 w2 t12).mono ?_
    rintro e w3 ⟨rfl, t3⟩
    have t13 := t12.then t3
    clear b0 b1 b2 b3 b4 d0 d1 d2 d3 d4 t3
    obtain ⟨b0, b1, b2, b3, b4⟩ := hB1 w3 t13
    obtain ⟨d0, d1, d2, d3, d4⟩ := hB2 w3 t13
    cases k4 : decide (x.methods = y.methods)
    · go_wp2_with fail
      go_ret
      exact ⟨by rw [HD.out, k1.out, k2, k3, k4]; rfl, tV.then t13⟩
    go_wp2_with fail
    refine (hE4 w3 t13).mono ?_
    rintro e w4 ⟨rfl, t4⟩
    cases k5 : decide (x.exports = y.exports)
    · go_wp2_with fail
      go_ret
      exact ⟨by rw [HD.out, k1.out, k2, k3, k4, k5]; rfl, tV.then (t13.then t4)⟩
    · go_wp2_with fail
      go_ret
      exact ⟨by rw [HD.out, k1.out, k2, k3, k4, k5]; rfl, tV.then (t13.then t4)⟩
  · have e1 : (x.name == y.name) = false := by simp [h1]
    have k1 := Lib.hid (decide_eq_false h1)
    clear h1
    go_wp2_with fail
    go_ret
    exact ⟨by rw [HD.out, k1.out]; rfl, tV⟩
end Go.Proofs.YteebapopeaafhaaGreatDoor
