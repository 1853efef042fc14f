/-
  STATEMENT: CodeLays: which instructions may be, and their bytes, are as the document says: the walk. Conditions: none.
-/
import Derived.Test.YtkhoipeblakgiaaKn3
import Derived.Deep.RegionWith
import Derived.Deep.RegionLaw
namespace Go.Proofs.Ytkhoipeblakgiaa
open Go.RowKit Go.Tcn
set_option linter.unusedVariables false
set_option linter.unusedSimpArgs false

/-- What is held of the law's three things: the instruction at g, the writer at p, the reference's at q. -/
structure LaysJ (W : World) (g p r q r2 : Nat) (op a b : Int) (l m : List Int) (w : World) : Prop where
  i : By w g (.int .i64 op) (.int .i64 a) (.int .i64 b)
  x : Wr w 63 5 p r l
  y : Wr w 33 5 q r2 m
  d : g ≠ p ∧ g ≠ r ∧ g ≠ q ∧ g ≠ r2 ∧ p ≠ q ∧ p ≠ r2 ∧ r ≠ q ∧ r ≠ r2
  n : W.heap.size ≤ g ∧ W.heap.size ≤ p ∧ W.heap.size ≤ r ∧ W.heap.size ≤ q ∧ W.heap.size ≤ r2
  t : Tch [] W w
theorem LaysJ.tch {W w w' : World} {g p r q r2 : Nat} {op a b : Int} {l m : List Int} (h : LaysJ W g p r q r2 op a b l m w) (t : Tch [] w w') : LaysJ W g p r q r2 op a b l m w' :=
  ⟨h.i.tch t (by simp), h.x.tch t (by simp) (by simp), h.y.tch t (by simp) (by simp), h.d, h.n, h.t.then t⟩
theorem LaysJ.putX {W w w' : World} {g p r q r2 : Nat} {op a b : Int} {l m l' : List Int} (h : LaysJ W g p r q r2 op a b l m w) (k : WrTo 63 5 p r l' w w') : ∃ r', LaysJ W g p r' q r2 op a b l' m w' := by
  obtain ⟨r', hw, hr, ht⟩ := k
  obtain ⟨d1, d2, d3, d4, d5, d6, d7, d8⟩ := h.d
  obtain ⟨n1, n2, n3, n4, n5⟩ := h.n
  have z := h.t.size
  have lg := h.i.lt
  have lq := h.y.lt
  have lr2 := h.y.row_lt
  refine ⟨r', h.i.tch ht (by simp; omega), hw, h.y.tch ht (by simp; omega) (by simp; omega), ⟨d1, by omega, d3, d4, d5, d6, by omega, by omega⟩, ⟨n1, n2, by omega, n4, n5⟩, h.t.trans ht (by simp) (by intro i hi hx; simp at hx; omega)⟩
theorem LaysJ.putY {W w w' : World} {g p r q r2 : Nat} {op a b : Int} {l m m' : List Int} (h : LaysJ W g p r q r2 op a b l m w) (k : WrTo 33 5 q r2 m' w w') : ∃ r2', LaysJ W g p r q r2' op a b l m' w' := by
  obtain ⟨r', hw, hr, ht⟩ := k
  obtain ⟨d1, d2, d3, d4, d5, d6, d7, d8⟩ := h.d
  obtain ⟨n1, n2, n3, n4, n5⟩ := h.n
  have z := h.t.size
  have lg := h.i.lt
  have lp := h.x.lt
  have lr := h.x.row_lt
  refine ⟨r', h.i.tch ht (by simp; omega), h.x.tch ht (by simp; omega) (by simp; omega), hw, ⟨d1, d2, d3, by omega, d5, by omega, d7, by omega⟩, ⟨n1, n2, n3, n4, by omega⟩, h.t.trans ht (by simp) (by intro i hi hx; simp at hx; omega)⟩
set_option maxRecDepth 100000 in
set_option maxHeartbeats 8000000 in
theorem codeLays_walk (W : World) (o a b c : Int) (ho : I6 o) (ha : I6 a) (hb : I6 b) (hc : I6 c) :
    Calls Try.prog 3 #[.agg #[.int .i64 o, .int .i64 a, .int .i64 b, .int .i64 c]] W fun e w' => e = .returned (.bool true) ∧ Tch [] W w' := by
  have hstr := fun wx L v l h => run_str (P := Try.prog) 31 5 9 Try.underlying31 Try.underlying5 Try.underlying9 (w := wx) (L := L) (v := v) (l := l) h
  go_enter Try.func3, Try.ntmps3
  go_wp2_with fail
  have t0 : Tch [] W (W.alloc (.cells #[.int .i64 o, .int .i64 a, .int .i64 b, .int .i64 c] 23)) := (Tch.refl [] W).alloc _
  refine (law3_instr _ o a b c ho ha hb hc).mono ?_
  rintro e w1 ⟨op, x, y, rfl, hop, hx, hy, t1⟩
  clear ho ha hb hc
  obtain ⟨V, hV⟩ : ∃ V, V = w1.alloc (.cells #[.int .i64 op, .int .i64 x, .int .i64 y] 25) := ⟨_, rfl⟩
  have tV : Tch [] w1 V := by rw [hV]; exact (Tch.refl [] w1).alloc _
  have hi : By V w1.heap.size (.int .i64 op) (.int .i64 x) (.int .i64 y) := by rw [hV]; exact By.new _ _ _ _ _
  have tWV := (t0.then t1).then tV
  have z1 := (t0.then t1).size
  go_upto_region 2 with fail
  rw [← hV]
  clear hV tV t0 t1
  generalize w1.heap.size = g at *
  go_wp2_with fail
  refine (oct_new _).mono ?_
  rintro e w2 ⟨rfl, rfl⟩
  have h2 := Wr.new V 63 5
  have t2 : Tch [] V (V.alloc (.cells #[.slice none 0 0] 63)) := (Tch.refl [] V).alloc _
  have hi2 := hi.tch t2 (by simp)
  have lg := hi.lt
  have tV2 := tWV.then t2
  go_wp2_with fail
  refine (known3 _).mono ?_
  rintro e w3 ⟨rfl, t3⟩
  have h3 := h2.tch t3 (by simp) (by simp)
  have hi3 := hi2.tch t3 (by simp)
  have tV3 := tV2.then t3
  obtain ⟨U, hU⟩ : ∃ U, U = w3.alloc (.cells #[.slice none 0 0] 33) := ⟨_, rfl⟩
  have tU : Tch [] w3 U := by rw [hU]; exact (Tch.refl [] w3).alloc _
  have hy4 : Wr U 33 5 w3.heap.size w3.heap.size [] := by rw [hU]; exact Wr.new w3 33 5
  have z3 := (t2.then t3).size
  have lV := h3.lt
  have J : LaysJ W g V.heap.size V.heap.size w3.heap.size w3.heap.size op x y [] [] U :=
    ⟨hi3.tch tU (by simp), h3.tch tU (by simp) (by simp), hy4, by omega, by have := tWV.size; omega, tV3.then tU⟩
  have hR1 := fun w => ref_Right op x y w
  go_upto_region 7 with fail
  rw [← hU]
  clear hU tU hy4 h3 hi3 hi2 h2 t2 t3 hi tV2 tV3 tWV z3 lV lg z1
  generalize V.heap.size = p at *
  generalize w3.heap.size = q at *
  have c0 := J.i.c0
  have c1 := J.i.c1
  have c2 := J.i.c2
  cases hr : rightI op x y
  · rw [hr] at hR1
    go_wp2_with fail
    refine (hR1 _).mono ?_
    rintro e w4 ⟨rfl, t4⟩
    have J4 := J.tch t4
    obtain ⟨r, hrp⟩ : ∃ r, r = p := ⟨_, rfl⟩
    have J4 : LaysJ W g p r q q op x y [] [] w4 := by rw [hrp]; exact J4
    clear hrp J c0 c1 c2 t4
    obtain ⟨v2, hv2, ho2, hrow2, hne2⟩ := J4.y.ex
    clear hrow2
    obtain ⟨d1, d2, d3, d4, d5, d6, d7, d8⟩ := J4.d
    have F0 : ∀ wx, Tch [p, r] w4 wx → wx.cell? ⟨g, 0, none⟩ = some (.int .i64 op) := fun wx tx => (J4.i.tch tx (by simp; omega)).c0
    have F1 : ∀ wx, Tch [p, r] w4 wx → wx.cell? ⟨g, 1, none⟩ = some (.int .i64 x) := fun wx tx => (J4.i.tch tx (by simp; omega)).c1
    have F2 : ∀ wx, Tch [p, r] w4 wx → wx.cell? ⟨g, 2, none⟩ = some (.int .i64 y) := fun wx tx => (J4.i.tch tx (by simp; omega)).c2
    have cq : w4.cell? ⟨q, 0, none⟩ = some v2 := by simp [World.cell?, hv2]
    have F3 : ∀ wx, Tch [p, r] w4 wx → wx.cell? ⟨q, 0, none⟩ = some v2 := fun wx tx => by rw [tx.cell (cell_lt cq) (by simp; omega)]; exact cq
    have hrow := J4.y.ex
    have hb2 : ∀ k, v2.ownBlock = some k → k ∉ [p, r] := fun k hk => by
      obtain ⟨v3, hv3, _, hr3, _⟩ := hrow
      rw [hv2] at hv3
      simp only [Option.some.injEq, Obj.cells.injEq, Array.mk.injEq, List.cons.injEq, and_true] at hv3
      subst hv3
      rw [hk] at hr3
      simp at hr3
      simp; omega
    have F4 : ∀ wx, Tch [p, r] w4 wx → (convert 31 9 v2).run Try.prog wx = .ok (.string (strOfNums [])) wx := fun wx tx => hstr wx [] v2 [] (src_of_owns (ownsRow_tch ho2 tx hb2) [] (by simp))
    have TT : Tch [p, r] w4 w4.drew := (Tch.refl _ w4).drew
    have HX : Wr w4.drew 63 5 p r [] := J4.x.tch ((Tch.refl [] w4).drew) (by simp) (by simp)
    have tW4 := J4.t
    have hnW := J4.n
    have hR2 := fun w => code_Right op x y w hy
    rw [hr] at hR2
    have HH := Lib.hid hrow; clear hrow hv2 ho2 hne2 hb2 cq J4
    go_upto_region 10 with fail
    go_region_with (first | (go_at_call 14; refine (hR2 _).mono ?_; rintro e w5 ⟨rfl, t5⟩; have TT2 := TT.trans t5 (M := [p, r]) (fun _ _ h => h) (by simp); have HX2 := HX.tch t5 (by simp) (by simp); clear TT HX t5; have TT := TT2; have HX := HX2; clear TT2 HX2) | (go_at_call 12; refine (hR1 _).mono ?_; rintro e w5 ⟨rfl, t5⟩; have TT2 := TT.trans t5 (M := [p, r]) (fun _ _ h => h) (by simp); have HX2 := HX.tch t5 (by simp) (by simp); clear TT HX t5; have TT := TT2; have HX := HX2; clear TT2 HX2) | (go_at_call 15; refine (code_Lay_no _ p op x y hy hr).mono ?_; rintro e w5 ⟨rfl, t5⟩; have TT2 := TT.trans t5 (M := [p, r]) (fun _ _ h => h) (by simp); have HX2 := HX.tch t5 (by simp) (by simp); clear TT HX t5; have TT := TT2; have HX := HX2; clear TT2 HX2) | (go_at_call 16; refine (oct_BytesS _ p _ _ HX (by simp)).mono ?_; rintro e w7 ⟨ao, cap, rfl, s7, t7⟩; have hs7 := hstr w7 [] _ _ s7; simp only [List.length_nil] at hs7; have TT2 := TT.trans t7 (M := [p, r]) (fun _ _ h => h) (by simp); clear TT HX t7 s7; have TT := TT2; clear TT2))
    all_goals
      go_wp2_with fail
      go_ret
      exact ⟨rfl, tW4.trans TT (by simp) (by intro i hi hx; simp at hx; omega)⟩
  · rw [hr] at hR1
    go_wp2_with fail
    refine (hR1 _).mono ?_
    rintro e w3 ⟨rfl, t3⟩
    have J3 := J.tch t3
    have c0 := J3.i.c0
    have c1 := J3.i.c1
    have c2 := J3.i.c2
    go_wp2_with fail
    refine (ref_Lay _ q _ _ op x y hop hx hy J3.y (by simp)).mono ?_
    rintro e w4 ⟨rfl, h4⟩
    obtain ⟨r2, J4⟩ := J3.putY h4
    rw [List.nil_append] at J4
    obtain ⟨r, hrp⟩ : ∃ r, r = p := ⟨_, rfl⟩
    have J4 : LaysJ W g p r q r2 op x y [] (encI op x y) w4 := by rw [hrp]; exact J4
    have hel := encI_length op x y
    generalize hen : encI op x y = en at *
    have HEN := Lib.hid hen; clear hen
    clear hrp J J3 c0 c1 c2 t3 h4
    obtain ⟨v2, hv2, ho2, hrow2, hne2⟩ := J4.y.ex
    clear hrow2
    obtain ⟨d1, d2, d3, d4, d5, d6, d7, d8⟩ := J4.d
    have F0 : ∀ wx, Tch [p, r] w4 wx → wx.cell? ⟨g, 0, none⟩ = some (.int .i64 op) := fun wx tx => (J4.i.tch tx (by simp; omega)).c0
    have F1 : ∀ wx, Tch [p, r] w4 wx → wx.cell? ⟨g, 1, none⟩ = some (.int .i64 x) := fun wx tx => (J4.i.tch tx (by simp; omega)).c1
    have F2 : ∀ wx, Tch [p, r] w4 wx → wx.cell? ⟨g, 2, none⟩ = some (.int .i64 y) := fun wx tx => (J4.i.tch tx (by simp; omega)).c2
    have cq : w4.cell? ⟨q, 0, none⟩ = some v2 := by simp [World.cell?, hv2]
    have F3 : ∀ wx, Tch [p, r] w4 wx → wx.cell? ⟨q, 0, none⟩ = some v2 := fun wx tx => by rw [tx.cell (cell_lt cq) (by simp; omega)]; exact cq
    have hrow := J4.y.ex
    have hb2 : ∀ k, v2.ownBlock = some k → k ∉ [p, r] := fun k hk => by
      obtain ⟨v3, hv3, _, hr3, _⟩ := hrow
      rw [hv2] at hv3
      simp only [Option.some.injEq, Obj.cells.injEq, Array.mk.injEq, List.cons.injEq, and_true] at hv3
      subst hv3
      rw [hk] at hr3
      simp at hr3
      simp; omega
    have F4 : ∀ wx, Tch [p, r] w4 wx → (convert 31 9 v2).run Try.prog wx = .ok (.string (strOfNums en)) wx := fun wx tx => hstr wx [] v2 en (src_of_owns (ownsRow_tch ho2 tx hb2) [] (by simp))
    have TT : Tch [p, r] w4 w4.drew := (Tch.refl _ w4).drew
    have HX : Wr w4.drew 63 5 p r [] := J4.x.tch ((Tch.refl [] w4).drew) (by simp) (by simp)
    have tW4 := J4.t
    have hnW := J4.n
    have hR2 := fun w => code_Right op x y w hy
    rw [hr] at hR2
    have HH := Lib.hid hrow; clear hrow hv2 ho2 hne2 hb2 cq J4
    go_upto_region 10 with fail
    go_region_with (first | (go_at_call 14; refine (hR2 _).mono ?_; rintro e w5 ⟨rfl, t5⟩; have TT2 := TT.trans t5 (M := [p, r]) (fun _ _ h => h) (by simp); have HX2 := HX.tch t5 (by simp) (by simp); clear TT HX t5; have TT := TT2; have HX := HX2; clear TT2 HX2) | (go_at_call 12; refine (hR1 _).mono ?_; rintro e w5 ⟨rfl, t5⟩; have TT2 := TT.trans t5 (M := [p, r]) (fun _ _ h => h) (by simp); have HX2 := HX.tch t5 (by simp) (by simp); clear TT HX t5; have TT := TT2; have HX := HX2; clear TT2 HX2) | (go_at_call 15; refine (code_Lay _ p r [] op x y hop hx hy hr HX (by simp)).mono ?_; rintro e w5 ⟨rfl, r5, h5, hr5, t5⟩; rw [List.nil_append, HEN.out] at h5; have TT2 := TT.trans t5 (M := [p, r]) (fun _ _ h => h) (fun _ _ h => h); clear TT HX t5; have TT := TT2; have HX := h5; clear TT2 h5) | (go_at_call 16; refine (oct_BytesS _ p _ _ HX (by omega)).mono ?_; rintro e w7 ⟨ao, cap, rfl, s7, t7⟩; have hs7 := hstr w7 [] _ _ s7; have TT2 := TT.trans t7 (M := [p, r]) (fun _ _ h => h) (by simp); clear TT HX t7 s7; have TT := TT2; clear TT2))
    all_goals
      go_wp2_with fail
      go_ret
      exact ⟨rfl, tW4.trans TT (by simp) (by intro i hi hx; simp at hx; omega)⟩
end Go.Proofs.Ytkhoipeblakgiaa
