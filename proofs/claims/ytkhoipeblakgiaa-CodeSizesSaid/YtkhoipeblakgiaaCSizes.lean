/-
  STATEMENT: CodeSizes: an instruction has as many bytes as its operands ask, and is read in one piece from among others: the walk. Conditions: none.
-/
import Derived.Test.YtkhoipeblakgiaaCBackP
import Derived.Test.YtkhoipeblakgiaaRawOpen
import Derived.Test.YtkhoipeblakgiaaQui
namespace Go.Proofs.Ytkhoipeblakgiaa
open Go.RowKit Go.Tcn
set_option linter.unusedVariables false
set_option linter.unusedSimpArgs false

theorem info_ins : (Try.prog.info? 25).map (fun i => (i.zero, i.size, i.bytes)) = some (some (.agg #[.int .i64 0, .int .i64 0, .int .i64 0]), 3, 24) := by kernel_rfl
def encL (ks : List Ins) : List Int := ks.flatMap fun x => encI x.op x.a x.b
theorem encL_snoc (ks : List Ins) (x : Ins) : encL (ks ++ [x]) = encL ks ++ encI x.op x.a x.b := by simp [encL]
theorem encL_cons (ks : List Ins) (x : Ins) : encL (x :: ks) = encI x.op x.a x.b ++ encL ks := by simp [encL]
theorem encL_length (ks : List Ins) : (encL ks).length ≤ 5 * ks.length := by
  induction ks with
  | nil => simp [encL]
  | cons x ks ih => rw [encL_cons]; have := encI_length x.op x.a x.b; simp; omega
theorem encL_byt (ks : List Ins) : Byt (encL ks) := by
  induction ks with
  | nil => exact Byt.nil
  | cons x ks ih => rw [encL_cons]; exact (encI_byt _ _ _).append ih
theorem codeCells_snoc (ks : List Ins) (x : Ins) : codeCells (ks ++ [x]) = codeCells ks ++ [.int .i64 x.op, .int .i64 x.a, .int .i64 x.b] := by simp [codeCells, Ins.cells]
theorem codeCells_length (ks : List Ins) : (codeCells ks).length = ks.length * 3 := by
  induction ks with
  | nil => rfl
  | cons x ks ih => simp [codeCells, Ins.cells] at ih ⊢; omega
theorem codeCells_at (ks : List Ins) (k : Nat) (h : k < ks.length) (j : Nat) (hj : j < 3) : (codeCells ks)[k * 3 + j]? = (Ins.cells ks[k])[j]? := by
  have := flatten_at (css := ks.map Ins.cells) (sz := 3) (k := k) (by intro cs hc; obtain ⟨x, _, rfl⟩ := List.mem_map.1 hc; rfl) (by simpa using h) hj
  simpa [codeCells] using this
theorem code_one (ks : List Ins) : ∀ u ∈ codeCells ks, u.oneCell' = true := by
  intro u hu
  simp only [codeCells, List.mem_flatten, List.mem_map] at hu
  obtain ⟨cs, ⟨x, _, rfl⟩, hu⟩ := hu
  simp [Ins.cells] at hu
  rcases hu with rfl | rfl | rfl <;> rfl
/-- How many bytes. -/
theorem encI_5 (a b : Int) : (encI 1 a b).length = 5 := rfl
theorem encI_3 (a b : Int) : (encI 23 a b).length = 3 := rfl
theorem encI_3' (a b : Int) : (encI 24 a b).length = 3 := rfl
theorem encI_n (op a b : Int) (h : op ≠ 1 ∧ op ≠ 23 ∧ op ≠ 24) : ((encI op a b).length : Int) = 1 + opndN op := by
  by_cases h4 : op = 27
  · subst h4; rfl
  · by_cases h5 : opndN op = 1
    · rw [encI_one op a b ⟨h.1, h.2.1, h.2.2, h4⟩ h5, h5]; simp [putN_length]
    · rw [encI_zero op a b ⟨h.1, h.2.1, h.2.2, h4⟩ h5, opndN_one op h5 h4]; simp [putN_length]
/-- What holds of the law's writer and list after some rounds. -/
structure SzJ (W : World) (p r : Nat) (v : Value) (ks : List Ins) (w : World) : Prop where
  x : Wr w 63 5 p r (encL ks)
  y : w.ownsRow 0 25 3 v ks.length (codeCells ks)
  d : ∀ g, v.ownBlock = some g → g ≠ p ∧ g ≠ r ∧ W.heap.size ≤ g
  n : W.heap.size ≤ p ∧ W.heap.size ≤ r
  t : Tch [] W w
theorem SzJ.tch {W w w' : World} {p r : Nat} {v : Value} {ks : List Ins} (h : SzJ W p r v ks w) (t : Tch [] w w') : SzJ W p r v ks w' :=
  ⟨h.x.tch t (by simp) (by simp), ownsRow_tch h.y t (by simp), h.d, h.n, h.t.then t⟩
theorem SzJ.load {w : World} {L : List Nat} {ks : List Ins} {ao : Option Addr} {cap : Nat} (h : Src w L (.slice ao ks.length cap) ks.length (codeCells ks)) {k : Nat} (hk : k < ks.length) :
    ∃ ad, ao = some ad ∧ ∀ (j : Nat) u, (#[Value.int .i64 ks[k].op, .int .i64 ks[k].a, .int .i64 ks[k].b] : Array Value).toList[j]? = some u → w.cell? ((ad.add (k * 3)).add j) = some u := by
  have hl := codeCells_length ks
  obtain ⟨ad, rfl, _, _, _⟩ := h.at (j := k * 3) (by omega)
  refine ⟨ad, rfl, fun j u hj => ?_⟩
  have hj3 : j < 3 := by have := (List.getElem?_eq_some_iff.1 hj).1; simpa using this
  obtain ⟨ad', e, _, _, hc⟩ := h.at (j := k * 3 + j) (by omega)
  simp only [Option.some.injEq] at e
  subst e
  rw [Addr_add_add, hc]
  have := codeCells_at ks k hk j hj3
  rw [List.getElem?_eq_getElem (by omega)] at this
  rw [this]
  exact hj
set_option maxRecDepth 100000 in
set_option maxHeartbeats 4000000 in
theorem codeSizes_walk (W : World) (u : Value) (l : List Rw) (hl : Raws W u l) :
    Calls Try.prog 5 #[u] W fun e w' => e = .returned (.bool true) ∧ Tch [] W w' := by
  obtain ⟨i0, hi, hz0, hz1, hz2⟩ := info_parts info_ins
  have hl0 := hl
  obtain ⟨ao, cap, rfl, hlm, hel⟩ := hl.ex
  go_enter Try.func5, Try.ntmps5
  go_wp2_with fail
  refine (oct_new _).mono ?_
  rintro e w1 ⟨rfl, rfl⟩
  have h1 := Wr.new W 63 5
  have t1 : Tch [] W (W.alloc (.cells #[.slice none 0 0] 63)) := (Tch.refl [] W).alloc _
  go_wp2_with fail
  refine (known3 _).mono ?_
  rintro e w2 ⟨rfl, t2⟩
  have h2 := h1.tch t2 (by simp) (by simp)
  have J0 : SzJ W W.heap.size W.heap.size (.slice none 0 0) [] w2 := ⟨h2, World.ownsRow_nil _ _ _ _, by simp [Value.ownBlock], ⟨Nat.le_refl _, Nat.le_refl _⟩, t1.then t2⟩
  clear h1 t1 h2 t2
  go_upto_block 0 with fail
  go_cut [4, 5] (fun v _ wz => ∃ ks r, SzJ W W.heap.size r v ks wz ∧ ks.length ≤ 30 ∧ ∀ x ∈ ks, rightI x.op x.a x.b = true)
  case first =>
    go_wp2_with fail
    go_loopw [4, 5] (fun v i wz => ∃ (k : Nat) (ks : List Ins) (r : Nat), k ≤ l.length ∧ k ≤ 30 ∧ i = .int .i64 k ∧ SzJ W W.heap.size r v ks wz ∧ ks.length ≤ k ∧ ∀ x ∈ ks, rightI x.op x.a x.b = true) (fun _ i _ => 30 - (intOf i).toNat)
    case atStart => exact ⟨0, [], _, by omega, by omega, rfl, J0, by simp, by simp⟩
    case round =>
      obtain ⟨k, ks, r, hk1, hk2, rfl, J, hkl, hri⟩ := hrel
      obtain ⟨oo, oc, rfl⟩ := ownsRow_form J.y
      by_cases hk : k < l.length ∧ k < 30
      · obtain ⟨hk3, hk4⟩ := hk
        obtain ⟨ad, rfl, hadlt, hcell⟩ := hel k l[k] (by simp [hk3])
        obtain ⟨i1, i2, i3, i4⟩ := hl0.rng l[k] (List.getElem_mem hk3)
        have hc : ∀ (j : Nat) u, (rawCells l[k]).toList[j]? = some u → wr.cell? ((ad.add (k * 4)).add j) = some u := fun j u hj => by
          rw [J.t.cell (by rw [Addr_add_block, Addr_add_block]; exact hadlt) (by simp)]; exact hcell j u hj
        have hin := fun w => law3_instr w l[k].1 l[k].2.1 l[k].2.2.1 l[k].2.2.2 i1 i2 i3 i4
        generalize l[k] = xx at *
        obtain ⟨ra, rb, rc, rd⟩ := xx
        clear hcell hel hl hl0 J0
        dsimp only [rawCells] at *
        go_wp2_with (first | (refine wpList_load_agg rfl 23 (.tmp 32) rfl (ad.add (k * 4)) rfl #[.int .i64 ra, .int .i64 rb, .int .i64 rc, .int .i64 rd] _ hc Try.underlying23 rfl (by kernel_rfl) ?_) | fail)
        refine (hin _).mono ?_
        rintro e w1 ⟨op, x, y, rfl, hop, hx, hy, t1⟩
        have J1 := J.tch t1
        obtain ⟨V, hV⟩ : ∃ V, V = w1.alloc (.cells #[.int .i64 op, .int .i64 x, .int .i64 y] 25) := ⟨_, rfl⟩
        have tV : Tch [] w1 V := by rw [hV]; exact (Tch.refl [] w1).alloc _
        have di : By V w1.heap.size (.int .i64 op) (.int .i64 x) (.int .i64 y) := by rw [hV]; exact By.new _ _ _ _ _
        have J2 := J1.tch tV
        have hel5 := encL_length ks
        have lp1 := J1.x.lt
        have lr1 := J1.x.row_lt
        have zW1 := J1.t.size
        go_upto_region 9 with fail
        rw [← hV]
        clear hV tV J J1 t1 hc hin
        generalize w1.heap.size = g at *
        go_wp2_with fail
        refine (oct_BytesS _ _ _ _ J2.x (by omega)).mono ?_
        rintro e w3 ⟨ao3, cap3, rfl, _, t3⟩
        have J3 := J2.tch t3
        have di3 := di.tch t3 (by simp)
        have di3' := di3
        clear J2 di t3
        obtain ⟨c0, c1, c2, f0, f1, f2⟩ := di3
        cases hr : rightI op x y
        · go_wp2_with fail
          refine (code_Lay_no _ _ op x y hy hr).mono ?_
          rintro e w4 ⟨rfl, t4⟩
          have J4 := J3.tch t4
          clear J3 c0 c1 c2 f0 f1 f2 t4 di3'
          go_wp2_with fail
          refine (oct_BytesS _ _ _ _ J4.x (by omega)).mono ?_
          rintro e w5 ⟨ao5, cap5, rfl, _, t5⟩
          have J5 := J4.tch t5
          go_wp2_with fail
          go_roundw
          case rel => exact ⟨k + 1, ks, r, by omega, by omega, by go_num, J5, by omega, hri⟩
          case measure => simp [intOf]; omega
        · go_wp2_with fail
          refine (code_Lay _ _ r _ op x y hop hx hy hr J3.x (by omega)).mono ?_
          rintro e w4 ⟨rfl, r4, hw4, hr4, t4⟩
          have lg3 := di3'.lt
          have hgp : g ∉ [W.heap.size, r] := by simp; omega
          have di4 := di3'.tch t4 hgp
          have t04 : Tch [] W w4 := J3.t.trans t4 (by simp) (by intro i hi hx; have := J3.n; simp at hx; omega)
          have hd4 : ∀ g', (Value.slice oo ks.length oc).ownBlock = some g' → g' ≠ W.heap.size ∧ g' ≠ r4 ∧ W.heap.size ≤ g' := fun g' hg' => by
            obtain ⟨q1, q2, q3⟩ := J3.d g' hg'
            have := (World.ownsRow.lt J3.y g' hg').2
            exact ⟨q1, by omega, q3⟩
          have y4 : w4.ownsRow 0 25 3 (.slice oo ks.length oc) ks.length (codeCells ks) := ownsRow_tch J3.y t4 (fun g' hg' => by have := J3.d g' hg'; simp; omega)
          have hn4 : W.heap.size ≤ r4 := by have := J3.n.2; have := J3.t.size; omega
          have hw4' : Wr w4 63 5 W.heap.size r4 (encL (ks ++ [⟨op, x, y⟩])) := by rw [encL_snoc]; exact hw4
          have hlen : (encL (ks ++ [⟨op, x, y⟩])).length = (encL ks).length + (encI op x y).length := by rw [encL_snoc, List.length_append]
          have hei := encI_length op x y
          have hcs : ((encI op x y).length = 5 ∧ op = 1) ∨ ((encI op x y).length = 3 ∧ op = 23) ∨ ((encI op x y).length = 3 ∧ op = 24) ∨ (((encI op x y).length : Int) = 1 + opndN op ∧ op ≠ 1 ∧ op ≠ 23 ∧ op ≠ 24) := by
            by_cases k1 : op = 1
            · exact .inl ⟨by rw [k1]; rfl, k1⟩
            by_cases k2 : op = 23
            · exact .inr (.inl ⟨by rw [k2]; rfl, k2⟩)
            by_cases k3 : op = 24
            · exact .inr (.inr (.inl ⟨by rw [k3]; rfl, k3⟩))
            exact .inr (.inr (.inr ⟨encI_n op x y ⟨k1, k2, k3⟩, k1, k2, k3⟩))
          have hrn : ∀ z ∈ ks ++ [⟨op, x, y⟩], rightI z.op z.a z.b = true := fun z hz => by
            rcases List.mem_append.1 hz with h | h
            · exact hri z h
            · simp at h; subst h; exact hr
          have hle4 : (encL (ks ++ [⟨op, x, y⟩])).length ≤ 200 := by omega
          have hle3 : (encL ks).length ≤ 150 := by omega
          have HRN := Lib.hid hrn; clear hrn hri hr
          have hon := fun w => code_Operands op w
          have hob : 0 ≤ opndN op ∧ opndN op ≤ 2 := by unfold opndN; split <;> (try split) <;> omega
          have hbnd : ks.length + 1 ≤ 9223372036854775807 ∧ (ks.length + 1) * 24 ≤ 140737488355328 := by omega
          generalize opndN op = nn at *
          generalize (encI op x y).length = m at *
          generalize hL2 : (encL (ks ++ [⟨op, x, y⟩])).length = n2 at *
          generalize hL1 : (encL ks).length = n1 at *
          have HL2 := Lib.hid hL2; clear hL2
          clear hw4 t4 J3 c0 c1 c2 f0 f1 f2 hL1
          obtain ⟨c0, c1, c2, f0, f1, f2⟩ := di4
          have hcs2 : ((op == 1) = true ∧ (op == 23) = false ∧ (op == 24) = false ∧ ((n2 : Int) != (n1 : Int) + 5) = false) ∨ ((op == 1) = false ∧ (op == 23) = true ∧ (op == 24) = false ∧ ((n2 : Int) != (n1 : Int) + 3) = false) ∨ ((op == 1) = false ∧ (op == 23) = false ∧ (op == 24) = true ∧ ((n2 : Int) != (n1 : Int) + 3) = false) ∨ (((n2 : Int) != (n1 : Int) + (1 + nn)) = false ∧ (op == 1) = false ∧ (op == 23) = false ∧ (op == 24) = false) := by
            rcases hcs with ⟨h1, h2⟩ | ⟨h1, h2⟩ | ⟨h1, h2⟩ | ⟨h1, h2, h3, h4⟩
            · exact .inl ⟨by rw [h2]; rfl, by rw [h2]; rfl, by rw [h2]; rfl, by simp; omega⟩
            · exact .inr (.inl ⟨by rw [h2]; rfl, by rw [h2]; rfl, by rw [h2]; rfl, by simp; omega⟩)
            · exact .inr (.inr (.inl ⟨by rw [h2]; rfl, by rw [h2]; rfl, by rw [h2]; rfl, by simp; omega⟩))
            · exact .inr (.inr (.inr ⟨by simp; omega, beq_eq_false_iff_ne.2 h2, beq_eq_false_iff_ne.2 h3, beq_eq_false_iff_ne.2 h4⟩))
          have HLEN := Lib.hid hlen; clear hlen hcs hei hel5
          rcases hcs2 with ⟨z1, z2, z3, hq⟩ | ⟨z1, z2, z3, hq⟩ | ⟨z1, z2, z3, hq⟩ | ⟨hq, z1, z2, z3⟩
          all_goals
            go_wp2_with fail
            refine (hon _).mono ?_
            rintro e w5 ⟨rfl, rfl⟩
            go_wp2_with fail
            refine (oct_BytesS _ _ _ _ hw4' (by rw [HL2.out]; omega)).mono ?_
            rintro e w6 ⟨ao6, cap6, rfl, _, t6⟩
            rw [HL2.out]
            have hw6 := hw4'.tch t6 (by simp) (by simp)
            have y6 := ownsRow_tch y4 t6 (by simp)
            have di6 := (By.mk c0 c1 c2 f0 f1 f2).tch t6 (by simp)
            have t06 := t04.then t6
            clear c0 c1 c2 f0 f1 f2 hw4' y4 t04 t6
            obtain ⟨c0, c1, c2, f0, f1, f2⟩ := di6
            have hown0 : (w6.alloc (Obj.cells #[Value.int .i64 op, Value.int .i64 x, Value.int .i64 y] 25)).ownsRow 0 25 3 (.slice oo ks.length oc) ks.length (codeCells ks) := y6.alloc _
            have hsrc : Src (w6.alloc (Obj.cells #[Value.int .i64 op, Value.int .i64 x, Value.int .i64 y] 25)) [] (.slice (some ⟨w6.heap.size, 0, none⟩) 1 1) 1 [Value.int .i64 op, Value.int .i64 x, Value.int .i64 y] := src_new w6 _ [] #[Value.int .i64 op, Value.int .i64 x, Value.int .i64 y] 25 1 1 (Tch.refl [] _) (by simp)
            have h1c : ∀ u ∈ [Value.int .i64 op, Value.int .i64 x, Value.int .i64 y], u.oneCell' = true := by intro u hu; simp at hu; rcases hu with rfl | rfl | rfl <;> rfl
            go_wp2_with (at_builtin; refine wpList_append_any _ rfl _ _ 51 rfl 25 i0 (.agg #[.int .i64 0, .int .i64 0, .int .i64 0]) 3 24 Try.underlying51 hi hz0 hz1 hz2 rfl (by decide) (.slice oo ks.length oc) ks.length (codeCells ks) rfl hown0 [] _ 1 [Value.int .i64 op, Value.int .i64 x, Value.int .i64 y] rfl hsrc rfl h1c hbnd ?_; intro ao7 cap7 w7 hown hgrow hat)
            have zW6 := t06.size
            have lp6 := hw6.lt
            have lr6 := hw6.row_lt
            have ta : Tch [] w6 (w6.alloc (Obj.cells #[Value.int .i64 op, Value.int .i64 x, Value.int .i64 y] 25)) := (Tch.refl [] w6).alloc _
            have hg7 : ∀ g', (Value.slice ao7 (ks.length + 1) cap7).ownBlock = some g' → g' ≠ W.heap.size ∧ g' ≠ r4 ∧ W.heap.size ≤ g' := fun g' hg' => by
              rcases hat with e | e
              · exact hd4 g' (e ▸ hg')
              · rw [e] at hg'; simp at hg'; omega
            have tB : ∀ row, (Value.slice oo ks.length oc).ownBlock = row → Tch [row.getD (w6.heap.size + 5)] w6 w7 := fun row hrow => by
              refine (ta.nil (L := [row.getD (w6.heap.size + 5)])).grown hgrow (fun g' hg' => ?_)
              rw [hrow] at hg'; subst hg'; left; simp
            have hw7 : Wr w7 63 5 W.heap.size r4 (encL (ks ++ [⟨op, x, y⟩])) := by
              cases hb : (Value.slice oo ks.length oc).ownBlock with
              | none => exact hw6.tch (tB none hb) (by simp; omega) (by simp; omega)
              | some g' => have := hd4 g' hb; exact hw6.tch (tB (some g') hb) (by simp; omega) (by simp; omega)
            have t07 : Tch [] W w7 := by
              cases hb : (Value.slice oo ks.length oc).ownBlock with
              | none => exact t06.trans (tB none hb) (by simp) (by intro i hi hx; simp at hx; omega)
              | some g' => have := hd4 g' hb; exact t06.trans (tB (some g') hb) (by simp) (by intro i hi hx; simp at hx; omega)
            have J7 : SzJ W W.heap.size r4 (.slice ao7 (ks.length + 1) cap7) (ks ++ [⟨op, x, y⟩]) w7 :=
              ⟨hw7, by rw [codeCells_snoc, List.length_append]; exact hown, hg7, ⟨Nat.le_refl _, hn4⟩, t07⟩
            go_roundw
            case rel => exact ⟨k + 1, ks ++ [⟨op, x, y⟩], r4, by omega, by omega, by go_num, J7, by simp; omega, HRN.out⟩
            case measure => simp [intOf]; omega
      · have hcases : ¬ k < l.length ∨ (k < l.length ∧ ¬ k < 30) := by omega
        clear hel hl hl0
        rcases hcases with hk0 | ⟨hk0, hk3⟩
        all_goals
          go_wp2_with fail
          go_meet
          case rel => exact ⟨ks, r, J, by omega, hri⟩
  case rest =>
    obtain ⟨ks, r, J, hkl, hri⟩ := hcut
    obtain ⟨oo, oc, rfl⟩ := ownsRow_form J.y
    clear J0 hel hl hl0
    have hel := encL_length ks
    have hby := encL_byt ks
    have hlt0 := World.ownsRow.lt J.y
    have tJ := J.t
    go_wp2_with fail
    refine (oct_BytesS _ _ _ _ J.x (by omega)).mono ?_
    rintro e w3 ⟨ao3, cap3, rfl, s3, t3⟩
    go_wp2_with fail
    refine (oct_NewReader _ [] (by simp) [] _ _ s3 hby (by omega)).mono ?_
    rintro e w4 ⟨q, rfl, hq, h4, t4⟩
    have hks4 := (src_of_owns J.y [q] (fun g hg => by have := (hlt0 g hg).2; have := t3.size; simp; omega)).tch (t3.then t4) (by simp)
    have tW4 := (tJ.then t3).then t4
    have zq : W.heap.size ≤ q := by have := (tJ.then t3).size; omega
    clear J hlt0 s3 t3 t4 tJ
    go_wp2_with fail
    go_loopw [10] (fun i wz => ∃ j : Nat, j ≤ ks.length ∧ i = .int .i64 j ∧ Rd wz 69 q [] (encL (ks.drop j)) false ∧ Tch [q] w4 wz) (fun i _ => ks.length - (intOf i).toNat)
    case atStart => exact ⟨0, by omega, rfl, by rw [List.drop_zero]; exact h4, Tch.refl _ _⟩
    case round =>
      obtain ⟨j, hj, rfl, hrd, ht⟩ := hrel
      clear h4
      by_cases hlt : j < ks.length
      · have hdr : encL (ks.drop j) = encI ks[j].op ks[j].a ks[j].b ++ encL (ks.drop (j + 1)) := by rw [List.drop_eq_getElem_cons hlt, encL_cons]
        have hre := readI_enc ks[j].op ks[j].a ks[j].b (hri _ (List.getElem_mem hlt)) (encL (ks.drop (j + 1)))
        rw [← hdr] at hre
        have hdl : (encL (ks.drop j)).length ≤ 140737488355328 := by have := encL_length (ks.drop j); simp at this; omega
        have hksr := hks4.tch ht (by simp)
        have hki := Lib.hid hdr; clear hdr
        generalize encL (ks.drop j) = en at *
        generalize hen2 : encL (ks.drop (j + 1)) = en2 at *
        have HEN2 := Lib.hid hen2; clear hen2
        go_wp2_with fail
        refine (code_Read _ q [] _ _ hrd hdl _ hre).mono ?_
        rintro e w5 ⟨rfl, h5, t5⟩
        have hks5 := hksr.tch t5 (by simp)
        obtain ⟨V, hV⟩ : ∃ V, V = w5.alloc (.cells #[.int .i64 ks[j].op, .int .i64 ks[j].a, .int .i64 ks[j].b] 25) := ⟨_, rfl⟩
        have tV : Tch [] w5 V := by rw [hV]; exact (Tch.refl [] w5).alloc _
        have di : By V w5.heap.size (.int .i64 ks[j].op) (.int .i64 ks[j].a) (.int .i64 ks[j].b) := by rw [hV]; exact By.new _ _ _ _ _
        have hV5 := h5.tch tV (by simp) (by simp)
        obtain ⟨ad, rfl, hcj⟩ := SzJ.load (hks5.tch tV (by simp)) hlt
        have hag : ∀ n, (loadVar 25 (ad.add (j * 3))).run Try.prog (V.drewN n) = .ok (.agg #[.int .i64 ks[j].op, .int .i64 ks[j].a, .int .i64 ks[j].b]) (V.drewN n) := fun n => run_loadVar_agg (P := Try.prog) (V.drewN n) (ad.add (j * 3)) 25 _ _ hcj Try.underlying25 rfl (by kernel_rfl)
        have hb1 : 0 ≤ (j : Int) ∧ (j : Int) < (ks.length : Int) := by omega
        go_upto_region 26 with fail
        rw [← hV]
        clear hV hre hrd hksr hks5 hag
        obtain ⟨c0, c1, c2, f0, f1, f2⟩ := di
        generalize ks[j] = kj at *
        refine wp_region_quiet_lit (by kernel_rfl) (by kernel_rfl) ?_
        repeat (go_big_quiet_step (fail))
        go_big_quiet_want
        refine quiet_load_agg 25 (.tmp 93) rfl (ad.add (j * 3)) rfl #[.int .i64 kj.op, .int .i64 kj.a, .int .i64 kj.b] _ (by rintro _ ⟨n, rfl⟩; exact hcj) Try.underlying25 rfl (by kernel_rfl) ?_
        go_simp
        go_big_quiet_on
        repeat (go_big_quiet_step (fail))
        refine wpQuiet_nil ?_
        intro _ hw'
        obtain ⟨nq, hw''⟩ := hw'
        subst hw''
        go_wp2_with fail
        go_roundw
        case rel => exact ⟨j + 1, by omega, by go_num, by rw [HEN2.out]; exact hV5.tch ((Tch.refl [] V).drewN _) (by simp) (by simp), (((ht.trans t5 (fun _ _ x => x) (fun _ _ x => x)).trans tV (M := [q]) (fun _ _ x => x) (by simp)).drewN _)⟩
        case measure => simp [intOf]; omega
      · obtain rfl : j = ks.length := by omega
        have hz : encL (ks.drop ks.length) = [] := by simp [encL]
        rw [hz] at hrd
        have hrd0 := hrd
        go_wp2_with fail
        refine (oct_Left _ q _ _ _ hrd).mono ?_
        rintro e w5 ⟨rfl, rfl⟩
        go_wp2_with fail
        go_ret
        exact ⟨rfl, tW4.trans ht (by simp) (by intro i hi hx; simp at hx; omega)⟩
end Go.Proofs.Ytkhoipeblakgiaa
