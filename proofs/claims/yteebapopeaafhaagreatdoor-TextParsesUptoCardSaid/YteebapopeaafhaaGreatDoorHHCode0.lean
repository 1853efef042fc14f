/-
  HELPERS over any program: raw statements or instructions, as they lie. Conditions: none.
  HELPERS and the FIRST HALF of Code of taciturnhand. Conditions: none.
-/
import Derived.Test.YteebapopeaafhaaGreatDoorHCodeP
import Derived.Test.YteebapopeaafhaaGreatDoorHAny
namespace Go.Tcn
open Go.RowKit
set_option linter.unusedVariables false
set_option linter.unusedSimpArgs false
abbrev Rw := Int × Int × Int × Int
def rawCells (x : Rw) : Array Value := #[.int .i64 x.1, .int .i64 x.2.1, .int .i64 x.2.2.1, .int .i64 x.2.2.2]
/-- Raw instructions, as they lie. -/
structure Raws (w : World) (v : Value) (l : List Rw) : Prop where
  ex : ∃ ao cap, v = .slice ao l.length cap ∧ l.length ≤ 9223372036854775807 ∧ ∀ (k : Nat) x, l[k]? = some x → ∃ ad, ao = some ad ∧ ad.block < w.heap.size ∧ ∀ (j : Nat) u, (rawCells x).toList[j]? = some u → w.cell? ((ad.add (k * 4)).add j) = some u
  rng : ∀ x ∈ l, I6 x.1 ∧ I6 x.2.1 ∧ I6 x.2.2.1 ∧ I6 x.2.2.2
theorem Raws.tch {w w' : World} {v : Value} {l : List Rw} (h : Raws w v l) (t : Tch [] w w') : Raws w' v l := by
  obtain ⟨ao, cap, h1, h2, h3⟩ := h.ex
  refine ⟨⟨ao, cap, h1, h2, fun k x hk => ?_⟩, h.rng⟩
  obtain ⟨ad, e, hl, hc⟩ := h3 k x hk
  refine ⟨ad, e, Nat.lt_of_lt_of_le hl t.size, fun j u hj => ?_⟩
  rw [t.cell (by rw [Addr_add_block, Addr_add_block]; exact hl) (by simp)]
  exact hc j u hj
theorem choose_lt4 {α : Type} {n : Nat} {p : Nat → α → Prop} [Inhabited α] (h : ∀ i, i < n → ∃ x, p i x) : ∃ f : Nat → α, ∀ i, i < n → p i (f i) := by
  refine ⟨fun i => if hi : i < n then (h i hi).choose else default, fun i hi => ?_⟩
  simp only [hi, dif_pos]
  exact (h i hi).choose_spec
end Go.Tcn
namespace Go.Tcn
open Go.RowKit
set_option linter.unusedVariables false
set_option linter.unusedSimpArgs false
/-- The initial data of package taciturnhand, as the maker asks it. -/
def Bins (w : World) (G : Nat) : Prop := ∀ j, j < 12 → ∃ op : Int, (6 ≤ op ∧ op ≤ 14 ∨ 19 ≤ op ∧ op ≤ 21) ∧ w.cell? ⟨G, j, none⟩ = some (.int .i64 op)
theorem Bins.tch {w w' : World} {G : Nat} (h : Bins w G) (t : Tch [] w w') : Bins w' G := fun j hj => by
  letI : OkP := ⟨true, []⟩
  obtain ⟨op, h1, h2⟩ := h j hj
  exact ⟨op, h1, tch_cell' t h2⟩
theorem Bins.lt {w : World} {G : Nat} (h : Bins w G) : G < w.heap.size := by obtain ⟨op, _, h2⟩ := h 0 (by omega); exact cell_lt h2
def numsOf (l : List Rw) : List Int := (l.map (fun x => [x.2.1, x.2.2.1, x.2.2.2])).flatten
theorem numsOf_take (l : List Rw) (k : Nat) (hk : k < l.length) : numsOf (l.take (k + 1)) = numsOf (l.take k) ++ [l[k].2.1, l[k].2.2.1, l[k].2.2.2] := by
  have e : l.take (k + 1) = l.take k ++ [l[k]] := (List.take_append_getElem hk).symm
  rw [e]; unfold numsOf; rw [List.map_append, List.flatten_append]; rfl
theorem numsOf_len (l : List Rw) : (numsOf l).length = 3 * l.length := by
  induction l with
  | nil => rfl
  | cons x l ih => simp [numsOf] at ih ⊢; omega
/-- The maker while its numbers come in. -/
structure Mn (T E : TypeId) (w : World) (p : Nat) (vn : Value) (n : List Int) (kd : List Int) : Prop where
  ex : ∃ vk, w.heap[p]? = some (.cells #[.slice none 0 0, vn, .int .i64 (0 : Nat), vk, .int .i64 0] T (0, 0)) ∧ w.ownsRow 0 E 1 vn n.length (ints n) ∧ vn.ownBlock ≠ some p ∧ Src w (p :: vn.ownBlock.toList) vk kd.length (ints kd)
/-- All numbers are in: the maker begins. -/
theorem Mn.mk' {T E E' : TypeId} {G : Nat} {w : World} {p : Nat} {vn : Value} {n kd : List Int} (h : Mn T E w p vn n kd) (b : Bool) (hG : G ≠ p) (hb : Bins w G) : @Mk ⟨b, []⟩ T E' G w p p [] n 0 kd 0 := by
  obtain ⟨vk, hv0, ho, hne, hvk⟩ := h.ex
  have e1 : Src w [p, p] vn n.length (ints n) := src_of_owns ho _ (fun k hk hx => by
    simp at hx; subst hx; exact hne hk)
  have e2 : Src w [p, p] vk kd.length (ints kd) := Src.mono hvk (fun i hi _ => by
    simp at hi; simp [hi])
  exact @Mk.mk ⟨b, []⟩ T E' G w p p [] n 0 kd 0 ⟨.slice none 0 0, vn, vk, hv0, World.ownsRow_nil _ _ _ _, rfl, by simp [Value.ownBlock], e1, e2⟩ (.inl (by simp)) ⟨hG, hG⟩ hb
theorem Src.init {w : World} {L : List Nat} {ao : Option Addr} {m cap : Nat} {xs : List Value} {x : Value} (h : Src w L (.slice ao (m + 1) cap) (m + 1) (xs ++ [x])) : Src w L (.slice ao m cap) m xs := by
  rcases h.ex with ⟨_, _, h3⟩ | ⟨ad, c', h1, h2, h3⟩
  · simp at h3
  · simp only [Value.slice.injEq] at h1
    obtain ⟨rfl, _, rfl⟩ := h1
    exact ⟨.inr ⟨ad, _, rfl, by omega, fun j u hj => h3 j u (by rw [List.getElem?_append_left (List.getElem?_eq_some_iff.1 hj).1]; exact hj)⟩⟩
theorem Mk.refar {b : Bool} {F F' : List Nat} {T E : TypeId} {G : Nat} {w : World} {p row : Nat} {c : List Ins} {n : List Int} {q : Nat} {kd : List Int} {d : Int} (h : @Mk ⟨b, F⟩ T E G w p row c n q kd d) (hF : ∀ i ∈ F', i < w.heap.size → i ∈ F) : @Mk ⟨b, F'⟩ T E G w p row c n q kd d := by
  obtain ⟨⟨vc, vn, vk, hv, ho, hrow, hne, hn, hk⟩, hok, hgp, hb⟩ := h
  have hm : ∀ i ∈ p :: row :: F', i < w.heap.size → i ∈ p :: row :: F := fun i hi hlt => by
    simp only [List.mem_cons] at hi ⊢
    rcases hi with h | h | h
    · exact .inl h
    · exact .inr (.inl h)
    · exact .inr (.inr (hF i h hlt))
  exact @Mk.mk ⟨b, F'⟩ T E G w p row c n q kd d ⟨vc, vn, vk, hv, ho, hrow, hne, Src.mono (L := p :: row :: F) (L' := p :: row :: F') hn hm, Src.mono (L := p :: row :: F) (L' := p :: row :: F') hk hm⟩ hok hgp hb
/-- Blocks that are far may turn. -/
theorem Mk.turn {b : Bool} {F : List Nat} {T E : TypeId} {G : Nat} {w w' : World} {p row : Nat} {c : List Ins} {n : List Int} {q : Nat} {kd : List Int} {d : Int} (h : @Mk ⟨b, F⟩ T E G w p row c n q kd d) (t : Tch F w w') (hF : ∀ i ∈ F, i ≠ p ∧ i ≠ row ∧ i ≠ G) : @Mk ⟨b, F⟩ T E G w' p row c n q kd d := by
  letI : OkP := ⟨b, F⟩
  have hp := h.lt
  obtain ⟨vc, vn, vk, hv, ho, hrow, hne, hn, hk⟩ := h.ex
  have hm : ∀ i ∈ F, i < w.heap.size → i ∈ p :: row :: F := fun i hi _ => List.mem_cons_of_mem _ (List.mem_cons_of_mem _ hi)
  refine ⟨⟨vc, vn, vk, ?_, ownsRow_tch ho t (fun g hg hx => ?_), hrow, hne, hn.tch t hm, hk.tch t hm⟩, h.ok, h.gp, fun j hj => ?_⟩
  · rw [t.block p hp (fun hx => (hF p hx).1 rfl)]; exact hv
  · have h1 := hF g hx
    rw [hg] at hrow; simp at hrow; omega
  · obtain ⟨op, h1, h2⟩ := h.bins j hj
    exact ⟨op, h1, by rw [t.cell (cell_lt h2) (fun hx => (hF _ hx).2.2 rfl)]; exact h2⟩
end Go.Tcn
namespace Go.Proofs.YteebapopeaafhaaGreatDoor
open Go.RowKit Go.Tcn
set_option linter.unusedVariables false
set_option linter.unusedSimpArgs false

set_option maxRecDepth 100000 in
set_option maxHeartbeats 4000000 in
theorem hand_Code0 (w : World) (hG : Bins w 2) (xv : Value) (hl : Raws w xv [])
    (mt : Mth) (vp vl vcd : Value) (hp : RInts w [] vp mt.params) (hlc : RInts w [] vl mt.locals) (hpl : mt.params.length ≤ 4) (hlcl : mt.locals.length ≤ 6) (hpk : ∀ k ∈ mt.params, 1 ≤ k ∧ k ≤ 4) (hlk : ∀ k ∈ mt.locals, 1 ≤ k ∧ k ≤ 4) (hrs : 0 ≤ mt.result ∧ mt.result ≤ 4)
    (vms : Value) (ms : List Mth) (hms : RMths w [] vms ms) (hm1 : 1 ≤ ms.length ∧ ms.length ≤ 8) (hmp : ∀ m ∈ ms, m.params.length ≤ 10 ∧ ∀ k ∈ m.params, 1 ≤ k ∧ k ≤ 4)
    (vim : Value) (im : List Imp) (him : RImps w [] vim im) (hi1 : im.length ≤ 4) (hip : ∀ m ∈ im, m.params.length ≤ 10 ∧ ∀ k ∈ m.params, 1 ≤ k ∧ k ≤ 4) :
    Calls Tryz.prog 28 #[xv, .agg #[vp, .int .i64 mt.result, vl, vcd], vms, vim] w fun e w' => ∃ (c : List Ins) (ao : Option Addr) (cap : Nat), e = .returned (.slice ao c.length cap) ∧ w'.ownsRow 0 57 3 (.slice ao c.length cap) c.length (codeCells c) ∧ (∀ g, (Value.slice ao c.length cap).ownBlock = some g → w.heap.size ≤ g) ∧ (∀ x ∈ c, rightI x.op x.a x.b = true) ∧ 1 ≤ c.length ∧ c.length ≤ 120 ∧ Tch [] w w' := by
  obtain ⟨i0, hi, hz0, hz1, hz2⟩ := info_parts (@info_int ⟨true, []⟩)
  obtain ⟨aop, capp, rfl⟩ := hp.form
  obtain ⟨aol, capl, rfl⟩ := hlc.form
  have tA : Tch [] w (w.alloc (.cells #[.slice aop mt.params.length capp, .int .i64 mt.result, .slice aol mt.locals.length capl, vcd] 55)) := (Tch.refl [] w).alloc _
  have hX := Bq.new w (.slice aop mt.params.length capp) (.int .i64 mt.result) (.slice aol mt.locals.length capl) vcd 55
  obtain ⟨W, hW⟩ : ∃ W, W = w.alloc (.cells #[.slice aop mt.params.length capp, .int .i64 mt.result, .slice aol mt.locals.length capl, vcd] 55) := ⟨_, rfl⟩
  rw [← hW] at tA hX
  have hsz : w.heap.size < W.heap.size := cell_lt hX.c0
  have hp1 := hp.tch tA (by simp)
  have hl1 := hlc.tch tA (by simp)
  go_enter Tryz.func28, Tryz.ntmps28
  go_upto_region 1 with fail
  rw [← hW]
  clear hW hp hlc
  obtain ⟨x0, x1, x2, x3⟩ := hX
  have ta : Tch [] W (W.alloc (.cells #[] 3)).drew := ((Tch.refl [] W).alloc _).drew
  have hown0 : (W.alloc (.cells #[] 3)).drew.ownsRow 0 3 1 (.slice (some ⟨W.heap.size, 0, none⟩) 0 0) 0 [] := World.ownsRow_lit W #[] 0 (Nat.zero_le _) (by decide) rfl
  have hpa := hp1.tch ta (by simp)
  have hla := hl1.tch ta (by simp)
  have hbn1 : 0 + mt.params.length ≤ 9223372036854775807 ∧ (0 + mt.params.length) * 8 ≤ 140737488355328 := by omega
  have hbn2 : mt.params.length + mt.locals.length ≤ 9223372036854775807 ∧ (mt.params.length + mt.locals.length) * 8 ≤ 140737488355328 := by omega
  go_cut [9] (fun v wz => ∃ P : Nat, v = .pointer (some ⟨P, 0, none⟩) ∧ Mn 99 3 wz P (.slice none 0 0) [] (mt.params ++ mt.locals) ∧ W.heap.size ≤ P ∧ Tch [] W wz)
  case first =>
   go_region_law (first
    | (refine step_append_any _ rfl (.tmp 15) (.tmp 17) 23 rfl 3 i0 (.int .i64 0) 1 8 Tryz.underlying23 hi hz0 hz1 hz2 rfl (by decide) (.slice (some ⟨W.heap.size, 0, none⟩) 0 0) 0 [] rfl hown0 [] (.slice aop mt.params.length capp) mt.params.length (ints mt.params) rfl hpa (by simp) (ints_one _) hbn1 ?_; intro ao1 cap1 w1 hown1 hgrow1 hat1; simp only [Nat.zero_add, List.nil_append] at hown1 hat1 ⊢; have t1 : Tch [] W w1 := ta.grown hgrow1 (fun g h => .inr (by simp [Value.ownBlock] at h; omega)); have hl2 := hl1.tch t1 (by simp); have x2a := (show w1.cell? ⟨w.heap.size, 2, none⟩ = some (.slice aol mt.locals.length capl) by rw [t1.cell (cell_lt x2) (by simp)]; exact x2))
    | (refine step_append_any _ rfl (.tmp 18) (.tmp 20) 23 rfl 3 i0 (.int .i64 0) 1 8 Tryz.underlying23 hi hz0 hz1 hz2 rfl (by decide) (.slice ao1 mt.params.length cap1) mt.params.length (ints mt.params) rfl hown1 [] (.slice aol mt.locals.length capl) mt.locals.length (ints mt.locals) rfl hl2 (by simp) (ints_one _) hbn2 ?_; intro ao2 cap2 w2 hown2 hgrow2 hat2))
   all_goals
    have t2 : Tch [] W w2 := t1.grown hgrow2 (fun g h => .inr (by
      rcases hat1 with e | e
      · rw [e] at h; simp [Value.ownBlock] at h; omega
      · rw [e] at h; simp at h; omega))
    have hkl : (mt.params ++ mt.locals).length = mt.params.length + mt.locals.length := by simp
    rw [← ints_append, ← hkl] at hown2
    have hg2 : ∀ g, (Value.slice ao2 (mt.params.length + mt.locals.length) cap2).ownBlock = some g → W.heap.size ≤ g := fun g h => by
      rcases hat2 with e | e
      · rw [e] at h
        rcases hat1 with e | e
        · rw [e] at h; simp [Value.ownBlock] at h; omega
        · rw [e] at h; simp at h; omega
      · rw [e] at h; simp at h; have := t1.size; omega
    rw [← hkl] at hg2
    obtain ⟨P, hP⟩ : ∃ P, P = w2.heap.size := ⟨_, rfl⟩
    have hPW : W.heap.size ≤ P := hP ▸ t2.size
    have hlw := World.ownsRow.lt hown2
    have hn0 : Mn 99 3 (w2.alloc (Obj.cells #[Value.slice none 0 0, Value.slice none 0 0, Value.int IntKind.i64 0, Value.slice ao2 (mt.params.length + mt.locals.length) cap2, Value.int IntKind.i64 0] 99)) P (.slice none 0 0) [] (mt.params ++ mt.locals) := by
      rw [← hkl]
      refine ⟨_, by rw [hP]; exact heap_alloc_new w2 _, World.ownsRow_nil _ _ _ _, by simp [Value.ownBlock], ?_⟩
      exact src_of_owns (hown2.alloc _) _ (fun g h hx => by have := (hlw g h).2; simp [Value.ownBlock] at hx; omega)
    have tV : Tch [] W (w2.alloc (Obj.cells #[Value.slice none 0 0, Value.slice none 0 0, Value.int IntKind.i64 0, Value.slice ao2 (mt.params.length + mt.locals.length) cap2, Value.int IntKind.i64 0] 99)) := t2.alloc _

    go_wp2_with fail
    go_meet
    exact ⟨P, by rw [hP], hn0, hPW, tV⟩
  case rest =>
  obtain ⟨P, rfl, hn0, hPW, tV⟩ := hcut
  have hkl : (mt.params ++ mt.locals).length = mt.params.length + mt.locals.length := by simp
  have hkd : ∀ k ∈ mt.params ++ mt.locals, 1 ≤ k ∧ k ≤ 4 := fun k hk => by
    rcases List.mem_append.1 hk with h | h
    · exact hpk k h
    · exact hlk k h
  have hk10 : (mt.params ++ mt.locals).length ≤ 10 := by omega
  clear hpa hla hown0 ta hbn1 hbn2 hkl hp1 hl1
  generalize mt.params ++ mt.locals = kd at *
  obtain ⟨aox, capx, hxv, hlm, hel⟩ := id hl.ex
  have hxv' : xv = .slice aox 0 capx := hxv
  subst hxv'
  clear hel hxv hlm hl
  go_wp2_with fail
  go_loopw [10] (fun i wz => i = .int .i64 (0 : Nat) ∧ Mn 99 3 wz P (.slice none 0 0) [] kd ∧ Tch [] W wz) (fun _ _ => 0)
  case atStart => exact ⟨rfl, hn0, tV⟩
  case round =>
    obtain ⟨rfl, hM, ht⟩ := hrel
    clear hn0 tV
    letI : OkP := ⟨false, []⟩
    have hGl := hG.lt
    have hMk : @Mk ⟨false, []⟩ 99 57 2 wr P P [] [] 0 kd 0 := hM.mk' false (by omega) ((hG.tch tA).tch ht)
    obtain ⟨vk, hv0, _, _, _⟩ := hM.ex
    have k0 : wr.cell? ⟨P, 0, none⟩ = some (.slice none 0 0) := by simp [World.cell?, hv0]
    clear hv0 hM
    go_wp2_with fail
    go_loopw [11, 12] (fun st i wz => st = .slice none 0 0 ∧ i = .int .i64 (0 : Nat) ∧ wr = wz) (fun _ _ _ => 0)
    case atStart => exact ⟨rfl, rfl, rfl⟩
    case round =>
      obtain ⟨rfl, rfl, rfl⟩ := hrel
      have hown0 : (wr.alloc (Obj.cells #[Value.int .i64 0] 3)).ownsRow 0 3 1 (.slice none 0 0) 0 [] := World.ownsRow_nil _ _ _ _
      have hsrc : Src (wr.alloc (Obj.cells #[Value.int .i64 0] 3)) [] (.slice (some ⟨wr.heap.size, 0, none⟩) 1 1) 1 [Value.int .i64 0] := src_new wr _ [] #[Value.int .i64 0] 3 1 1 (Tch.refl [] _) (by simp)
      have h1c : ∀ u ∈ [Value.int .i64 0], u.oneCell' = true := by intro u hu; simp at hu; subst hu; rfl
      have hbnd : 0 + 1 ≤ 9223372036854775807 ∧ (0 + 1) * 8 ≤ 140737488355328 := by omega
      go_wp2_with (at_builtin; refine wpList_append_any _ rfl (.tmp 91) (.tmp 97) 23 rfl 3 i0 (.int .i64 0) 1 8 Tryz.underlying23 hi hz0 hz1 hz2 rfl (by decide) (.slice none 0 0) 0 [] rfl hown0 [] _ 1 [Value.int .i64 0] rfl hsrc rfl h1c hbnd ?_; intro ao1 cap1 w1 hown1 hgrow1 hat1)
      have t1 : Tch [] wr w1 := ((Tch.refl [] wr).alloc _).grown hgrow1 (fun g h => by simp [Value.ownBlock] at h)
      have k1 : w1.cell? ⟨P, 0, none⟩ = some (.slice none 0 0) := by rw [t1.cell (cell_lt k0) (by simp)]; exact k0
      have T1 := ht.then t1
      have x11 : w1.cell? ⟨w.heap.size, 1, none⟩ = some (.int .i64 mt.result) := by rw [T1.cell (cell_lt x1) (by simp)]; exact x1
      have hM1 := @Mk.tch ⟨false, []⟩ _ _ _ _ _ _ _ _ _ _ _ _ _ hMk t1 (by simp)
      clear hown1 hgrow1 hat1 hown0 hsrc k0 hMk
      go_wp2_with fail
      go_loopw [13, 14] (fun pc k wz => pc = .int .i64 (0 : Nat) ∧ w1 = wz) (fun _ _ _ => 0)
      case atStart => exact ⟨rfl, rfl⟩
      case round =>
        obtain ⟨rfl, rfl⟩ := hrel
        by_cases hr0 : mt.result = 0
        · rw [hr0] at x11
          obtain ⟨r1, hr1⟩ : ∃ r, r = P := ⟨_, rfl⟩
          obtain ⟨c1, hc1⟩ : ∃ c : List Ins, c = [] := ⟨_, rfl⟩
          obtain ⟨nn, hnn⟩ : ∃ c : List Int, c = [] := ⟨_, rfl⟩
          obtain ⟨q1, hq1⟩ : ∃ q : Nat, q = 0 := ⟨_, rfl⟩
          have hM2 : @Mk ⟨false, []⟩ 99 57 2 w1 P r1 c1 nn q1 kd 0 := by rw [hr1, hc1, hnn, hq1]; exact hM1
          have T2 : Tch [] W w1 := T1
          have hc1l : c1.length ≤ 5000 := by rw [hc1]; simp
          have hr1W : W.heap.size ≤ r1 := by omega
          clear hr1 hc1 hnn hq1 hM1 T1
          generalize w1 = w2 at *
          go_wp2_with fail
          refine (@mk_put ⟨false, []⟩ w2 P r1 c1 nn q1 kd 0 hM2 39 0 0 (.inl rfl) (by omega)).mono ?_
          rintro e V3 ⟨rfl, r3, hM3, L3⟩
          have T3 : Tch [] W V3 := T2.trans L3.t (by simp) (fun i hi hx => by simp at hx; omega)
          have hr3 := L3.r
          have hz3 := T2.size
          clear L3
          obtain ⟨c2, hc2⟩ : ∃ c2, c2 = c1 ++ [⟨39, 0, 0⟩] := ⟨_, rfl⟩
          have HL2 := Lib.hid (show c2.length = c1.length + 1 by rw [hc2]; simp)
          have hok2 := @Mk.ok ⟨false, []⟩ _ _ _ _ _ _ _ _ _ _ _ hM3
          rw [← hc2] at hM3 hok2
          have hright : c2.length ≤ 120 → ∀ x ∈ c2, rightI x.op x.a x.b = true := fun hl => by
            have hl2 := HL2.out
            have hok1 := @Mk.ok ⟨false, []⟩ _ _ _ _ _ _ _ _ _ _ _ hM2
            rcases hok1 with h | h
            · intro x hx
              rw [hc2] at hx
              rcases List.mem_append.1 hx with h1 | h1
              · rcases h x h1 with h2 | ⟨h2, _⟩
                · exact h2
                · cases h2
              · simp at h1; subst h1; rfl
            · omega
          clear hok2 hM2 hc2
          obtain ⟨vc, vn3, vk3, hv3, ho3, hrow3, hne3, _, _⟩ := hM3.ex
          obtain ⟨oc, capc, rfl⟩ := ownsRow_form ho3
          have hP3 := heap_lt hv3
          have k0 : V3.cell? ⟨P, 0, none⟩ = some (.slice oc c2.length capc) := by simp [World.cell?, hv3]
          have g0 : V3.frozen? ⟨P, 0, none⟩ = false := by simp [World.frozen?, hv3]
          have kr : V3.cell? ⟨w.heap.size, 1, none⟩ = some (.int .i64 0) := by rw [T3.cell (cell_lt x1) (by simp)]; exact hr0 ▸ x1
          by_cases h120 : c2.length ≤ 120
          · have h12 : decide (120 < (c2.length : Int)) = false := decide_eq_false (by omega)
            have h12' : decide (120 < c2.length) = false := decide_eq_false (by omega)
            go_wp2_with fail
            go_ret
            refine ⟨c2, oc, capc, rfl, ho3, fun g hg => ?_, hright h120, by have := HL2.out; omega, h120, tA.then T3⟩
            rw [hg] at hrow3; simp at hrow3; omega
          · have h12 : decide (120 < (c2.length : Int)) = true := decide_eq_true (by omega)
            have h12' : decide (120 < c2.length) = true := decide_eq_true (by omega)
            have hPn : P ≠ w.heap.size := by omega
            have zV : W.heap.size ≤ V3.heap.size := T3.size
            have es4 : (V3.setCell ⟨P, 0, none⟩ (.slice (some ⟨V3.heap.size, 0, none⟩) 1 1)).heap.size = V3.heap.size := by simp [World.setCell]
            obtain ⟨V4, hV4⟩ : ∃ V, V = (V3.setCell ⟨P, 0, none⟩ (.slice (some ⟨V3.heap.size, 0, none⟩) 1 1)).alloc (.cells #[.int .i64 39, .int .i64 0, .int .i64 0] 57) := ⟨_, rfl⟩
            have K4 : V4.cell? ⟨P, 0, none⟩ = some (.slice (some ⟨V3.heap.size, 0, none⟩) 1 1) := by rw [hV4]; exact (World.cell?_alloc_past _ _ _ (by rw [es4]; exact hP3)).trans (by simp [go_sem, k0])
            have G4 : V4.frozen? ⟨P, 0, none⟩ = false := by rw [hV4]; exact (World.frozen?_alloc_past _ _ _ (by rw [es4]; exact hP3)).trans (by simp [go_sem, g0])
            have O4 : V4.ownsRow 0 57 3 (.slice (some ⟨V3.heap.size, 0, none⟩) 1 1) 1 [.int .i64 39, .int .i64 0, .int .i64 0] := by
              have := World.ownsRow_lit (base := 0) (e := 57) (size := 3) (V3.setCell ⟨P, 0, none⟩ (.slice (some ⟨V3.heap.size, 0, none⟩) 1 1)) #[.int .i64 39, .int .i64 0, .int .i64 0] 1 (Nat.zero_le _) (by decide) rfl
              rw [es4] at this
              rw [hV4]; exact this
            have t4 : Tch [P] V3 V4 := by rw [hV4]; exact ((Tch.refl [P] V3).setCell (.inl (by simp)) _).alloc _
            have T4 : Tch [] W V4 := T3.trans t4 (by simp) (fun i hi hx => by simp at hx; omega)
            have kr4 := (t4.cell (p := ⟨w.heap.size, 1, none⟩) (cell_lt kr) (by simp; omega)).trans kr
            have z4 : V3.heap.size + 1 ≤ V4.heap.size := by rw [hV4]; simp [World.setCell]
            clear t4 es4
            go_upto_region 26 with fail
            rw [← hV4]
            clear hV4 k0 g0
            go_wp2_with fail
            go_ret
            exact ⟨[⟨39, 0, 0⟩], some ⟨V3.heap.size, 0, none⟩, 1, rfl, O4, fun g hg => by simp [Value.ownBlock] at hg; omega, by intro x hx; simp at hx; subst hx; rfl, by simp, by simp, tA.then T4⟩

        · obtain ⟨nn, hnn⟩ : ∃ c : List Int, c = [] := ⟨_, rfl⟩
          rw [← hnn] at hM1
          have hrb : (mt.result != 0) = true := by simp [hr0]
          go_wp2_with fail
          refine (@mk_any ⟨false, []⟩ _ P P [] nn 0 kd hM1 (fun x hx => by rw [hnn] at hx; cases hx) (by rw [hnn]; simp) (by omega) (by simp) hk10 mt.result (by omega)).mono ?_
          rintro e w2 ⟨rfl, c1, q1, r1, hM2, L2⟩
          have hc1l := L2.l
          have T2 : Tch [] W w2 := T1.trans L2.t (by simp) (fun i hi hx => by simp at hx; omega)
          have hr1W : W.heap.size ≤ r1 := by have := L2.r; have := T1.size; omega
          simp only [List.length_nil, Nat.zero_add] at hc1l
          clear L2 hM1 hnn
          go_wp2_with fail
          refine (@mk_put ⟨false, []⟩ w2 P r1 c1 nn q1 kd 0 hM2 39 0 0 (.inl rfl) (by omega)).mono ?_
          rintro e V3 ⟨rfl, r3, hM3, L3⟩
          have T3 : Tch [] W V3 := T2.trans L3.t (by simp) (fun i hi hx => by simp at hx; omega)
          have hr3 := L3.r
          have hz3 := T2.size
          clear L3
          obtain ⟨c2, hc2⟩ : ∃ c2, c2 = c1 ++ [⟨39, 0, 0⟩] := ⟨_, rfl⟩
          have HL2 := Lib.hid (show c2.length = c1.length + 1 by rw [hc2]; simp)
          have hok2 := @Mk.ok ⟨false, []⟩ _ _ _ _ _ _ _ _ _ _ _ hM3
          rw [← hc2] at hM3 hok2
          have hright : c2.length ≤ 120 → ∀ x ∈ c2, rightI x.op x.a x.b = true := fun hl => by
            have hl2 := HL2.out
            have hok1 := @Mk.ok ⟨false, []⟩ _ _ _ _ _ _ _ _ _ _ _ hM2
            rcases hok1 with h | h
            · intro x hx
              rw [hc2] at hx
              rcases List.mem_append.1 hx with h1 | h1
              · rcases h x h1 with h2 | ⟨h2, _⟩
                · exact h2
                · cases h2
              · simp at h1; subst h1; rfl
            · omega
          clear hok2 hM2 hc2
          obtain ⟨vc, vn3, vk3, hv3, ho3, hrow3, hne3, _, _⟩ := hM3.ex
          obtain ⟨oc, capc, rfl⟩ := ownsRow_form ho3
          have hP3 := heap_lt hv3
          have k0 : V3.cell? ⟨P, 0, none⟩ = some (.slice oc c2.length capc) := by simp [World.cell?, hv3]
          have g0 : V3.frozen? ⟨P, 0, none⟩ = false := by simp [World.frozen?, hv3]
          have kr : V3.cell? ⟨w.heap.size, 1, none⟩ = some (.int .i64 mt.result) := by rw [T3.cell (cell_lt x1) (by simp)]; exact x1
          by_cases h120 : c2.length ≤ 120
          · have h12 : decide (120 < (c2.length : Int)) = false := decide_eq_false (by omega)
            have h12' : decide (120 < c2.length) = false := decide_eq_false (by omega)
            go_wp2_with fail
            go_ret
            refine ⟨c2, oc, capc, rfl, ho3, fun g hg => ?_, hright h120, by have := HL2.out; omega, h120, tA.then T3⟩
            rw [hg] at hrow3; simp at hrow3; omega
          · have h12 : decide (120 < (c2.length : Int)) = true := decide_eq_true (by omega)
            have h12' : decide (120 < c2.length) = true := decide_eq_true (by omega)
            have hPn : P ≠ w.heap.size := by omega
            have zV : W.heap.size ≤ V3.heap.size := T3.size
            have es4 : (V3.setCell ⟨P, 0, none⟩ (.slice (some ⟨V3.heap.size, 0, none⟩) 1 1)).heap.size = V3.heap.size := by simp [World.setCell]
            obtain ⟨V4, hV4⟩ : ∃ V, V = (V3.setCell ⟨P, 0, none⟩ (.slice (some ⟨V3.heap.size, 0, none⟩) 1 1)).alloc (.cells #[.int .i64 39, .int .i64 0, .int .i64 0] 57) := ⟨_, rfl⟩
            have K4 : V4.cell? ⟨P, 0, none⟩ = some (.slice (some ⟨V3.heap.size, 0, none⟩) 1 1) := by rw [hV4]; exact (World.cell?_alloc_past _ _ _ (by rw [es4]; exact hP3)).trans (by simp [go_sem, k0])
            have G4 : V4.frozen? ⟨P, 0, none⟩ = false := by rw [hV4]; exact (World.frozen?_alloc_past _ _ _ (by rw [es4]; exact hP3)).trans (by simp [go_sem, g0])
            have O4 : V4.ownsRow 0 57 3 (.slice (some ⟨V3.heap.size, 0, none⟩) 1 1) 1 [.int .i64 39, .int .i64 0, .int .i64 0] := by
              have := World.ownsRow_lit (base := 0) (e := 57) (size := 3) (V3.setCell ⟨P, 0, none⟩ (.slice (some ⟨V3.heap.size, 0, none⟩) 1 1)) #[.int .i64 39, .int .i64 0, .int .i64 0] 1 (Nat.zero_le _) (by decide) rfl
              rw [es4] at this
              rw [hV4]; exact this
            have t4 : Tch [P] V3 V4 := by rw [hV4]; exact ((Tch.refl [P] V3).setCell (.inl (by simp)) _).alloc _
            have T4 : Tch [] W V4 := T3.trans t4 (by simp) (fun i hi hx => by simp at hx; omega)
            have kr4 := (t4.cell (p := ⟨w.heap.size, 1, none⟩) (cell_lt kr) (by simp; omega)).trans kr
            have z4 : V3.heap.size + 1 ≤ V4.heap.size := by rw [hV4]; simp [World.setCell]
            clear t4 es4
            go_upto_region 26 with fail
            rw [← hV4]
            clear hV4 k0 g0
            have hP4 : P < V4.heap.size := by omega
            have es5 : (V4.setCell ⟨P, 0, none⟩ (.slice (some ⟨V4.heap.size, 0, none⟩) 2 2)).heap.size = V4.heap.size := by simp [World.setCell]
            obtain ⟨V5, hV5⟩ : ∃ V, V = (V4.setCell ⟨P, 0, none⟩ (.slice (some ⟨V4.heap.size, 0, none⟩) 2 2)).alloc (.cells #[.int .i64 1, .int .i64 0, .int .i64 0, .int .i64 39, .int .i64 0, .int .i64 0] 57) := ⟨_, rfl⟩
            have K5 : V5.cell? ⟨P, 0, none⟩ = some (.slice (some ⟨V4.heap.size, 0, none⟩) 2 2) := by rw [hV5]; exact (World.cell?_alloc_past _ _ _ (by rw [es5]; exact hP4)).trans (by simp [go_sem, K4])
            have O5 : V5.ownsRow 0 57 3 (.slice (some ⟨V4.heap.size, 0, none⟩) 2 2) 2 [.int .i64 1, .int .i64 0, .int .i64 0, .int .i64 39, .int .i64 0, .int .i64 0] := by
              have := World.ownsRow_lit (base := 0) (e := 57) (size := 3) (V4.setCell ⟨P, 0, none⟩ (.slice (some ⟨V4.heap.size, 0, none⟩) 2 2)) #[.int .i64 1, .int .i64 0, .int .i64 0, .int .i64 39, .int .i64 0, .int .i64 0] 2 (Nat.zero_le _) (by decide) rfl
              rw [es5] at this
              rw [hV5]; exact this
            have t5 : Tch [P] V4 V5 := by rw [hV5]; exact ((Tch.refl [P] V4).setCell (.inl (by simp)) _).alloc _
            have T5 : Tch [] W V5 := T4.trans t5 (by simp) (fun i hi hx => by simp at hx; omega)
            clear t5 es5 O4
            have hrb : (mt.result != 0) = true := by simp [hr0]
            go_upto_region 28 with fail
            rw [← hV5]
            clear hV5
            go_wp2_with fail
            go_ret
            exact ⟨[⟨1, 0, 0⟩, ⟨39, 0, 0⟩], some ⟨V4.heap.size, 0, none⟩, 2, rfl, O5, fun g hg => by simp [Value.ownBlock] at hg; omega, by intro x hx; simp at hx; rcases hx with rfl | rfl <;> rfl, by simp, by simp, tA.then T5⟩

end Go.Proofs.YteebapopeaafhaaGreatDoor
