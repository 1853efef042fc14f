/-
  HELPERS over any program: Code's maker together with the list of where its statements begin. Conditions: none.
-/
import Derived.Test.YteebapopeaafhaaGreatDoorHHCode0
namespace Go.Tcn
open Go.RowKit
set_option linter.unusedVariables false
set_option linter.unusedSimpArgs false
/-- The maker (jumps may be open) and the beginnings of its statements, in st. -/
structure Cd (T E I : TypeId) (G : Nat) (W wz : World) (P row : Nat) (st : Value) (sl : List Int) (c : List Ins) (n : List Int) (q : Nat) (kd : List Int) : Prop where
  mak : @Mk ⟨true, st.ownBlock.toList⟩ T E G wz P row c n q kd 0
  own : wz.ownsRow 0 I 1 st sl.length (ints sl)
  new : ∀ g, st.ownBlock = some g → W.heap.size ≤ g ∧ g ≠ P ∧ g ≠ row
  row : W.heap.size ≤ row
  sl : ∀ s ∈ sl, 0 ≤ s ∧ s ≤ c.length
  t : Tch [] W wz
theorem Cd.tch {T E I : TypeId} {G : Nat} {W wz w' : World} {P row : Nat} {st : Value} {sl : List Int} {c : List Ins} {n : List Int} {q : Nat} {kd : List Int} (h : Cd T E I G W wz P row st sl c n q kd) (t : Tch [] wz w') : Cd T E I G W w' P row st sl c n q kd :=
  ⟨@Mk.tch ⟨true, st.ownBlock.toList⟩ _ _ _ _ _ _ _ _ _ _ _ _ _ h.mak t (by simp), ownsRow_tch h.own t (by simp), h.new, h.row, h.sl, h.t.then t⟩
/-- A beginning is appended. -/
theorem Cd.push {T E I : TypeId} {G : Nat} {W wz w1 : World} {P row : Nat} {st : Value} {sl : List Int} {c : List Ins} {n : List Int} {q : Nat} {kd : List Int} (h : Cd T E I G W wz P row st sl c n q kd) (hG : G < W.heap.size) (hPW : W.heap.size ≤ P) {o : Obj} {ao : Option Addr} {cap : Nat}
    (hown : w1.ownsRow 0 I 1 (.slice ao (sl.length + 1) cap) (sl.length + 1) (ints sl ++ [.int .i64 c.length])) (hgrow : (wz.alloc o).grownBy w1 st.ownBlock) (hat : (Value.slice ao (sl.length + 1) cap).ownBlock = st.ownBlock ∨ (Value.slice ao (sl.length + 1) cap).ownBlock = some (wz.heap.size + 1)) :
    Cd T E I G W w1 P row (.slice ao (sl.length + 1) cap) (sl ++ [(c.length : Int)]) c n q kd := by
  have hP := @Mk.lt ⟨true, st.ownBlock.toList⟩ _ _ _ _ _ _ _ _ _ _ _ h.mak
  have hR := @Mk.row_lt ⟨true, st.ownBlock.toList⟩ _ _ _ _ _ _ _ _ _ _ _ h.mak
  have hz := h.t.size
  have tw : Tch st.ownBlock.toList wz w1 := (((Tch.refl [] wz).alloc o).nil).grown hgrow (fun g hg => .inl (by simp [hg]))
  have hnew : ∀ g, (Value.slice ao (sl.length + 1) cap).ownBlock = some g → st.ownBlock = some g ∨ g = wz.heap.size + 1 := fun g hg => by
    rcases hat with e | e
    · exact .inl (e ▸ hg)
    · rw [e] at hg; simp at hg; exact .inr hg.symm
  have m1 : @Mk ⟨true, st.ownBlock.toList ++ (Value.slice ao (sl.length + 1) cap).ownBlock.toList⟩ T E G wz P row c n q kd 0 := h.mak.refar (fun i hi hlt => by
    rcases List.mem_append.1 hi with h | h
    · exact h
    · rcases hnew i (by simpa using h) with e | e
      · simp [e]
      · omega)
  have hfar : ∀ i ∈ st.ownBlock.toList ++ (Value.slice ao (sl.length + 1) cap).ownBlock.toList, i ≠ P ∧ i ≠ row ∧ i ≠ G := fun i hi => by
    have hs : st.ownBlock = some i ∨ i = wz.heap.size + 1 := by
      rcases List.mem_append.1 hi with h | h
      · exact .inl (by simpa using h)
      · exact hnew i (by simpa using h)
    rcases hs with e | e
    · have := h.new i e; omega
    · omega
  have m2 := m1.turn (tw.mono (fun i _ hi => List.mem_append_left _ hi)) hfar
  refine ⟨m2.refar (fun i hi _ => List.mem_append_right _ hi), by simpa [ints] using hown, fun g hg => ?_, h.row, fun s hs => ?_, h.t.trans tw (by simp) (fun i hi hx => ?_)⟩
  · have := hfar g (List.mem_append_right _ (by simp [hg]))
    rcases hnew g hg with e | e
    · have := h.new g e; omega
    · omega
  · rcases List.mem_append.1 hs with h' | h'
    · exact h.sl s h'
    · simp at h'; subst h'; omega
  · have := h.new i (by simpa using hx); omega
/-- The maker's statement is made. -/
theorem Cd.made {T E I : TypeId} {G : Nat} {W wz w1 : World} {P row : Nat} {st : Value} {sl : List Int} {c : List Ins} {n : List Int} {q : Nat} {kd : List Int} {B : Nat} (h : Cd T E I G W wz P row st sl c n q kd) (hPW : W.heap.size ≤ P)
    (hm : @MkTo ⟨true, st.ownBlock.toList⟩ T E G P row c n q kd 0 B wz w1) : ∃ row' c' q', Cd T E I G W w1 P row' st sl c' n q' kd ∧ c.length ≤ c'.length ∧ c'.length ≤ c.length + B ∧ q' ≤ q + B := by
  obtain ⟨c', q', row', m, L⟩ := hm
  have hlt := World.ownsRow.lt h.own
  have hr := L.r
  have hl := L.l
  have hq := L.q
  have hz := h.t.size
  refine ⟨row', c', q', ⟨m, ownsRow_tch h.own L.t (fun g hg hx => ?_), fun g hg => ?_, ?_, fun s hs => ?_, h.t.trans L.t (by simp) (fun i hi hx => ?_)⟩, by omega, by omega, by omega⟩
  · have := h.new g hg; simp at hx; omega
  · have := h.new g hg; have := (hlt g hg).2; omega
  · have := h.row; omega
  · have := h.sl s hs; omega
  · have := h.row; simp at hx; omega
theorem codeCells_cons (x : Ins) (c : List Ins) : codeCells (x :: c) = .int .i64 x.op :: .int .i64 x.a :: .int .i64 x.b :: codeCells c := rfl
theorem codeCells_at (c : List Ins) (j : Nat) (hj : j < c.length) : (codeCells c)[j * 3]? = some (.int .i64 c[j].op) ∧ (codeCells c)[j * 3 + 1]? = some (.int .i64 c[j].a) := by
  induction c generalizing j with
  | nil => simp at hj
  | cons x c ih =>
    cases j with
    | zero => exact ⟨rfl, rfl⟩
    | succ j =>
      have := ih j (by simpa using hj)
      rw [codeCells_cons, show (j + 1) * 3 = j * 3 + 1 + 1 + 1 by omega, show j * 3 + 1 + 1 + 1 + 1 = (j * 3 + 1) + 1 + 1 + 1 by omega]
      simpa using this
theorem codeCells_set (c : List Ins) (j : Nat) (hj : j < c.length) (a : Int) : (codeCells c).set (j * 3 + 1) (.int .i64 a) = codeCells (c.set j ⟨c[j].op, a, c[j].b⟩) := by
  induction c generalizing j with
  | nil => simp at hj
  | cons x c ih =>
    cases j with
    | zero => rfl
    | succ j =>
      have := ih j (by simpa using hj)
      rw [codeCells_cons, show (j + 1) * 3 + 1 = (j * 3 + 1) + 1 + 1 + 1 by omega]
      simp only [List.set_cons_succ, List.getElem_cons_succ, codeCells_cons, this]
theorem codeCells_len' (c : List Ins) : (codeCells c).length = c.length * 3 := by
  induction c with
  | nil => rfl
  | cons x c ih => rw [codeCells_cons]; simp [ih]; omega
/-- One instruction's operand is set anew. -/
theorem Cd.setAt {T E I : TypeId} {G : Nat} {W wz : World} {P row : Nat} {st : Value} {sl : List Int} {c : List Ins} {n : List Int} {q : Nat} {kd : List Int} (h : Cd T E I G W wz P row st sl c n q kd) (hG : G < W.heap.size) (hPW : W.heap.size ≤ P) (j : Nat) (hj : j < c.length) (a : Int)
    (hok : @okC ⟨true, st.ownBlock.toList⟩ (c.set j ⟨c[j].op, a, c[j].b⟩)) : Cd T E I G W (wz.setCell ⟨row, j * 3 + 1, none⟩ (.int .i64 a)) P row st sl (c.set j ⟨c[j].op, a, c[j].b⟩) n q kd := by
  obtain ⟨vc, vn, vk, hv, ho, hrow, hne, hn, hk⟩ := @Mk.ex ⟨true, _⟩ _ _ _ _ _ _ _ _ _ _ _ h.mak
  obtain ⟨g, cap, rfl, _, _⟩ := World.ownsRow.form ho (by omega)
  have hrg : row = g := by simpa [Value.ownBlock] using hrow
  subst hrg
  have hrp : row ≠ P := by simpa [Value.ownBlock] using hne
  have hr := h.row
  have T1 : Tch [row] wz (wz.setCell ⟨row, j * 3 + 1, none⟩ (.int .i64 a)) := (Tch.refl _ wz).setCell (.inl (by simp)) _
  have hst := (ho.stored (j * 3 + 1) (.int .i64 a)).1
  rw [codeCells_set c j hj] at hst
  have hls : (c.set j ⟨c[j].op, a, c[j].b⟩).length = c.length := by simp
  have hsub : ∀ i ∈ [row], i < wz.heap.size → i ∈ P :: row :: st.ownBlock.toList := fun i hi _ => by simp at hi; simp [hi]
  refine ⟨@Mk.mk ⟨true, st.ownBlock.toList⟩ T E G _ P row _ n q kd 0 ⟨_, vn, vk, ?_, by rw [hls]; exact hst, rfl, hne, hn.tch T1 hsub, hk.tch T1 hsub⟩ hok (@Mk.gp ⟨true, _⟩ _ _ _ _ _ _ _ _ _ _ _ h.mak) (fun i hi => ?_), ownsRow_tch h.own T1 (fun g hg hx => ?_), h.new, h.row, fun s hs => by rw [hls]; exact h.sl s hs, h.t.trans T1 (by simp) (fun i hi hx => by simp at hx; omega)⟩
  · rw [T1.block P (heap_lt hv) (by simp; omega)]; exact hv
  · obtain ⟨op, h1, h2⟩ := @Mk.bins ⟨true, _⟩ _ _ _ _ _ _ _ _ _ _ _ h.mak i hi
    have hgp := @Mk.gp ⟨true, _⟩ _ _ _ _ _ _ _ _ _ _ _ h.mak
    exact ⟨op, h1, by rw [T1.cell (cell_lt h2) (by simp; omega)]; exact h2⟩
  · have := h.new g hg; simp at hx; omega
/-- No jump is open any more. -/
theorem Cd.close {T E I : TypeId} {G : Nat} {W wz : World} {P row : Nat} {st : Value} {sl : List Int} {c : List Ins} {n : List Int} {q : Nat} {kd : List Int} (h : Cd T E I G W wz P row st sl c n q kd) (hr : 120 ≤ c.length ∨ ∀ (i : Nat) x, i < c.length → c[i]? = some x → rightI x.op x.a x.b = true) : @Mk ⟨false, []⟩ T E G wz P row c n q kd 0 := by
  have m := h.mak.refar (F' := []) (by simp)
  refine @Mk.mk ⟨false, []⟩ T E G wz P row c n q kd 0 (@Mk.ex ⟨true, []⟩ _ _ _ _ _ _ _ _ _ _ _ m) ?_ (@Mk.gp ⟨true, []⟩ _ _ _ _ _ _ _ _ _ _ _ m) (@Mk.bins ⟨true, []⟩ _ _ _ _ _ _ _ _ _ _ _ m)
  rcases hr with h | h
  · exact .inr h
  · refine .inl (fun x hx => .inl ?_)
    obtain ⟨i, hi, rfl⟩ := List.getElem_of_mem hx
    exact h i _ hi (by simp [hi])
theorem right_jump (a : Int) (h : 0 ≤ a ∧ a ≤ 119) : rightI 24 a 0 = true := by unfold rightI limLo limHi; simp; omega
theorem right_open {a b : Int} (h : rightI 24 a b = true) : 0 ≤ a := by
  unfold rightI limLo limHi at h
  simp at h
  omega
theorem numsOf_i6 (l : List Rw) (h : ∀ x ∈ l, I6 x.1 ∧ I6 x.2.1 ∧ I6 x.2.2.1 ∧ I6 x.2.2.2) : I64s (numsOf l) := fun y hy => by
  unfold numsOf at hy
  rw [List.mem_flatten] at hy
  obtain ⟨z, hz, hy⟩ := hy
  obtain ⟨x, hx, rfl⟩ := List.mem_map.1 hz
  have := h x hx
  simp at hy
  rcases hy with rfl | rfl | rfl
  · exact this.2.1
  · exact this.2.2.1
  · exact this.2.2.2
theorem still_load_agg {P : Program} {o : Oper} {a : Act} {w : World} {K : Act → Prop} (ty : TypeId) (x : Operand) (ho : o.op = .load ty x)
    (ad : Addr) (hx : a.eval x = .pointer (some ad)) (cs : Array Value) (d : TypeDesc) (hc : ∀ (j : Nat) u, cs.toList[j]? = some u → w.cell? (ad.add j) = some u)
    (hu : P.underlying ty = some d) (hd : (match d with | .struct _ | .array _ _ => true | _ => false) = true) (hi : (P.info? ty).map (·.size) = some cs.size)
    (h : K (a.put o.dst (.agg cs))) : o.still P a w K := by
  have e : (execOp a.eval o).run P w = .ok (.value (.agg cs)) w := by
    unfold execOp
    simp only [ho, hx, Instr.loadAt, Instr.sureAddr, Sem.run_bind, Sem.run_pure, Result.andThen_ok, run_loadVar_agg w ad ty cs d hc hu hd hi]
  unfold Oper.still
  rw [e]
  exact ⟨rfl, h⟩
end Go.Tcn
