/-
  CONTRACTS: verify: goes; a walk's state in memory. Conditions: stacks of 8 at most.
-/
import Derived.Test.YtpabkjjonbhdeaaDoorHVe9
import Derived.Test.YtpabkjjonbhdeaaDoorHVe7
import Derived.Test.YtpabkjjonbhdeaaDoorHLnk2
namespace Go.Tcn
open Go.RowKit
set_option linter.unusedVariables false
set_option linter.unusedSimpArgs false
theorem box_setv {w : World} {g : Nat} {cs : Array Value} {T : TypeId} (h : w.heap[g]? = some (.cells cs T (0, 0))) (j : Nat) (u : Value) : (w.setCell ⟨g, j, none⟩ u).heap[g]? = some (.cells (cs.setIfInBounds j u) T (0, 0)) := by
  simp [World.setCell, Array.getElem?_modify, h]
/-- The blocks that a walk turns. -/
def WV.ms (V : WV) : List Nat := [V.bs, V.bh, V.bt]
end Go.Tcn
namespace Go.Proofs.YtpabkjjonbhdeaaDoor
open Go.RowKit Go.Tcn
set_option linter.unusedVariables false
set_option linter.unusedSimpArgs false
/-- A walk's state in memory. -/
structure StR (w : World) (V : WV) (n : Nat) (σ : VS) : Prop where
  ne1 : V.bs ≠ V.bh
  ne2 : V.bs ≠ V.bt
  ne3 : V.bh ≠ V.bt
  sl : σ.sts.length = n
  hl : σ.has.length = n
  tl : σ.todo.length = n
  hb : ∃ vs : List Value, vs.length = n ∧ w.heap[V.bs]? = some (.cells vs.toArray 22 (0, 0)) ∧ ∀ k, k < n → ∃ ao c, vs[k]? = some (.slice ao (σ.sts.getD k []).length c) ∧ RInts w V.ms (.slice ao (σ.sts.getD k []).length c) (σ.sts.getD k []) ∧ (σ.sts.getD k []).length ≤ 8
  hh : w.heap[V.bh]? = some (.cells (σ.has.map Value.bool).toArray 4 (0, 0))
  ht : w.heap[V.bt]? = some (.cells (σ.todo.map Value.bool).toArray 4 (0, 0))
theorem StR.tch {w w' : World} {V : WV} {n : Nat} {σ : VS} (h : StR w V n σ) (t : Tch [] w w') : StR w' V n σ := by
  obtain ⟨h1, h2, h3, h4, h5, h6, ⟨vs, v1, v2, v3⟩, h8, h9⟩ := h
  refine ⟨h1, h2, h3, h4, h5, h6, ⟨vs, v1, (t.block _ (heap_lt v2) (by simp)).trans v2, fun k hk => ?_⟩, (t.block _ (heap_lt h8) (by simp)).trans h8, (t.block _ (heap_lt h9) (by simp)).trans h9⟩
  obtain ⟨ao, c, e1, e2, e3⟩ := v3 k hk
  exact ⟨ao, c, e1, e2.tch t (by simp), e3⟩
theorem list_set_toArray (l : List Value) (k : Nat) (v : Value) : l.toArray.setIfInBounds k v = (l.set k v).toArray := by simp
theorem StR.sts {w : World} {V : WV} {n : Nat} {σ : VS} (h : StR w V n σ) {k : Nat} (hk : k < n) {ao : Option Addr} {c : Nat} {l : List Int} (hl : RInts w V.ms (.slice ao l.length c) l) (h8 : l.length ≤ 8) : StR (w.setCell ⟨V.bs, k, none⟩ (.slice ao l.length c)) V n { σ with sts := σ.sts.set k l } := by
  obtain ⟨h1, h2, h3, h4, h5, h6, ⟨vs, v1, v2, v3⟩, h7, h9⟩ := h
  have tS : Tch [V.bs] w (w.setCell ⟨V.bs, k, none⟩ (.slice ao l.length c)) := (Tch.refl [V.bs] w).setCell (.inl (by simp)) _
  have sS : ∀ i ∈ [V.bs], i < w.heap.size → i ∈ V.ms := fun i hi _ => by simp at hi; simp [WV.ms, hi]
  refine ⟨h1, h2, h3, by simp [h4], h5, h6, ⟨vs.set k (.slice ao l.length c), by simp [v1], ?_, fun j hj => ?_⟩, (tS.block _ (heap_lt h7) (by simp; exact fun e => h1 e.symm)).trans h7, (tS.block _ (heap_lt h9) (by simp; exact fun e => h2 e.symm)).trans h9⟩
  · rw [← list_set_toArray]
    exact box_setv v2 k _
  · by_cases hjk : k = j
    · subst hjk
      have e : (σ.sts.set k l).getD k [] = l := by simp [List.getD, List.getElem?_set, h4, hk]
      simp only [e]
      exact ⟨ao, c, by simp [List.getElem?_set, v1, hk], RInts.tch hl tS sS, h8⟩
    · have e : (σ.sts.set k l).getD j [] = σ.sts.getD j [] := by simp [List.getD, List.getElem?_set, hjk]
      obtain ⟨ao', c', e1, e2, e3⟩ := v3 j hj
      simp only [e]
      exact ⟨ao', c', by simp [List.getElem?_set, hjk, e1], RInts.tch e2 tS sS, e3⟩
theorem StR.hass {w : World} {V : WV} {n : Nat} {σ : VS} (h : StR w V n σ) (k : Nat) (b : Bool) : StR (w.setCell ⟨V.bh, k, none⟩ (.bool b)) V n { σ with has := σ.has.set k b } := by
  obtain ⟨h1, h2, h3, h4, h5, h6, ⟨vs, v1, v2, v3⟩, h7, h9⟩ := h
  have tS : Tch [V.bh] w (w.setCell ⟨V.bh, k, none⟩ (.bool b)) := (Tch.refl [V.bh] w).setCell (.inl (by simp)) _
  have sS : ∀ i ∈ [V.bh], i < w.heap.size → i ∈ V.ms := fun i hi _ => by simp at hi; simp [WV.ms, hi]
  refine ⟨h1, h2, h3, h4, by simp [h5], h6, ⟨vs, v1, (tS.block _ (heap_lt v2) (by simp; exact h1)).trans v2, fun j hj => ?_⟩, ?_, (tS.block _ (heap_lt h9) (by simp; exact fun e => h3 e.symm)).trans h9⟩
  · obtain ⟨ao', c', e1, e2, e3⟩ := v3 j hj
    exact ⟨ao', c', e1, RInts.tch e2 tS sS, e3⟩
  · simp only [List.map_set]
    rw [← list_set_toArray]
    exact box_setv h7 k _
theorem StR.todos {w : World} {V : WV} {n : Nat} {σ : VS} (h : StR w V n σ) (k : Nat) (b : Bool) : StR (w.setCell ⟨V.bt, k, none⟩ (.bool b)) V n { σ with todo := σ.todo.set k b } := by
  obtain ⟨h1, h2, h3, h4, h5, h6, ⟨vs, v1, v2, v3⟩, h7, h9⟩ := h
  have tS : Tch [V.bt] w (w.setCell ⟨V.bt, k, none⟩ (.bool b)) := (Tch.refl [V.bt] w).setCell (.inl (by simp)) _
  have sS : ∀ i ∈ [V.bt], i < w.heap.size → i ∈ V.ms := fun i hi _ => by simp at hi; simp [WV.ms, hi]
  refine ⟨h1, h2, h3, h4, h5, by simp [h6], ⟨vs, v1, (tS.block _ (heap_lt v2) (by simp; exact h2)).trans v2, fun j hj => ?_⟩, (tS.block _ (heap_lt h7) (by simp; exact h3)).trans h7, ?_⟩
  · obtain ⟨ao', c', e1, e2, e3⟩ := v3 j hj
    exact ⟨ao', c', e1, RInts.tch e2 tS sS, e3⟩
  · simp only [List.map_set]
    rw [← list_set_toArray]
    exact box_setv h9 k _
theorem StR.cs {w : World} {V : WV} {n : Nat} {σ : VS} (h : StR w V n σ) {k : Nat} (hk : k < n) : ∃ ao c, w.cell? ⟨V.bs, k, none⟩ = some (.slice ao (σ.sts.getD k []).length c) ∧ RInts w V.ms (.slice ao (σ.sts.getD k []).length c) (σ.sts.getD k []) ∧ (σ.sts.getD k []).length ≤ 8 := by
  obtain ⟨vs, v1, v2, v3⟩ := h.hb
  obtain ⟨ao, c, e1, e2, e3⟩ := v3 k hk
  exact ⟨ao, c, by simp [World.cell?, v2, e1], e2, e3⟩
theorem StR.ch {w : World} {V : WV} {n : Nat} {σ : VS} (h : StR w V n σ) {k : Nat} (hk : k < n) : w.cell? ⟨V.bh, k, none⟩ = some (.bool (σ.has.getD k false)) := by
  have := h.hl
  simp [World.cell?, h.hh, List.getD, List.getElem?_eq_getElem (show k < σ.has.length by omega)]
theorem StR.ct {w : World} {V : WV} {n : Nat} {σ : VS} (h : StR w V n σ) {k : Nat} (hk : k < n) : w.cell? ⟨V.bt, k, none⟩ = some (.bool (σ.todo.getD k false)) := by
  have := h.tl
  simp [World.cell?, h.ht, List.getD, List.getElem?_eq_getElem (show k < σ.todo.length by omega)]
theorem StR.fs {w : World} {V : WV} {n : Nat} {σ : VS} (h : StR w V n σ) (k : Nat) : w.frozen? ⟨V.bs, k, none⟩ = false := by
  obtain ⟨vs, v1, v2, v3⟩ := h.hb
  simp [World.frozen?, v2]
theorem StR.fh {w : World} {V : WV} {n : Nat} {σ : VS} (h : StR w V n σ) (k : Nat) : w.frozen? ⟨V.bh, k, none⟩ = false := by simp [World.frozen?, h.hh]
theorem StR.ft {w : World} {V : WV} {n : Nat} {σ : VS} (h : StR w V n σ) (k : Nat) : w.frozen? ⟨V.bt, k, none⟩ = false := by simp [World.frozen?, h.ht]
theorem go_none {n pc : Nat} {σ : VS} {st : List Int} (h1 : pc < n) (h2 : σ.has.getD pc false = true) (h3 : joinAllF (σ.sts.getD pc []) st = none) : goF n σ pc st = .error 14 := by
  unfold goF
  rw [if_neg (by omega), if_neg (by rw [h2]; simp), h3]
theorem go_same {n pc : Nat} {σ : VS} {st j : List Int} (h1 : pc < n) (h2 : σ.has.getD pc false = true) (h3 : joinAllF (σ.sts.getD pc []) st = some j) (h4 : j = σ.sts.getD pc []) : goF n σ pc st = .ok σ := by
  unfold goF
  rw [if_neg (by omega), if_neg (by rw [h2]; simp), h3]
  simp only [if_pos h4]
theorem go_more {n pc : Nat} {σ : VS} {st j : List Int} (h1 : pc < n) (h2 : σ.has.getD pc false = true) (h3 : joinAllF (σ.sts.getD pc []) st = some j) (h4 : ¬ j = σ.sts.getD pc []) : goF n σ pc st = .ok ⟨σ.sts.set pc j, σ.has, σ.todo.set pc true⟩ := by
  unfold goF
  rw [if_neg (by omega), if_neg (by rw [h2]; simp), h3]
  simp only [if_neg h4]
theorem join_len : ∀ {l m j : List Int}, joinAllF l m = some j → j.length = l.length
  | [], [], j, h => by simp [joinAllF] at h; subst h; rfl
  | [], b :: m, j, h => by cases h
  | a :: l, [], j, h => by cases h
  | a :: l, b :: m, j, h => by
    unfold joinAllF at h
    split at h
    · cases hk : joinAllF l m with
      | none => rw [hk] at h; cases h
      | some k =>
        rw [hk] at h
        simp at h
        subst h
        simp [join_len hk]
    · cases h
/-- Where a walk goes: an error, or a new state. -/
def GoesR (w' : World) (e : Ending) (V : WV) (n : Nat) : Except Int VS → Prop
  | .error k => e = .returned (.int .i64 k)
  | .ok σ => e = .returned (.int .i64 0) ∧ StR w' V n σ
set_option maxRecDepth 100000 in
set_option maxHeartbeats 16000000 in
theorem ve_goes (w : World) (p : Nat) (i : Img) (m : Mth) (V : WV) (h : WkR w 54 p V.ms i m V) (hp : p ∉ V.ms) (σ : VS) (hσ : StR w V m.code.length σ) (pc : Nat) (hpc : pc ≤ 4294967296) (hcl : m.code.length ≤ 100000) (ao : Option Addr) (c : Nat) (st : List Int) (hs : RInts w V.ms (.slice ao st.length c) st) (hst : st.length ≤ 8) :
    Calls Tryd.prog 27 #[.pointer (some ⟨p, 0, none⟩), .int .i64 (pc : Int), .slice ao st.length c] w fun e w' => GoesR w' e V m.code.length (goF m.code.length σ pc st) ∧ Tch V.ms w w' := by
  have c8 := h.c8
  have c10 := h.c10
  have c11 := h.c11
  have c12 := h.c12
  have hpl := cell_lt c8
  clear h
  generalize m.code.length = n at *
  have hMs : ∀ k ∈ V.ms, k < w.heap.size := fun k hk => by
    simp only [WV.ms, List.mem_cons, List.mem_nil_iff, or_false] at hk
    obtain ⟨vs, _, v2, _⟩ := hσ.hb
    rcases hk with rfl | rfl | rfl
    · exact heap_lt v2
    · exact heap_lt hσ.hh
    · exact heap_lt hσ.ht
  by_cases hlt : pc < n
  · cases hh : σ.has.getD pc false
    · have HR := Lib.hid (show goF n σ pc st = .ok ⟨σ.sts.set pc st, σ.has.set pc true, σ.todo.set pc true⟩ by unfold goF; rw [if_neg (by omega), if_pos hh])
      have d1 := hσ.ch hlt
      rw [hh] at d1
      clear hh
      have hCl := fun W (t : Tch [] w W) => ve_CloneO W ao c st (hs.tch t (by simp) |>.mono (by simp)) (by omega)
      go_enter Tryd.func27, Tryd.ntmps27
      go_upto_region 4 with fail
      refine wp_region_held_drew (S := fun w' => w'.cell? ⟨p, 10, none⟩ = some (.slice (some ⟨V.bs, 0, none⟩) n n) ∧ w'.cell? ⟨p, 11, none⟩ = some (.slice (some ⟨V.bh, 0, none⟩) n n) ∧ w'.cell? ⟨p, 12, none⟩ = some (.slice (some ⟨V.bt, 0, none⟩) n n)) (by kernel_rfl) ⟨c10, c11, c12⟩ (fun hHeld => ?_)
      have rD : Tch [] w w.drew := (Tch.refl [] w).drew
      obtain ⟨z0, hz0⟩ : ∃ z, z = w.drew := ⟨_, rfl⟩
      rw [← hz0] at rD hHeld ⊢
      clear hz0
      refine wpAnyH_take (i := 0) (v := ?_) rfl (by kernel_rfl) (by kernel_rfl) (by kernel_rfl) (fun _ _ _ h => h) (Or.inl ⟨by rfl, ?_⟩) (by assumption) ?_
      rotate_left
      · (intro w hSw; (try dsimp only at hSw); go_simp; try with_reducible rfl)
      try simp only [Act.put, List.getElem_toArray, List.getElem_cons_succ, List.getElem_cons_zero, List.setIfInBounds_toArray, List.set_cons_zero, List.set_cons_succ]
      refine wpAnyH_take (i := 1) (v := ?_) rfl (by kernel_rfl) (by kernel_rfl) (by kernel_rfl) (fun _ _ _ h => h) (Or.inl ⟨by rfl, ?_⟩) (by assumption) ?_
      rotate_left
      · (intro w hSw; (try dsimp only at hSw); go_simp; try with_reducible rfl)
      try simp only [Act.put, List.getElem_toArray, List.getElem_cons_succ, List.getElem_cons_zero, List.setIfInBounds_toArray, List.set_cons_zero, List.set_cons_succ]
      refine wpAnyH_take (i := 2) (v := ?_) rfl (by kernel_rfl) (by kernel_rfl) (by kernel_rfl) (fun _ _ _ h => h) (Or.inl ⟨by rfl, ?_⟩) (by assumption) ?_
      rotate_left
      · (intro w hSw; (try dsimp only at hSw); go_simp; try with_reducible rfl)
      try simp only [Act.put, List.getElem_toArray, List.getElem_cons_succ, List.getElem_cons_zero, List.setIfInBounds_toArray, List.set_cons_zero, List.set_cons_succ]
      refine wpAnyH_take (i := 3) (v := ?_) rfl (by kernel_rfl) (by kernel_rfl) (by kernel_rfl) (fun _ _ _ h => h) (Or.inl ⟨by rfl, ?_⟩) (by assumption) ?_
      rotate_left
      · (intro w hSw; (try dsimp only at hSw); go_simp; try with_reducible rfl)
      try simp only [Act.put, List.getElem_toArray, List.getElem_cons_succ, List.getElem_cons_zero, List.setIfInBounds_toArray, List.set_cons_zero, List.set_cons_succ]
      refine wpAnyH_take (i := 4) (v := ?_) rfl (by kernel_rfl) (by kernel_rfl) (by kernel_rfl) (fun _ _ _ h => h) (Or.inl ⟨by rfl, ?_⟩) (by assumption) ?_
      rotate_left
      · (intro w hSw; (try dsimp only at hSw); go_simp; try with_reducible rfl)
      try simp only [Act.put, List.getElem_toArray, List.getElem_cons_succ, List.getElem_cons_zero, List.setIfInBounds_toArray, List.set_cons_zero, List.set_cons_succ]
      refine wpAnyH_take (i := 5) (v := ?_) rfl (by kernel_rfl) (by kernel_rfl) (by kernel_rfl) (fun _ _ _ h => h) (Or.inl ⟨by rfl, ?_⟩) (by assumption) ?_
      rotate_left
      · (intro w hSw; (try dsimp only at hSw); go_simp; try with_reducible rfl)
      try simp only [Act.put, List.getElem_toArray, List.getElem_cons_succ, List.getElem_cons_zero, List.setIfInBounds_toArray, List.set_cons_zero, List.set_cons_succ]
      refine wpAnyH_take (i := 6) (v := ?_) rfl (by kernel_rfl) (by kernel_rfl) (by kernel_rfl) (fun _ _ _ h => h) (Or.inl ⟨by rfl, ?_⟩) (by assumption) ?_
      rotate_left
      · (intro w hSw; (try dsimp only at hSw); go_simp; try with_reducible rfl)
      try simp only [Act.put, List.getElem_toArray, List.getElem_cons_succ, List.getElem_cons_zero, List.setIfInBounds_toArray, List.set_cons_zero, List.set_cons_succ]
      refine wpAnyH_take (i := 7) (v := ?_) rfl (by kernel_rfl) (by kernel_rfl) (by kernel_rfl) (fun _ _ _ h => h) (Or.inl ⟨by rfl, ?_⟩) (by assumption) ?_
      rotate_left
      · (intro w hSw; (try dsimp only at hSw); go_simp; try with_reducible rfl)
      try simp only [Act.put, List.getElem_toArray, List.getElem_cons_succ, List.getElem_cons_zero, List.setIfInBounds_toArray, List.set_cons_zero, List.set_cons_succ]
      refine wpAnyH_take (i := 8) (v := ?_) rfl (by kernel_rfl) (by kernel_rfl) (by kernel_rfl) (fun _ _ _ h => h) (Or.inl ⟨by rfl, ?_⟩) (by assumption) ?_
      rotate_left
      · (intro w hSw; (try dsimp only at hSw); go_simp; try with_reducible rfl)
      try simp only [Act.put, List.getElem_toArray, List.getElem_cons_succ, List.getElem_cons_zero, List.setIfInBounds_toArray, List.set_cons_zero, List.set_cons_succ]
      refine wpAnyH_take (i := 9) (v := ?_) rfl (by kernel_rfl) (by kernel_rfl) (by kernel_rfl) (fun _ _ _ h => h) (Or.inl ⟨by rfl, ?_⟩) (by assumption) ?_
      rotate_left
      · (intro w hSw; (try dsimp only at hSw); go_simp; try with_reducible rfl)
      try simp only [Act.put, List.getElem_toArray, List.getElem_cons_succ, List.getElem_cons_zero, List.setIfInBounds_toArray, List.set_cons_zero, List.set_cons_succ]
      refine wpAnyH_take (i := 10) (v := ?_) rfl (by kernel_rfl) (by kernel_rfl) (by kernel_rfl) (fun _ _ _ h => h) (Or.inl ⟨by rfl, ?_⟩) (by assumption) ?_
      rotate_left
      · (intro w hSw; (try dsimp only at hSw); go_simp; try with_reducible rfl)
      try simp only [Act.put, List.getElem_toArray, List.getElem_cons_succ, List.getElem_cons_zero, List.setIfInBounds_toArray, List.set_cons_zero, List.set_cons_succ]
      refine wpAnyH_take (i := 11) (v := ?_) rfl (by kernel_rfl) (by kernel_rfl) (by kernel_rfl) (fun _ _ _ h => h) (Or.inl ⟨by rfl, ?_⟩) (by assumption) ?_
      rotate_left
      · (intro w hSw; (try dsimp only at hSw); go_simp; try with_reducible rfl)
      try simp only [Act.put, List.getElem_toArray, List.getElem_cons_succ, List.getElem_cons_zero, List.setIfInBounds_toArray, List.set_cons_zero, List.set_cons_succ]
      refine wpAnyH_take (i := 12) (v := ?_) rfl (by kernel_rfl) (by kernel_rfl) (by kernel_rfl) (fun _ _ _ h => h) (Or.inl ⟨by rfl, ?_⟩) (by assumption) ?_
      rotate_left
      · (intro w hSw; (try dsimp only at hSw); go_simp; try with_reducible rfl)
      try simp only [Act.put, List.getElem_toArray, List.getElem_cons_succ, List.getElem_cons_zero, List.setIfInBounds_toArray, List.set_cons_zero, List.set_cons_succ]
      refine wpAnyH_take (i := 13) (v := ?_) rfl (by kernel_rfl) (by kernel_rfl) (by kernel_rfl) (fun _ _ _ h => h) (Or.inl ⟨by rfl, ?_⟩) (by assumption) ?_
      rotate_left
      · (intro w hSw; (try dsimp only at hSw); go_simp; try with_reducible rfl)
      try simp only [Act.put, List.getElem_toArray, List.getElem_cons_succ, List.getElem_cons_zero, List.setIfInBounds_toArray, List.set_cons_zero, List.set_cons_succ]
      refine wpAnyH_take (i := 14) (v := ?_) rfl (by kernel_rfl) (by kernel_rfl) (by kernel_rfl) (fun _ _ _ h => h) (Or.inl ⟨by rfl, ?_⟩) (by assumption) ?_
      rotate_left
      · (intro w hSw; (try dsimp only at hSw); go_simp; try with_reducible rfl)
      try simp only [Act.put, List.getElem_toArray, List.getElem_cons_succ, List.getElem_cons_zero, List.setIfInBounds_toArray, List.set_cons_zero, List.set_cons_succ]
      refine wpAnyH_take (i := 15) (v := ?_) rfl (by kernel_rfl) (by kernel_rfl) (by kernel_rfl) (fun _ _ _ h => h) (Or.inl ⟨by rfl, ?_⟩) (by assumption) ?_
      rotate_left
      · (intro w hSw; (try dsimp only at hSw); go_simp; try with_reducible rfl)
      try simp only [Act.put, List.getElem_toArray, List.getElem_cons_succ, List.getElem_cons_zero, List.setIfInBounds_toArray, List.set_cons_zero, List.set_cons_succ]
      refine wpAnyH_ready (rs := [16]) (by kernel_rfl) (by simp) ?_
      refine AllReadyH.cons rfl (fun K hK => ?_) AllReadyH.nil
      go_simp
      go_at_call 45
      refine (hCl z0 rD).mono ?_
      rintro e w6 ⟨ao6, cap6, rfl, own6, ge6, t6⟩
      try dsimp only
      have T6 : Tch V.ms w w6 := (rD.then t6).nil
      have σ6 := hσ.tch (rD.then t6)
      obtain ⟨_, _, y6, _, _⟩ := σ6.cs hlt
      have f6 := σ6.fs pc
      have r6 : RInts w6 V.ms (.slice ao6 st.length cap6) st := src_of_owns own6 _ (fun k hk hx => by have := ge6 k hk; have := rD.size; have := hMs k hx; omega)
      clear hCl
      refine hK.out _ _ (⟨(T6.cell (cell_lt c10) hp).trans c10, (T6.cell (cell_lt c11) hp).trans c11, (T6.cell (cell_lt c12) hp).trans c12⟩) (fun hHeld => ?_)
      clear hK K
      try simp only [Act.put, List.setIfInBounds_toArray, List.set_cons_zero, List.set_cons_succ]
      refine wpAnyH_take (i := 17) (v := ?_) rfl (by kernel_rfl) (by kernel_rfl) (by kernel_rfl) (fun _ _ _ h => h) (Or.inl ⟨by rfl, ?_⟩) (by assumption) ?_
      rotate_left
      · (intro w hSw; (try dsimp only at hSw); go_simp; try with_reducible rfl)
      try simp only [Act.put, List.getElem_toArray, List.getElem_cons_succ, List.getElem_cons_zero, List.setIfInBounds_toArray, List.set_cons_zero, List.set_cons_succ]
      refine wpAnyH_ready (rs := [18]) (by kernel_rfl) (by simp) ?_
      refine AllReadyH.cons rfl (fun K hK => ?_) AllReadyH.nil
      go_simp
      have σ7 := σ6.sts hlt r6 hst
      have T7 : Tch V.ms w (w6.setCell ⟨V.bs, pc, none⟩ (.slice ao6 st.length cap6)) := T6.setCell (.inl (by simp [WV.ms])) _
      have y7 := σ7.ch hlt
      have f7 := σ7.fh pc
      clear y6 f6
      refine hK.out _ _ (⟨(T7.cell (cell_lt c10) hp).trans c10, (T7.cell (cell_lt c11) hp).trans c11, (T7.cell (cell_lt c12) hp).trans c12⟩) (fun hHeld => ?_)
      clear hK K
      try simp only [Act.put, List.setIfInBounds_toArray, List.set_cons_zero, List.set_cons_succ]
      refine wpAnyH_take (i := 19) (v := ?_) rfl (by kernel_rfl) (by kernel_rfl) (by kernel_rfl) (fun _ _ _ h => h) (Or.inl ⟨by rfl, ?_⟩) (by assumption) ?_
      rotate_left
      · (intro w hSw; (try dsimp only at hSw); go_simp; try with_reducible rfl)
      try simp only [Act.put, List.getElem_toArray, List.getElem_cons_succ, List.getElem_cons_zero, List.setIfInBounds_toArray, List.set_cons_zero, List.set_cons_succ]
      refine wpAnyH_ready (rs := [20]) (by kernel_rfl) (by simp) ?_
      refine AllReadyH.cons rfl (fun K hK => ?_) AllReadyH.nil
      go_simp
      have σ8 := σ7.hass pc true
      have T8 : Tch V.ms w ((w6.setCell ⟨V.bs, pc, none⟩ (.slice ao6 st.length cap6)).setCell ⟨V.bh, pc, none⟩ (.bool true)) := T7.setCell (.inl (by simp [WV.ms])) _
      have y8 := σ8.ct hlt
      have f8 := σ8.ft pc
      clear y7 f7
      refine hK.out _ _ (⟨(T8.cell (cell_lt c10) hp).trans c10, (T8.cell (cell_lt c11) hp).trans c11, (T8.cell (cell_lt c12) hp).trans c12⟩) (fun hHeld => ?_)
      clear hK K
      try simp only [Act.put, List.setIfInBounds_toArray, List.set_cons_zero, List.set_cons_succ]
      refine wpAnyH_take (i := 21) (v := ?_) rfl (by kernel_rfl) (by kernel_rfl) (by kernel_rfl) (fun _ _ _ h => h) (Or.inl ⟨by rfl, ?_⟩) (by assumption) ?_
      rotate_left
      · (intro w hSw; (try dsimp only at hSw); go_simp; try with_reducible rfl)
      try simp only [Act.put, List.getElem_toArray, List.getElem_cons_succ, List.getElem_cons_zero, List.setIfInBounds_toArray, List.set_cons_zero, List.set_cons_succ]
      refine wpAnyH_ready (rs := [22]) (by kernel_rfl) (by simp) ?_
      refine AllReadyH.cons rfl (fun K hK => ?_) AllReadyH.nil
      go_simp
      have σ9 := σ8.todos pc true
      have T9 : Tch V.ms w (((w6.setCell ⟨V.bs, pc, none⟩ (.slice ao6 st.length cap6)).setCell ⟨V.bh, pc, none⟩ (.bool true)).setCell ⟨V.bt, pc, none⟩ (.bool true)) := T8.setCell (.inl (by simp [WV.ms])) _
      clear y8 f8
      refine hK.out _ _ (⟨(T9.cell (cell_lt c10) hp).trans c10, (T9.cell (cell_lt c11) hp).trans c11, (T9.cell (cell_lt c12) hp).trans c12⟩) (fun hHeld => ?_)
      clear hK K
      try simp only [Act.put, List.setIfInBounds_toArray, List.set_cons_zero, List.set_cons_succ]
      refine wpAnyH_done (by kernel_rfl) ?_ _
      go_wp2_with fail
      go_ret
      exact ⟨by rw [HR.out]; exact ⟨rfl, σ9⟩, T9⟩
    · have gN := fun h3 => go_none (st := st) hlt hh h3
      have gS := fun j h3 h4 => go_same (st := st) (j := j) hlt hh h3 h4
      have gM := fun j h3 h4 => go_more (st := st) (j := j) hlt hh h3 h4
      have d1 := hσ.ch hlt
      rw [hh] at d1
      clear hh
      obtain ⟨sa, sc, ys, rs, l8⟩ := hσ.cs hlt
      obtain ⟨cur, hcur⟩ : ∃ cur, cur = σ.sts.getD pc [] := ⟨_, rfl⟩
      rw [← hcur] at ys rs l8
      simp only [← hcur] at gN gS gM
      clear hcur
      have hJ := ve_JoinAll w sa sc cur (rs.mono (by simp)) ao c st (hs.mono (by simp)) (by omega) (by omega)
      have hjd : joinAllF cur st = none ∨ ∃ j, joinAllF cur st = some j := by
        cases joinAllF cur st with
        | none => exact .inl rfl
        | some j => exact .inr ⟨j, rfl⟩
      rcases hjd with hj | ⟨j, hj⟩
      · have HR := Lib.hid (gN hj)
        have hJ2 : Calls Tryd.prog 46 #[.slice sa cur.length sc, .slice ao st.length c] w fun e w' => e = .returned (.tuple #[.slice none 0 0, .bool false]) ∧ Tch [] w w' := hJ.mono fun e w' ⟨h1, h2⟩ => by
          rcases h1 with ⟨_, h1⟩ | ⟨j, h1, _⟩
          · exact ⟨h1, h2⟩
          · rw [hj] at h1; cases h1
        clear hJ hj gN gS gM
        generalize cur.length = nc at *
        generalize st.length = ns at *
        go_enter Tryd.func27, Tryd.ntmps27
        go_wp2_with fail
        refine hJ2.mono ?_
        rintro e w2 ⟨rfl, t2⟩
        go_wp2_with fail
        go_ret
        exact ⟨by rw [HR.out]; rfl, t2.nil⟩
      · have hJ2 : Calls Tryd.prog 46 #[.slice sa cur.length sc, .slice ao st.length c] w fun e w' => (∃ ao' cap', e = .returned (.tuple #[.slice ao' j.length cap', .bool true]) ∧ RInts w' V.ms (.slice ao' j.length cap') j) ∧ Tch [] w w' := hJ.mono fun e w' ⟨h1, h2⟩ => by
          rcases h1 with ⟨h1, _⟩ | ⟨j', h1, ao', cap', h3, h4⟩
          · rw [hj] at h1; cases h1
          · rw [hj] at h1
            simp only [Option.some.injEq] at h1
            subst h1
            exact ⟨⟨ao', cap', h3, h4 _ hMs⟩, h2⟩
        have hjl := join_len hj
        have gS2 := fun h4 => gS j hj h4
        have gM2 := fun h4 => gM j hj h4
        have HJL := Lib.hid hjl
        have HSM := Lib.hid (And.intro gS2 gM2)
        have hj8 : j.length ≤ 8 := by omega
        clear hJ hj gN gS gM gS2 gM2 hjl
        go_enter Tryd.func27, Tryd.ntmps27
        go_wp2_with fail
        refine hJ2.mono ?_
        rintro e w2 ⟨⟨ao2, cap2, rfl, r2⟩, t2⟩
        have σ2 := hσ.tch t2
        have e10 := (t2.cell hpl (by simp)).trans c10
        have e12 := (t2.cell hpl (by simp)).trans c12
        have ys2 := (t2.cell (cell_lt ys) (by simp)).trans ys
        have rs2 := rs.tch t2 (by simp)
        have hE := lk_equal w2 _ _ j cur (r2.mono (by simp)) (rs2.mono (by simp)) (by omega) (by omega)
        clear hJ2
        by_cases hjc : j = cur
        · have HR := Lib.hid (HSM.out.1 hjc)
          rw [decide_eq_true hjc] at hE
          clear hjc
          generalize cur.length = nc at *
          generalize st.length = ns at *
          go_wp2_with fail
          refine hE.mono ?_
          rintro e w3 ⟨rfl, t3⟩
          go_wp2_with fail
          go_ret
          exact ⟨by rw [HR.out]; exact ⟨rfl, σ2.tch t3⟩, (t2.then t3).nil⟩
        · have HR := Lib.hid (HSM.out.2 hjc)
          rw [decide_eq_false hjc] at hE
          clear hjc
          generalize cur.length = nc at *
          generalize st.length = ns at *
          go_wp2_with fail
          refine hE.mono ?_
          rintro e w3 ⟨rfl, t3⟩
          have σ3 := σ2.tch t3
          have r3 := r2.tch t3 (by simp)
          have f10 := (t3.cell (cell_lt e10) (by simp)).trans e10
          have f12 := (t3.cell (cell_lt e12) (by simp)).trans e12
          have hpl3 := cell_lt f10
          have T3 : Tch V.ms w w3 := (t2.then t3).nil
          clear hE e10 e12 ys2 rs2 σ2 c10 c12
          go_upto_region 10 with fail
          refine wp_region_held_drew (S := fun w' => w'.cell? ⟨p, 10, none⟩ = some (.slice (some ⟨V.bs, 0, none⟩) n n) ∧ w'.cell? ⟨p, 12, none⟩ = some (.slice (some ⟨V.bt, 0, none⟩) n n)) (by kernel_rfl) ⟨f10, f12⟩ (fun hHeld => ?_)
          have rD : Tch [] w3 w3.drew := (Tch.refl [] w3).drew
          obtain ⟨z0, hz0⟩ : ∃ z, z = w3.drew := ⟨_, rfl⟩
          rw [← hz0] at rD hHeld ⊢
          clear hz0
          have σ4 := σ3.tch rD
          have r4 := r3.tch rD (by simp)
          have T4 : Tch V.ms w3 z0 := rD.nil
          obtain ⟨_, _, y4, _, _⟩ := σ4.cs hlt
          have g4 := σ4.fs pc
          refine wpAnyH_take (i := 0) (v := ?_) rfl (by kernel_rfl) (by kernel_rfl) (by kernel_rfl) (fun _ _ _ h => h) (Or.inl ⟨by rfl, ?_⟩) (by assumption) ?_
          rotate_left
          · (intro w hSw; (try dsimp only at hSw); go_simp; try with_reducible rfl)
          try simp only [Act.put, List.getElem_toArray, List.getElem_cons_succ, List.getElem_cons_zero, List.setIfInBounds_toArray, List.set_cons_zero, List.set_cons_succ]
          refine wpAnyH_take (i := 1) (v := ?_) rfl (by kernel_rfl) (by kernel_rfl) (by kernel_rfl) (fun _ _ _ h => h) (Or.inl ⟨by rfl, ?_⟩) (by assumption) ?_
          rotate_left
          · (intro w hSw; (try dsimp only at hSw); go_simp; try with_reducible rfl)
          try simp only [Act.put, List.getElem_toArray, List.getElem_cons_succ, List.getElem_cons_zero, List.setIfInBounds_toArray, List.set_cons_zero, List.set_cons_succ]
          refine wpAnyH_take (i := 2) (v := ?_) rfl (by kernel_rfl) (by kernel_rfl) (by kernel_rfl) (fun _ _ _ h => h) (Or.inl ⟨by rfl, ?_⟩) (by assumption) ?_
          rotate_left
          · (intro w hSw; (try dsimp only at hSw); go_simp; try with_reducible rfl)
          try simp only [Act.put, List.getElem_toArray, List.getElem_cons_succ, List.getElem_cons_zero, List.setIfInBounds_toArray, List.set_cons_zero, List.set_cons_succ]
          refine wpAnyH_take (i := 3) (v := ?_) rfl (by kernel_rfl) (by kernel_rfl) (by kernel_rfl) (fun _ _ _ h => h) (Or.inl ⟨by rfl, ?_⟩) (by assumption) ?_
          rotate_left
          · (intro w hSw; (try dsimp only at hSw); go_simp; try with_reducible rfl)
          try simp only [Act.put, List.getElem_toArray, List.getElem_cons_succ, List.getElem_cons_zero, List.setIfInBounds_toArray, List.set_cons_zero, List.set_cons_succ]
          refine wpAnyH_take (i := 4) (v := ?_) rfl (by kernel_rfl) (by kernel_rfl) (by kernel_rfl) (fun _ _ _ h => h) (Or.inl ⟨by rfl, ?_⟩) (by assumption) ?_
          rotate_left
          · (intro w hSw; (try dsimp only at hSw); go_simp; try with_reducible rfl)
          try simp only [Act.put, List.getElem_toArray, List.getElem_cons_succ, List.getElem_cons_zero, List.setIfInBounds_toArray, List.set_cons_zero, List.set_cons_succ]
          refine wpAnyH_take (i := 5) (v := ?_) rfl (by kernel_rfl) (by kernel_rfl) (by kernel_rfl) (fun _ _ _ h => h) (Or.inl ⟨by rfl, ?_⟩) (by assumption) ?_
          rotate_left
          · (intro w hSw; (try dsimp only at hSw); go_simp; try with_reducible rfl)
          try simp only [Act.put, List.getElem_toArray, List.getElem_cons_succ, List.getElem_cons_zero, List.setIfInBounds_toArray, List.set_cons_zero, List.set_cons_succ]
          refine wpAnyH_take (i := 6) (v := ?_) rfl (by kernel_rfl) (by kernel_rfl) (by kernel_rfl) (fun _ _ _ h => h) (Or.inl ⟨by rfl, ?_⟩) (by assumption) ?_
          rotate_left
          · (intro w hSw; (try dsimp only at hSw); go_simp; try with_reducible rfl)
          try simp only [Act.put, List.getElem_toArray, List.getElem_cons_succ, List.getElem_cons_zero, List.setIfInBounds_toArray, List.set_cons_zero, List.set_cons_succ]
          refine wpAnyH_take (i := 7) (v := ?_) rfl (by kernel_rfl) (by kernel_rfl) (by kernel_rfl) (fun _ _ _ h => h) (Or.inl ⟨by rfl, ?_⟩) (by assumption) ?_
          rotate_left
          · (intro w hSw; (try dsimp only at hSw); go_simp; try with_reducible rfl)
          try simp only [Act.put, List.getElem_toArray, List.getElem_cons_succ, List.getElem_cons_zero, List.setIfInBounds_toArray, List.set_cons_zero, List.set_cons_succ]
          refine wpAnyH_take (i := 8) (v := ?_) rfl (by kernel_rfl) (by kernel_rfl) (by kernel_rfl) (fun _ _ _ h => h) (Or.inl ⟨by rfl, ?_⟩) (by assumption) ?_
          rotate_left
          · (intro w hSw; (try dsimp only at hSw); go_simp; try with_reducible rfl)
          try simp only [Act.put, List.getElem_toArray, List.getElem_cons_succ, List.getElem_cons_zero, List.setIfInBounds_toArray, List.set_cons_zero, List.set_cons_succ]
          refine wpAnyH_take (i := 9) (v := ?_) rfl (by kernel_rfl) (by kernel_rfl) (by kernel_rfl) (fun _ _ _ h => h) (Or.inl ⟨by rfl, ?_⟩) (by assumption) ?_
          rotate_left
          · (intro w hSw; (try dsimp only at hSw); go_simp; try with_reducible rfl)
          try simp only [Act.put, List.getElem_toArray, List.getElem_cons_succ, List.getElem_cons_zero, List.setIfInBounds_toArray, List.set_cons_zero, List.set_cons_succ]
          refine wpAnyH_take (i := 10) (v := ?_) rfl (by kernel_rfl) (by kernel_rfl) (by kernel_rfl) (fun _ _ _ h => h) (Or.inl ⟨by rfl, ?_⟩) (by assumption) ?_
          rotate_left
          · (intro w hSw; (try dsimp only at hSw); go_simp; try with_reducible rfl)
          try simp only [Act.put, List.getElem_toArray, List.getElem_cons_succ, List.getElem_cons_zero, List.setIfInBounds_toArray, List.set_cons_zero, List.set_cons_succ]
          refine wpAnyH_take (i := 11) (v := ?_) rfl (by kernel_rfl) (by kernel_rfl) (by kernel_rfl) (fun _ _ _ h => h) (Or.inl ⟨by rfl, ?_⟩) (by assumption) ?_
          rotate_left
          · (intro w hSw; (try dsimp only at hSw); go_simp; try with_reducible rfl)
          try simp only [Act.put, List.getElem_toArray, List.getElem_cons_succ, List.getElem_cons_zero, List.setIfInBounds_toArray, List.set_cons_zero, List.set_cons_succ]
          refine wpAnyH_ready (rs := [12]) (by kernel_rfl) (by simp) ?_
          refine AllReadyH.cons rfl (fun K hK => ?_) AllReadyH.nil
          go_simp
          have σ5 := σ4.sts hlt r4 hj8
          have T5 : Tch V.ms w3 (z0.setCell ⟨V.bs, pc, none⟩ (.slice ao2 j.length cap2)) := T4.setCell (.inl (by simp [WV.ms])) _
          have y5 := σ5.ct hlt
          have g5 := σ5.ft pc
          clear y4 g4
          refine hK.out _ _ (⟨(T5.cell (cell_lt f10) hp).trans f10, (T5.cell (cell_lt f12) hp).trans f12⟩) (fun hHeld => ?_)
          clear hK K
          try simp only [Act.put, List.setIfInBounds_toArray, List.set_cons_zero, List.set_cons_succ]
          refine wpAnyH_take (i := 13) (v := ?_) rfl (by kernel_rfl) (by kernel_rfl) (by kernel_rfl) (fun _ _ _ h => h) (Or.inl ⟨by rfl, ?_⟩) (by assumption) ?_
          rotate_left
          · (intro w hSw; (try dsimp only at hSw); go_simp; try with_reducible rfl)
          try simp only [Act.put, List.getElem_toArray, List.getElem_cons_succ, List.getElem_cons_zero, List.setIfInBounds_toArray, List.set_cons_zero, List.set_cons_succ]
          refine wpAnyH_ready (rs := [14]) (by kernel_rfl) (by simp) ?_
          refine AllReadyH.cons rfl (fun K hK => ?_) AllReadyH.nil
          go_simp
          have σ6 := σ5.todos pc true
          have T6 : Tch V.ms w3 ((z0.setCell ⟨V.bs, pc, none⟩ (.slice ao2 j.length cap2)).setCell ⟨V.bt, pc, none⟩ (.bool true)) := T5.setCell (.inl (by simp [WV.ms])) _
          clear y5 g5
          refine hK.out _ _ (⟨(T6.cell (cell_lt f10) hp).trans f10, (T6.cell (cell_lt f12) hp).trans f12⟩) (fun hHeld => ?_)
          clear hK K
          try simp only [Act.put, List.setIfInBounds_toArray, List.set_cons_zero, List.set_cons_succ]
          refine wpAnyH_done (by kernel_rfl) ?_ _
          go_wp2_with fail
          go_ret
          exact ⟨by rw [HR.out]; exact ⟨rfl, σ6⟩, T3.trans T6 (fun _ _ x => x) (fun _ _ x => x)⟩
  · have HR := Lib.hid (show goF n σ pc st = .error 13 by unfold goF; rw [if_pos (by omega)])
    clear hσ hs
    go_enter Tryd.func27, Tryd.ntmps27
    go_wp2_with fail
    go_ret
    exact ⟨by rw [HR.out]; rfl, Tch.refl _ _⟩
end Go.Proofs.YtpabkjjonbhdeaaDoor
