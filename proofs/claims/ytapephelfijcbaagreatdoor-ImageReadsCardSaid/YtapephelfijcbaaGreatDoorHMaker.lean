/-
  CONTRACTS: the maker of applets' code: next, put, local. Conditions: its memory is its own, its counts are small.
-/
import Derived.Test.YtapephelfijcbaaGreatDoorHHand
import Derived.Test.YtapephelfijcbaaGreatDoorHCodeP
namespace Go.Tcn
open Go.RowKit
set_option linter.unusedVariables false
set_option linter.unusedSimpArgs false
/-- May jumps be open; blocks that are not the own of the numbers. -/
class OkP where
  opn : Bool
  far : List Nat
set_option linter.unusedSectionVars false
variable [OkP]
theorem codeCells_snoc' (ks : List Ins) (x : Ins) : codeCells (ks ++ [x]) = codeCells ks ++ [.int .i64 x.op, .int .i64 x.a, .int .i64 x.b] := by simp [codeCells, Ins.cells]
/-- An instruction that may be, or a jump that is open. -/
def okI (x : Ins) : Prop := rightI x.op x.a x.b = true ∨ (OkP.opn = true ∧ x.op = 24 ∧ x.a = -1 ∧ x.b = 0)
/-- All may be, or the code is too long anyway. -/
def okC (c : List Ins) : Prop := (∀ x ∈ c, okI x) ∨ 120 ≤ c.length
theorem okC.snoc {c : List Ins} (h : okC c) {x : Ins} (hx : okI x) : okC (c ++ [x]) := h.elim (fun h => .inl fun y hy => by
  rcases List.mem_append.1 hy with h' | h'
  · exact h y h'
  · simp at h'; subst h'; exact hx) (fun h => .inr (by simp; omega))
def I64s (l : List Int) : Prop := ∀ x ∈ l, I6 x
/-- A maker at block p: its code c (in block row; row = p: none), its numbers n, how many are used up, the locals' kinds, the depth. -/
structure Mk (T E : TypeId) (G : Nat) (w : World) (p row : Nat) (c : List Ins) (n : List Int) (q : Nat) (kd : List Int) (d : Int) : Prop where
  ex : ∃ vc vn vk, w.heap[p]? = some (.cells #[vc, vn, .int .i64 q, vk, .int .i64 d] T (0, 0)) ∧ w.ownsRow 0 E 3 vc c.length (codeCells c) ∧ row = vc.ownBlock.getD p ∧ vc.ownBlock ≠ some p ∧ Src w (p :: row :: OkP.far) vn n.length (ints n) ∧ Src w (p :: row :: OkP.far) vk kd.length (ints kd)
  ok : okC c
  gp : G ≠ p ∧ G ≠ row
  bins : ∀ j, j < 12 → ∃ op : Int, (6 ≤ op ∧ op ≤ 14 ∨ 19 ≤ op ∧ op ≤ 21) ∧ w.cell? ⟨G, j, none⟩ = some (.int .i64 op)
theorem Mk.lt {T E : TypeId} {G : Nat} {w : World} {p row : Nat} {c : List Ins} {n : List Int} {q : Nat} {kd : List Int} {d : Int} (h : Mk T E G w p row c n q kd d) : p < w.heap.size := by
  obtain ⟨vc, vn, vk, hv, _⟩ := h.ex
  exact heap_lt hv
theorem Mk.row_lt {T E : TypeId} {G : Nat} {w : World} {p row : Nat} {c : List Ins} {n : List Int} {q : Nat} {kd : List Int} {d : Int} (h : Mk T E G w p row c n q kd d) : row < w.heap.size := by
  obtain ⟨vc, vn, vk, hv, ho, hr, _⟩ := h.ex
  cases hb : vc.ownBlock with
  | none => rw [hb] at hr; simp at hr; rw [hr]; exact heap_lt hv
  | some g => rw [hb] at hr; simp at hr; rw [hr]; exact (World.ownsRow.lt ho g hb).2
theorem Mk.tch {T E : TypeId} {G : Nat} {w w' : World} {p row : Nat} {c : List Ins} {n : List Int} {q : Nat} {kd : List Int} {d : Int} {L : List Nat} (h : Mk T E G w p row c n q kd d) (t : Tch L w w') (hL : ∀ i ∈ L, w.heap.size ≤ i) : Mk T E G w' p row c n q kd d := by
  have hp := h.lt
  have hr := h.row_lt
  obtain ⟨vc, vn, vk, hv, ho, hrow, hne, hn, hk⟩ := h.ex
  refine ⟨⟨vc, vn, vk, ?_, ownsRow_tch ho t (fun g hg hx => ?_), hrow, hne, hn.tch t (fun i hi hlt => ?_), hk.tch t (fun i hi hlt => ?_)⟩, h.ok, h.gp, fun j hj => ?_⟩
  · rw [t.block p hp (fun hx => by have := hL p hx; omega)]; exact hv
  · have h1 := hL g hx
    rw [hg] at hrow; simp at hrow; omega
  · have := hL i hi; omega
  · have := hL i hi; omega
  · obtain ⟨op, h1, h2⟩ := h.bins j hj
    have h3 := cell_lt h2
    exact ⟨op, h1, by rw [t.cell h3 (fun hx => by have := hL _ hx; omega)]; exact h2⟩
/-- From one state of a maker to a later one: at most B more numbers are used up, at most B instructions more. -/
structure Lk (p row0 L0 q0 B : Nat) (w0 : World) (row1 L1 q1 : Nat) (w1 : World) : Prop where
  q : q0 ≤ q1 ∧ q1 ≤ q0 + B
  l : L0 ≤ L1 ∧ L1 ≤ L0 + B
  r : row1 = row0 ∨ w0.heap.size ≤ row1
  t : Tch [p, row0] w0 w1
theorem Lk.trans {p row0 L0 q0 B B' row1 L1 q1 row2 L2 q2 : Nat} {w0 w1 w2 : World} (h : Lk p row0 L0 q0 B w0 row1 L1 q1 w1) (k : Lk p row1 L1 q1 B' w1 row2 L2 q2 w2) : Lk p row0 L0 q0 (B + B') w0 row2 L2 q2 w2 := by
  obtain ⟨⟨a1, a2⟩, ⟨b1, b2⟩, c, t⟩ := h
  obtain ⟨⟨a3, a4⟩, ⟨b3, b4⟩, c2, t2⟩ := k
  have z := t.size
  refine ⟨⟨by omega, by omega⟩, ⟨by omega, by omega⟩, by omega, t.trans t2 (fun _ _ x => x) (fun i hi hx => ?_)⟩
  simp at hx ⊢
  omega
theorem Lk.mono {p row0 L0 q0 B B' row1 L1 q1 : Nat} {w0 w1 : World} (h : Lk p row0 L0 q0 B w0 row1 L1 q1 w1) (hb : B ≤ B') : Lk p row0 L0 q0 B' w0 row1 L1 q1 w1 := ⟨⟨h.q.1, by have := h.q.2; omega⟩, ⟨h.l.1, by have := h.l.2; omega⟩, h.r, h.t⟩
theorem Lk.refl (p row L q : Nat) (w : World) : Lk p row L q 0 w row L q w := ⟨by omega, by omega, .inl rfl, Tch.refl _ _⟩
/-- What a call of a maker's method leaves. -/
def MkTo (T E : TypeId) (G p row : Nat) (c : List Ins) (n : List Int) (q : Nat) (kd : List Int) (d : Int) (B : Nat) (w w' : World) : Prop := ∃ c' q' row', Mk T E G w' p row' c' n q' kd d ∧ Lk p row c.length q B w row' c'.length q' w'
theorem tch_cell' {w w' : World} {p : Addr} {v : Value} (t : Tch [] w w') (h : w.cell? p = some v) : w'.cell? p = some v := by rw [t.cell (cell_lt h) (by simp)]; exact h
theorem wrap_I6 (x : Int) : I6 (IntKind.i64.wrap x) := by
  rw [IntKind.wrap_i64]; unfold I6; omega
theorem wrap64_I6 (x : Int) : I6 (wrap64 x) := by unfold wrap64 I6; omega
end Go.Tcn
namespace Go.Proofs.YtapephelfijcbaaGreatDoor
open Go.RowKit Go.Tcn
set_option linter.unusedVariables false
set_option linter.unusedSimpArgs false
set_option linter.unusedSectionVars false
variable [OkP]
theorem info_ins : (Tryz.prog.info? 47).map (fun i => (i.zero, i.size, i.bytes)) = some (some (.agg #[.int .i64 0, .int .i64 0, .int .i64 0]), 3, 24) := by kernel_rfl
set_option maxRecDepth 100000 in
set_option maxHeartbeats 4000000 in
theorem mk_put (w : World) (p row : Nat) (c : List Ins) (n : List Int) (q : Nat) (kd : List Int) (d : Int) (h : Mk 110 47 2 w p row c n q kd d) (op a b : Int) (hok : okI ⟨op, a, b⟩) (hl : c.length ≤ 1000000) :
    Calls Tryz.prog 93 #[.pointer (some ⟨p, 0, none⟩), .int .i64 op, .int .i64 a, .int .i64 b] w fun e w' => e = .returned (.tuple #[]) ∧ ∃ row', Mk 110 47 2 w' p row' (c ++ [⟨op, a, b⟩]) n q kd d ∧ Lk p row c.length q 1 w row' (c.length + 1) q w' := by
  obtain ⟨i0, hi, hz0, hz1, hz2⟩ := info_parts info_ins
  have hp := h.lt
  have hrl := h.row_lt
  obtain ⟨vc, vn, vk, hv, ho, hrow, hne, hn, hk⟩ := h.ex
  have HR := Lib.hid hrow; clear hrow
  have c0 : w.cell? ⟨p, 0, none⟩ = some vc := by simp [World.cell?, hv]
  have f0 : w.frozen? ⟨p, 0, none⟩ = false := by simp [World.frozen?, hv]
  have hbnd : c.length + 1 ≤ 9223372036854775807 ∧ (c.length + 1) * 24 ≤ 140737488355328 := by omega
  have hp1 : p < (w.alloc (Obj.cells #[Value.int .i64 op, Value.int .i64 a, Value.int .i64 b] 47)).heap.size := by simp; omega
  have hne' : some p ≠ vc.ownBlock := fun h => hne h.symm
  have c0' : (w.alloc (Obj.cells #[Value.int .i64 op, Value.int .i64 a, Value.int .i64 b] 47)).cell? ⟨p, 0, none⟩ = some vc := (World.cell?_alloc_past _ _ _ hp).trans c0
  have f0' : (w.alloc (Obj.cells #[Value.int .i64 op, Value.int .i64 a, Value.int .i64 b] 47)).frozen? ⟨p, 0, none⟩ = false := (World.frozen?_alloc_past _ _ _ hp).trans f0
  have hown0 : (w.alloc (Obj.cells #[Value.int .i64 op, Value.int .i64 a, Value.int .i64 b] 47)).ownsRow 0 47 3 vc c.length (codeCells c) := ho.alloc _
  have hsrc : Src (w.alloc (Obj.cells #[Value.int .i64 op, Value.int .i64 a, Value.int .i64 b] 47)) [] (.slice (some ⟨w.heap.size, 0, none⟩) 1 1) 1 [Value.int .i64 op, Value.int .i64 a, Value.int .i64 b] := src_new w _ [] #[Value.int .i64 op, Value.int .i64 a, Value.int .i64 b] 47 1 1 (Tch.refl [] _) (by simp)
  have h1c : ∀ u ∈ [Value.int .i64 op, Value.int .i64 a, Value.int .i64 b], u.oneCell' = true := by intro u hu; simp at hu; rcases hu with rfl | rfl | rfl <;> rfl
  go_enter Tryz.func93, Tryz.ntmps93
  go_wp2_with (at_builtin; refine wpList_append_any _ rfl (.tmp 12) (.tmp 17) 48 rfl 47 i0 (.agg #[.int .i64 0, .int .i64 0, .int .i64 0]) 3 24 Tryz.underlying48 hi hz0 hz1 hz2 rfl (by decide) vc c.length (codeCells c) rfl hown0 [] _ 1 [Value.int .i64 op, Value.int .i64 a, Value.int .i64 b] rfl hsrc rfl h1c hbnd ?_; intro ao cap w1 hown hgrow hat; have c1 := (hgrow.cell_far ⟨p, 0, none⟩ hp1 hne').trans c0'; have f1 := (hgrow.frozen_far ⟨p, 0, none⟩ hp1 hne').trans f0')
  go_end0
  have hlt := World.ownsRow.lt ho
  have hv1 : w1.heap[p]? = some (.cells #[vc, vn, .int .i64 q, vk, .int .i64 d] 110 (0, 0)) := by
    rw [hgrow.block p hp1 hne', Below.heap_alloc _ _ _ hp]; exact hv
  have hr0 := HR.out
  have hfr : (Value.slice ao (c.length + 1) cap).ownBlock = vc.ownBlock ∨ (Value.slice ao (c.length + 1) cap).ownBlock = some (w.heap.size + 1) := by simpa using hat
  have hne1 : (Value.slice ao (c.length + 1) cap).ownBlock ≠ some p := by
    rcases hfr with e | e
    · rw [e]; exact hne
    · rw [e]; simp; omega
  have T : Tch [p, row] w (w1.setCell ⟨p, 0, none⟩ (.slice ao (c.length + 1) cap)) := by
    refine Tch.setCell ((((Tch.refl [] w).alloc _).mono (M := [p, row]) (by simp)).grown hgrow (fun g hg => ?_)) (by simp) _
    left; rw [hr0, hg]; simp
  have hrow' : (Value.slice ao (c.length + 1) cap).ownBlock.getD p = row ∨ w.heap.size ≤ (Value.slice ao (c.length + 1) cap).ownBlock.getD p := by
    rcases hfr with e | e
    · left; rw [e, hr0]
    · right; rw [e]; simp
  have hsr : ∀ v m news, Src w (p :: row :: OkP.far) v m news → Src (w1.setCell ⟨p, 0, none⟩ (.slice ao (c.length + 1) cap)) (p :: (Value.slice ao (c.length + 1) cap).ownBlock.getD p :: OkP.far) v m news := fun v m news hs => by
    generalize (Value.slice ao (c.length + 1) cap).ownBlock.getD p = row' at *
    have s1 : Src w (p :: row :: row' :: OkP.far) v m news := hs.mono (fun i hi hlt => by
      simp only [List.mem_cons] at hi ⊢
      rcases hi with h | h | h | h
      · exact .inl h
      · exact .inr (.inl h)
      · subst h
        rcases hrow' with e | e
        · exact .inr (.inl e)
        · omega
      · exact .inr (.inr h))
    have s2 := s1.tch T (fun i hi _ => List.mem_append_left (row' :: OkP.far) hi)
    exact s2.mono (fun i hi _ => by
      simp only [List.mem_cons] at hi ⊢
      rcases hi with h | h | h
      · exact .inl h
      · exact .inr (.inr (.inl h))
      · exact .inr (.inr (.inr h)))
  have hb0 := h.bins
  have hg0 := h.gp
  have hGlt : 2 < w.heap.size := by obtain ⟨op, _, h2⟩ := hb0 0 (by omega); exact cell_lt h2
  have hgp' : 2 ≠ p ∧ 2 ≠ (Value.slice ao (c.length + 1) cap).ownBlock.getD p := ⟨hg0.1, by omega⟩
  have hbin' : ∀ j, j < 12 → ∃ op : Int, (6 ≤ op ∧ op ≤ 14 ∨ 19 ≤ op ∧ op ≤ 21) ∧ (w1.setCell ⟨p, 0, none⟩ (.slice ao (c.length + 1) cap)).cell? ⟨2, j, none⟩ = some (.int .i64 op) := fun j hj => by
    obtain ⟨op, h1, h2⟩ := hb0 j hj
    exact ⟨op, h1, by rw [T.cell (cell_lt h2) (by simp; omega)]; exact h2⟩
  refine ⟨rfl, _, ⟨⟨.slice ao (c.length + 1) cap, vn, vk, ?_, ?_, rfl, hne1, hsr _ _ _ hn, hsr _ _ _ hk⟩, h.ok.snoc hok, hgp', hbin'⟩, ⟨⟨by omega, by omega⟩, ⟨by omega, by omega⟩, hrow', T⟩⟩
  · simp [World.setCell, Array.getElem?_modify, hv1]
  · rw [codeCells_snoc', List.length_append]
    exact ownsRow_setCell_other hown hne1 _
set_option maxRecDepth 100000 in
set_option maxHeartbeats 4000000 in
theorem mk_next (w : World) (p row : Nat) (c : List Ins) (n : List Int) (q : Nat) (kd : List Int) (d : Int) (h : Mk 110 47 2 w p row c n q kd d) (hn6 : I64s n) (hnl : n.length ≤ 9223372036854775807) (hq : q ≤ 1000000) :
    Calls Tryz.prog 119 #[.pointer (some ⟨p, 0, none⟩)] w fun e w' => ∃ v q', e = .returned (.int .i64 v) ∧ I6 v ∧ Mk 110 47 2 w' p row c n q' kd d ∧ Lk p row c.length q 1 w row c.length q' w' := by
  have hp := h.lt
  obtain ⟨vc, vn, vk, hv, ho, hrow, hne, hn, hk⟩ := h.ex
  have HR := Lib.hid hrow; clear hrow
  obtain ⟨an, capn, rfl⟩ := hn.form
  have c1 : w.cell? ⟨p, 1, none⟩ = some (.slice an n.length capn) := by simp [World.cell?, hv]
  have c2 : w.cell? ⟨p, 2, none⟩ = some (.int .i64 q) := by simp [World.cell?, hv]
  have f2 : w.frozen? ⟨p, 2, none⟩ = false := by simp [World.frozen?, hv]
  by_cases h0 : n.length = 0
  · have h0b : ((n.length : Int) == 0) = true := by simp [h0]
    have H0 := Lib.hid h0; clear h0
    go_enter Tryz.func119, Tryz.ntmps119
    go_wp2_with fail
    go_ret
    exact ⟨0, q, rfl, by unfold I6; omega, h, (Lk.refl _ _ _ _ _).mono (by omega)⟩
  · have h0b : ((n.length : Int) == 0) = false := by simpa using h0
    obtain ⟨j, hj⟩ : ∃ j : Nat, ((q : Int) + 1) % (n.length : Int) = (j : Int) := ⟨(((q : Int) + 1) % (n.length : Int)).toNat, by have := Int.emod_nonneg ((q : Int) + 1) (show (n.length : Int) ≠ 0 by omega); omega⟩
    have hjl : j < n.length := by have := Int.emod_lt_of_pos ((q : Int) + 1) (show (0 : Int) < (n.length : Int) by omega); omega
    obtain ⟨ad, rfl, had1, had2, hcj⟩ := hn.at (j := j) (by simpa using hjl)
    have hcj2 : w.cell? (ad.add j) = some (.int .i64 n[j]) := by simpa [ints] using hcj
    have hT : Tch [p, row] w (w.setCell ⟨p, 2, none⟩ (.int .i64 (q + 1 : Nat))) := (Tch.refl _ w).setCell (by simp) _
    have hv' : (w.setCell ⟨p, 2, none⟩ (.int .i64 (q + 1 : Nat))).heap[p]? = some (.cells #[vc, .slice (some ad) n.length capn, .int .i64 (q + 1 : Nat), vk, .int .i64 d] 110 (0, 0)) := by
      simp [World.setCell, Array.getElem?_modify, hv]
    have hM : Mk 110 47 2 (w.setCell ⟨p, 2, none⟩ (.int .i64 (q + 1 : Nat))) p row c n (q + 1) kd d :=
      ⟨⟨vc, _, vk, hv', ownsRow_setCell_other (a := ⟨p, 2, none⟩) ho hne _, HR.out, hne, hn.tch hT (fun i hi _ => List.mem_append_left OkP.far hi), hk.tch hT (fun i hi _ => List.mem_append_left OkP.far hi)⟩, h.ok, h.gp, fun j hj => by
        obtain ⟨op, h1, h2⟩ := h.bins j hj
        have hg := h.gp
        exact ⟨op, h1, by rw [hT.cell (cell_lt h2) (by simp; omega)]; exact h2⟩⟩
    obtain ⟨V, hV⟩ : ∃ V, V = w.setCell ⟨p, 2, none⟩ (.int .i64 (q + 1 : Nat)) := ⟨_, rfl⟩
    rw [← hV] at hT hv' hM
    have e1 : V.cell? ⟨p, 1, none⟩ = some (.slice (some ad) n.length capn) := by simp [World.cell?, hv']
    have e2 : V.cell? ⟨p, 2, none⟩ = some (.int .i64 ((q : Int) + 1)) := by simp [World.cell?, hv']
    have hcV : V.cell? (ad.add j) = some (.int .i64 n[j]) := by
      rw [hT.cell (by rw [Addr_add_block]; exact had1) (by rw [Addr_add_block]; exact fun h => had2 (List.mem_append_left OkP.far h))]; exact hcj2
    have ecast : ((q + 1 : Nat) : Int) = (q : Int) + 1 := by omega
    rw [ecast] at hV
    go_enter Tryz.func119, Tryz.ntmps119
    go_upto_region 4 with fail
    rw [← hV]
    have hq1 : (0 : Int) ≤ (q : Int) + 1 := by omega
    have hrem : ((q : Int) + 1).tmod (n.length : Int) = (j : Int) := by rw [Int.tmod_eq_emod_of_nonneg hq1]; exact hj
    have hn0 : ¬ (n.length : Int) = 0 := by omega
    have hb0 : (0 : Int) ≤ (j : Int) ∧ (j : Int) < (n.length : Int) := by omega
    have HV := Lib.hid hV; clear hV
    have HJ := Lib.hid ecast; clear ecast hq c1 c2 f2 hv hv' ho hn hk hcj hcj2
    go_quiet (fail)
    go_wp2_with fail
    go_ret
    refine ⟨_, q + 1, rfl, ?_, hM.tch ((Tch.refl [] V).drewN _) (by simp), ⟨⟨by omega, by omega⟩, ⟨by omega, by omega⟩, .inl rfl, hT.drewN _⟩⟩
    first | exact wrap_I6 _ | exact wrap64_I6 _
end Go.Proofs.YtapephelfijcbaaGreatDoor
