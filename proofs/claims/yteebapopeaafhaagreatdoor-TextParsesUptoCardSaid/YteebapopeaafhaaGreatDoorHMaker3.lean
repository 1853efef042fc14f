/-
  CONTRACTS: the maker of applets' code: next, put, local. Conditions: its memory is its own, its counts are small.
  CONTRACTS: the maker of applets' code: local, arr. Conditions: its memory is its own, its counts are small.
  CONTRACTS: the maker of applets' code: put, arr, as steps. Conditions: its memory is its own, its counts are small.
-/
import Derived.Test.YteebapopeaafhaaGreatDoorHHand
import Derived.Test.YteebapopeaafhaaGreatDoorHCodeP
namespace Go.Tcn
open Go.RowKit
set_option linter.unusedVariables false
set_option linter.unusedSimpArgs false
/-- May jumps be open; blocks that are not the own of the numbers. -/
class OkP where
  opn : Bool
  far : List Nat
set_option linter.unusedSectionVars false
variable [OkP]
theorem codeCells_snoc' (ks : List Ins) (x : Ins) : codeCells (ks ++ [x]) = codeCells ks ++ [.int .i64 x.op, .int .i64 x.a, .int .i64 x.b] := by simp [codeCells, Ins.cells]
/-- An instruction that may be, or a jump that is open. -/
def okI (x : Ins) : Prop := rightI x.op x.a x.b = true ∨ (OkP.opn = true ∧ x.op = 24 ∧ x.a = -1 ∧ x.b = 0)
/-- All may be, or the code is too long anyway. -/
def okC (c : List Ins) : Prop := (∀ x ∈ c, okI x) ∨ 120 ≤ c.length
theorem okC.snoc {c : List Ins} (h : okC c) {x : Ins} (hx : okI x) : okC (c ++ [x]) := h.elim (fun h => .inl fun y hy => by
  rcases List.mem_append.1 hy with h' | h'
  · exact h y h'
  · simp at h'; subst h'; exact hx) (fun h => .inr (by simp; omega))
def I64s (l : List Int) : Prop := ∀ x ∈ l, I6 x
/-- A maker at block p: its code c (in block row; row = p: none), its numbers n, how many are used up, the locals' kinds, the depth. -/
structure Mk (T E : TypeId) (G : Nat) (w : World) (p row : Nat) (c : List Ins) (n : List Int) (q : Nat) (kd : List Int) (d : Int) : Prop where
  ex : ∃ vc vn vk, w.heap[p]? = some (.cells #[vc, vn, .int .i64 q, vk, .int .i64 d] T (0, 0)) ∧ w.ownsRow 0 E 3 vc c.length (codeCells c) ∧ row = vc.ownBlock.getD p ∧ vc.ownBlock ≠ some p ∧ Src w (p :: row :: OkP.far) vn n.length (ints n) ∧ Src w (p :: row :: OkP.far) vk kd.length (ints kd)
  ok : okC c
  gp : G ≠ p ∧ G ≠ row
  bins : ∀ j, j < 12 → ∃ op : Int, (6 ≤ op ∧ op ≤ 14 ∨ 19 ≤ op ∧ op ≤ 21) ∧ w.cell? ⟨G, j, none⟩ = some (.int .i64 op)
theorem Mk.lt {T E : TypeId} {G : Nat} {w : World} {p row : Nat} {c : List Ins} {n : List Int} {q : Nat} {kd : List Int} {d : Int} (h : Mk T E G w p row c n q kd d) : p < w.heap.size := by
  obtain ⟨vc, vn, vk, hv, _⟩ := h.ex
  exact heap_lt hv
theorem Mk.row_lt {T E : TypeId} {G : Nat} {w : World} {p row : Nat} {c : List Ins} {n : List Int} {q : Nat} {kd : List Int} {d : Int} (h : Mk T E G w p row c n q kd d) : row < w.heap.size := by
  obtain ⟨vc, vn, vk, hv, ho, hr, _⟩ := h.ex
  cases hb : vc.ownBlock with
  | none => rw [hb] at hr; simp at hr; rw [hr]; exact heap_lt hv
  | some g => rw [hb] at hr; simp at hr; rw [hr]; exact (World.ownsRow.lt ho g hb).2
theorem Mk.tch {T E : TypeId} {G : Nat} {w w' : World} {p row : Nat} {c : List Ins} {n : List Int} {q : Nat} {kd : List Int} {d : Int} {L : List Nat} (h : Mk T E G w p row c n q kd d) (t : Tch L w w') (hL : ∀ i ∈ L, w.heap.size ≤ i) : Mk T E G w' p row c n q kd d := by
  have hp := h.lt
  have hr := h.row_lt
  obtain ⟨vc, vn, vk, hv, ho, hrow, hne, hn, hk⟩ := h.ex
  refine ⟨⟨vc, vn, vk, ?_, ownsRow_tch ho t (fun g hg hx => ?_), hrow, hne, hn.tch t (fun i hi hlt => ?_), hk.tch t (fun i hi hlt => ?_)⟩, h.ok, h.gp, fun j hj => ?_⟩
  · rw [t.block p hp (fun hx => by have := hL p hx; omega)]; exact hv
  · have h1 := hL g hx
    rw [hg] at hrow; simp at hrow; omega
  · have := hL i hi; omega
  · have := hL i hi; omega
  · obtain ⟨op, h1, h2⟩ := h.bins j hj
    have h3 := cell_lt h2
    exact ⟨op, h1, by rw [t.cell h3 (fun hx => by have := hL _ hx; omega)]; exact h2⟩
/-- From one state of a maker to a later one: at most B more numbers are used up, at most B instructions more. -/
structure Lk (p row0 L0 q0 B : Nat) (w0 : World) (row1 L1 q1 : Nat) (w1 : World) : Prop where
  q : q0 ≤ q1 ∧ q1 ≤ q0 + B
  l : L0 ≤ L1 ∧ L1 ≤ L0 + B
  r : row1 = row0 ∨ w0.heap.size ≤ row1
  t : Tch [p, row0] w0 w1
theorem Lk.trans {p row0 L0 q0 B B' row1 L1 q1 row2 L2 q2 : Nat} {w0 w1 w2 : World} (h : Lk p row0 L0 q0 B w0 row1 L1 q1 w1) (k : Lk p row1 L1 q1 B' w1 row2 L2 q2 w2) : Lk p row0 L0 q0 (B + B') w0 row2 L2 q2 w2 := by
  obtain ⟨⟨a1, a2⟩, ⟨b1, b2⟩, c, t⟩ := h
  obtain ⟨⟨a3, a4⟩, ⟨b3, b4⟩, c2, t2⟩ := k
  have z := t.size
  refine ⟨⟨by omega, by omega⟩, ⟨by omega, by omega⟩, by omega, t.trans t2 (fun _ _ x => x) (fun i hi hx => ?_)⟩
  simp at hx ⊢
  omega
theorem Lk.mono {p row0 L0 q0 B B' row1 L1 q1 : Nat} {w0 w1 : World} (h : Lk p row0 L0 q0 B w0 row1 L1 q1 w1) (hb : B ≤ B') : Lk p row0 L0 q0 B' w0 row1 L1 q1 w1 := ⟨⟨h.q.1, by have := h.q.2; omega⟩, ⟨h.l.1, by have := h.l.2; omega⟩, h.r, h.t⟩
theorem Lk.refl (p row L q : Nat) (w : World) : Lk p row L q 0 w row L q w := ⟨by omega, by omega, .inl rfl, Tch.refl _ _⟩
/-- What a call of a maker's method leaves. -/
def MkTo (T E : TypeId) (G p row : Nat) (c : List Ins) (n : List Int) (q : Nat) (kd : List Int) (d : Int) (B : Nat) (w w' : World) : Prop := ∃ c' q' row', Mk T E G w' p row' c' n q' kd d ∧ Lk p row c.length q B w row' c'.length q' w'
theorem tch_cell' {w w' : World} {p : Addr} {v : Value} (t : Tch [] w w') (h : w.cell? p = some v) : w'.cell? p = some v := by rw [t.cell (cell_lt h) (by simp)]; exact h
theorem wrap_I6 (x : Int) : I6 (IntKind.i64.wrap x) := by
  rw [IntKind.wrap_i64]; unfold I6; omega
theorem wrap64_I6 (x : Int) : I6 (wrap64 x) := by unfold wrap64 I6; omega
end Go.Tcn
namespace Go.Proofs.YteebapopeaafhaaGreatDoor
open Go.RowKit Go.Tcn
set_option linter.unusedVariables false
set_option linter.unusedSimpArgs false
set_option linter.unusedSectionVars false
variable [OkP]
theorem info_ins : (Tryz.prog.info? 57).map (fun i => (i.zero, i.size, i.bytes)) = some (some (.agg #[.int .i64 0, .int .i64 0, .int .i64 0]), 3, 24) := by kernel_rfl
set_option maxRecDepth 100000 in
set_option maxHeartbeats 4000000 in
theorem mk_put (w : World) (p row : Nat) (c : List Ins) (n : List Int) (q : Nat) (kd : List Int) (d : Int) (h : Mk 99 57 2 w p row c n q kd d) (op a b : Int) (hok : okI ⟨op, a, b⟩) (hl : c.length ≤ 1000000) :
    Calls Tryz.prog 60 #[.pointer (some ⟨p, 0, none⟩), .int .i64 op, .int .i64 a, .int .i64 b] w fun e w' => e = .returned (.tuple #[]) ∧ ∃ row', Mk 99 57 2 w' p row' (c ++ [⟨op, a, b⟩]) n q kd d ∧ Lk p row c.length q 1 w row' (c.length + 1) q w' := by
  obtain ⟨i0, hi, hz0, hz1, hz2⟩ := info_parts info_ins
  have hp := h.lt
  have hrl := h.row_lt
  obtain ⟨vc, vn, vk, hv, ho, hrow, hne, hn, hk⟩ := h.ex
  have HR := Lib.hid hrow; clear hrow
  have c0 : w.cell? ⟨p, 0, none⟩ = some vc := by simp [World.cell?, hv]
  have f0 : w.frozen? ⟨p, 0, none⟩ = false := by simp [World.frozen?, hv]
  have hbnd : c.length + 1 ≤ 9223372036854775807 ∧ (c.length + 1) * 24 ≤ 140737488355328 := by omega
  have hp1 : p < (w.alloc (Obj.cells #[Value.int .i64 op, Value.int .i64 a, Value.int .i64 b] 57)).heap.size := by simp; omega
  have hne' : some p ≠ vc.ownBlock := fun h => hne h.symm
  have c0' : (w.alloc (Obj.cells #[Value.int .i64 op, Value.int .i64 a, Value.int .i64 b] 57)).cell? ⟨p, 0, none⟩ = some vc := (World.cell?_alloc_past _ _ _ hp).trans c0
  have f0' : (w.alloc (Obj.cells #[Value.int .i64 op, Value.int .i64 a, Value.int .i64 b] 57)).frozen? ⟨p, 0, none⟩ = false := (World.frozen?_alloc_past _ _ _ hp).trans f0
  have hown0 : (w.alloc (Obj.cells #[Value.int .i64 op, Value.int .i64 a, Value.int .i64 b] 57)).ownsRow 0 57 3 vc c.length (codeCells c) := ho.alloc _
  have hsrc : Src (w.alloc (Obj.cells #[Value.int .i64 op, Value.int .i64 a, Value.int .i64 b] 57)) [] (.slice (some ⟨w.heap.size, 0, none⟩) 1 1) 1 [Value.int .i64 op, Value.int .i64 a, Value.int .i64 b] := src_new w _ [] #[Value.int .i64 op, Value.int .i64 a, Value.int .i64 b] 57 1 1 (Tch.refl [] _) (by simp)
  have h1c : ∀ u ∈ [Value.int .i64 op, Value.int .i64 a, Value.int .i64 b], u.oneCell' = true := by intro u hu; simp at hu; rcases hu with rfl | rfl | rfl <;> rfl
  go_enter Tryz.func60, Tryz.ntmps60
  go_wp2_with (at_builtin; refine wpList_append_any _ rfl (.tmp 12) (.tmp 17) 53 rfl 57 i0 (.agg #[.int .i64 0, .int .i64 0, .int .i64 0]) 3 24 Tryz.underlying53 hi hz0 hz1 hz2 rfl (by decide) vc c.length (codeCells c) rfl hown0 [] _ 1 [Value.int .i64 op, Value.int .i64 a, Value.int .i64 b] rfl hsrc rfl h1c hbnd ?_; intro ao cap w1 hown hgrow hat; have c1 := (hgrow.cell_far ⟨p, 0, none⟩ hp1 hne').trans c0'; have f1 := (hgrow.frozen_far ⟨p, 0, none⟩ hp1 hne').trans f0')
  go_end0
  have hlt := World.ownsRow.lt ho
  have hv1 : w1.heap[p]? = some (.cells #[vc, vn, .int .i64 q, vk, .int .i64 d] 99 (0, 0)) := by
    rw [hgrow.block p hp1 hne', Below.heap_alloc _ _ _ hp]; exact hv
  have hr0 := HR.out
  have hfr : (Value.slice ao (c.length + 1) cap).ownBlock = vc.ownBlock ∨ (Value.slice ao (c.length + 1) cap).ownBlock = some (w.heap.size + 1) := by simpa using hat
  have hne1 : (Value.slice ao (c.length + 1) cap).ownBlock ≠ some p := by
    rcases hfr with e | e
    · rw [e]; exact hne
    · rw [e]; simp; omega
  have T : Tch [p, row] w (w1.setCell ⟨p, 0, none⟩ (.slice ao (c.length + 1) cap)) := by
    refine Tch.setCell ((((Tch.refl [] w).alloc _).mono (M := [p, row]) (by simp)).grown hgrow (fun g hg => ?_)) (by simp) _
    left; rw [hr0, hg]; simp
  have hrow' : (Value.slice ao (c.length + 1) cap).ownBlock.getD p = row ∨ w.heap.size ≤ (Value.slice ao (c.length + 1) cap).ownBlock.getD p := by
    rcases hfr with e | e
    · left; rw [e, hr0]
    · right; rw [e]; simp
  have hsr : ∀ v m news, Src w (p :: row :: OkP.far) v m news → Src (w1.setCell ⟨p, 0, none⟩ (.slice ao (c.length + 1) cap)) (p :: (Value.slice ao (c.length + 1) cap).ownBlock.getD p :: OkP.far) v m news := fun v m news hs => by
    generalize (Value.slice ao (c.length + 1) cap).ownBlock.getD p = row' at *
    have s1 : Src w (p :: row :: row' :: OkP.far) v m news := hs.mono (fun i hi hlt => by
      simp only [List.mem_cons] at hi ⊢
      rcases hi with h | h | h | h
      · exact .inl h
      · exact .inr (.inl h)
      · subst h
        rcases hrow' with e | e
        · exact .inr (.inl e)
        · omega
      · exact .inr (.inr h))
    have s2 := s1.tch T (fun i hi _ => List.mem_append_left (row' :: OkP.far) hi)
    exact s2.mono (fun i hi _ => by
      simp only [List.mem_cons] at hi ⊢
      rcases hi with h | h | h
      · exact .inl h
      · exact .inr (.inr (.inl h))
      · exact .inr (.inr (.inr h)))
  have hb0 := h.bins
  have hg0 := h.gp
  have hGlt : 2 < w.heap.size := by obtain ⟨op, _, h2⟩ := hb0 0 (by omega); exact cell_lt h2
  have hgp' : 2 ≠ p ∧ 2 ≠ (Value.slice ao (c.length + 1) cap).ownBlock.getD p := ⟨hg0.1, by omega⟩
  have hbin' : ∀ j, j < 12 → ∃ op : Int, (6 ≤ op ∧ op ≤ 14 ∨ 19 ≤ op ∧ op ≤ 21) ∧ (w1.setCell ⟨p, 0, none⟩ (.slice ao (c.length + 1) cap)).cell? ⟨2, j, none⟩ = some (.int .i64 op) := fun j hj => by
    obtain ⟨op, h1, h2⟩ := hb0 j hj
    exact ⟨op, h1, by rw [T.cell (cell_lt h2) (by simp; omega)]; exact h2⟩
  refine ⟨rfl, _, ⟨⟨.slice ao (c.length + 1) cap, vn, vk, ?_, ?_, rfl, hne1, hsr _ _ _ hn, hsr _ _ _ hk⟩, h.ok.snoc hok, hgp', hbin'⟩, ⟨⟨by omega, by omega⟩, ⟨by omega, by omega⟩, hrow', T⟩⟩
  · simp [World.setCell, Array.getElem?_modify, hv1]
  · rw [codeCells_snoc', List.length_append]
    exact ownsRow_setCell_other hown hne1 _
set_option maxRecDepth 100000 in
set_option maxHeartbeats 4000000 in
theorem mk_next (w : World) (p row : Nat) (c : List Ins) (n : List Int) (q : Nat) (kd : List Int) (d : Int) (h : Mk 99 57 2 w p row c n q kd d) (hn6 : I64s n) (hnl : n.length ≤ 9223372036854775807) (hq : q ≤ 1000000) :
    Calls Tryz.prog 118 #[.pointer (some ⟨p, 0, none⟩)] w fun e w' => ∃ v q', e = .returned (.int .i64 v) ∧ I6 v ∧ Mk 99 57 2 w' p row c n q' kd d ∧ Lk p row c.length q 1 w row c.length q' w' := by
  have hp := h.lt
  obtain ⟨vc, vn, vk, hv, ho, hrow, hne, hn, hk⟩ := h.ex
  have HR := Lib.hid hrow; clear hrow
  obtain ⟨an, capn, rfl⟩ := hn.form
  have c1 : w.cell? ⟨p, 1, none⟩ = some (.slice an n.length capn) := by simp [World.cell?, hv]
  have c2 : w.cell? ⟨p, 2, none⟩ = some (.int .i64 q) := by simp [World.cell?, hv]
  have f2 : w.frozen? ⟨p, 2, none⟩ = false := by simp [World.frozen?, hv]
  by_cases h0 : n.length = 0
  · have h0b : ((n.length : Int) == 0) = true := by simp [h0]
    have H0 := Lib.hid h0; clear h0
    go_enter Tryz.func118, Tryz.ntmps118
    go_wp2_with fail
    go_ret
    exact ⟨0, q, rfl, by unfold I6; omega, h, (Lk.refl _ _ _ _ _).mono (by omega)⟩
  · have h0b : ((n.length : Int) == 0) = false := by simpa using h0
    obtain ⟨j, hj⟩ : ∃ j : Nat, ((q : Int) + 1) % (n.length : Int) = (j : Int) := ⟨(((q : Int) + 1) % (n.length : Int)).toNat, by have := Int.emod_nonneg ((q : Int) + 1) (show (n.length : Int) ≠ 0 by omega); omega⟩
    have hjl : j < n.length := by have := Int.emod_lt_of_pos ((q : Int) + 1) (show (0 : Int) < (n.length : Int) by omega); omega
    obtain ⟨ad, rfl, had1, had2, hcj⟩ := hn.at (j := j) (by simpa using hjl)
    have hcj2 : w.cell? (ad.add j) = some (.int .i64 n[j]) := by simpa [ints] using hcj
    have hT : Tch [p, row] w (w.setCell ⟨p, 2, none⟩ (.int .i64 (q + 1 : Nat))) := (Tch.refl _ w).setCell (by simp) _
    have hv' : (w.setCell ⟨p, 2, none⟩ (.int .i64 (q + 1 : Nat))).heap[p]? = some (.cells #[vc, .slice (some ad) n.length capn, .int .i64 (q + 1 : Nat), vk, .int .i64 d] 99 (0, 0)) := by
      simp [World.setCell, Array.getElem?_modify, hv]
    have hM : Mk 99 57 2 (w.setCell ⟨p, 2, none⟩ (.int .i64 (q + 1 : Nat))) p row c n (q + 1) kd d :=
      ⟨⟨vc, _, vk, hv', ownsRow_setCell_other (a := ⟨p, 2, none⟩) ho hne _, HR.out, hne, hn.tch hT (fun i hi _ => List.mem_append_left OkP.far hi), hk.tch hT (fun i hi _ => List.mem_append_left OkP.far hi)⟩, h.ok, h.gp, fun j hj => by
        obtain ⟨op, h1, h2⟩ := h.bins j hj
        have hg := h.gp
        exact ⟨op, h1, by rw [hT.cell (cell_lt h2) (by simp; omega)]; exact h2⟩⟩
    obtain ⟨V, hV⟩ : ∃ V, V = w.setCell ⟨p, 2, none⟩ (.int .i64 (q + 1 : Nat)) := ⟨_, rfl⟩
    rw [← hV] at hT hv' hM
    have e1 : V.cell? ⟨p, 1, none⟩ = some (.slice (some ad) n.length capn) := by simp [World.cell?, hv']
    have e2 : V.cell? ⟨p, 2, none⟩ = some (.int .i64 ((q : Int) + 1)) := by simp [World.cell?, hv']
    have hcV : V.cell? (ad.add j) = some (.int .i64 n[j]) := by
      rw [hT.cell (by rw [Addr_add_block]; exact had1) (by rw [Addr_add_block]; exact fun h => had2 (List.mem_append_left OkP.far h))]; exact hcj2
    have ecast : ((q + 1 : Nat) : Int) = (q : Int) + 1 := by omega
    rw [ecast] at hV
    go_enter Tryz.func118, Tryz.ntmps118
    go_upto_region 4 with fail
    rw [← hV]
    have hq1 : (0 : Int) ≤ (q : Int) + 1 := by omega
    have hrem : ((q : Int) + 1).tmod (n.length : Int) = (j : Int) := by rw [Int.tmod_eq_emod_of_nonneg hq1]; exact hj
    have hn0 : ¬ (n.length : Int) = 0 := by omega
    have hb0 : (0 : Int) ≤ (j : Int) ∧ (j : Int) < (n.length : Int) := by omega
    have HV := Lib.hid hV; clear hV
    have HJ := Lib.hid ecast; clear ecast hq c1 c2 f2 hv hv' ho hn hk hcj hcj2
    go_quiet (fail)
    go_wp2_with fail
    go_ret
    refine ⟨_, q + 1, rfl, ?_, hM.tch ((Tch.refl [] V).drewN _) (by simp), ⟨⟨by omega, by omega⟩, ⟨by omega, by omega⟩, .inl rfl, hT.drewN _⟩⟩
    first | exact wrap_I6 _ | exact wrap64_I6 _
end Go.Proofs.YteebapopeaafhaaGreatDoor
namespace Go.Proofs.YteebapopeaafhaaGreatDoor
open Go.RowKit Go.Tcn
set_option linter.unusedVariables false
set_option linter.unusedSimpArgs false
set_option linter.unusedSectionVars false
variable [OkP]
theorem info_int : (Tryz.prog.info? 3).map (fun i => (i.zero, i.size, i.bytes)) = some (some (.int .i64 0), 1, 8) := by kernel_rfl
set_option maxRecDepth 100000 in
set_option maxHeartbeats 4000000 in
theorem mk_local (w : World) (p row : Nat) (c : List Ins) (n : List Int) (q : Nat) (kd : List Int) (d : Int) (h : Mk 99 57 2 w p row c n q kd d) (hn6 : I64s n) (hnl : n.length ≤ 9223372036854775807) (hq : q ≤ 950000) (hl : c.length ≤ 950000) (hkl : kd.length ≤ 100) (kind : Int) :
    Calls Tryz.prog 119 #[.pointer (some ⟨p, 0, none⟩), .int .i64 kind] w fun e w' => ∃ (k : Int) (ok : Bool) (q' : Nat), e = .returned (.tuple #[.int .i64 k, .bool ok]) ∧ (0 ≤ k ∧ (ok = true → k < kd.length)) ∧ Mk 99 57 2 w' p row c n q' kd d ∧ Lk p row c.length q 1 w row c.length q' w' := by
  obtain ⟨i0, hi, hz0, hz1, hz2⟩ := info_parts info_int
  have hp := h.lt
  obtain ⟨vc, vn, vk, hv, ho, hrow, hne, hn, hk⟩ := h.ex
  clear ho hrow hne hn
  obtain ⟨ak, capk, rfl⟩ := hk.form
  have c3 : w.cell? ⟨p, 3, none⟩ = some (.slice ak kd.length capk) := by simp [World.cell?, hv]
  go_enter Tryz.func119, Tryz.ntmps119
  go_wp2_with fail
  go_loopw [6, 7] (fun o i wr => ∃ (k : Nat) (m : List Int), k ≤ kd.length ∧ i = .int .i64 k ∧ m.length ≤ k ∧ wr.ownsRow 0 3 1 o m.length (ints m) ∧ (∀ g, o.ownBlock = some g → w.heap.size ≤ g) ∧ (∀ x ∈ m, 0 ≤ x ∧ x < kd.length) ∧ Tch [] w wr) (fun _ i _ => kd.length - (intOf i).toNat)
  case atStart => exact ⟨0, [], by omega, rfl, by simp, World.ownsRow_nil _ _ _ _, by simp [Value.ownBlock], by simp, Tch.refl _ _⟩
  case round =>
    obtain ⟨k, m, hk1, rfl, hml, ho, hg, hmr, ht⟩ := hrel
    obtain ⟨oo, oc, rfl⟩ := ownsRow_form ho
    have c3r := tch_cell' ht c3
    by_cases hlt : k < kd.length
    · obtain ⟨ad, rfl, had1, had2, hcj⟩ := (hk.tch ht (by simp)).at (j := k) (by simpa using hlt)
      have hcj2 : wr.cell? (ad.add k) = some (.int .i64 kd[k]) := by simpa [ints] using hcj
      clear c3 hcj
      generalize kd[k] = x at *
      cases hx : (x == kind)
      · go_wp2_with fail
        go_roundw
        case rel => exact ⟨k + 1, m, by omega, by go_num, by omega, ho, hg, hmr, ht⟩
        case measure => simp [intOf]; omega
      · have hbnd : m.length + 1 ≤ 9223372036854775807 ∧ (m.length + 1) * 8 ≤ 140737488355328 := by omega
        have hown0 : (wr.alloc (Obj.cells #[Value.int IntKind.i64 (k : Int)] 3)).ownsRow 0 3 1 (.slice oo m.length oc) m.length (ints m) := ho.alloc _
        have hsrc : Src (wr.alloc (Obj.cells #[Value.int IntKind.i64 (k : Int)] 3)) [] (.slice (some ⟨wr.heap.size, 0, none⟩) 1 1) 1 [Value.int IntKind.i64 (k : Int)] := src_new wr _ [] #[Value.int IntKind.i64 (k : Int)] 3 1 1 (Tch.refl [] _) (by simp)
        have h1c : ∀ u ∈ [Value.int IntKind.i64 (k : Int)], u.oneCell' = true := by intro u hu; simp at hu; subst hu; rfl
        go_wp2_with (at_builtin; refine wpList_append_any _ rfl _ _ 23 rfl 3 i0 (.int .i64 0) 1 8 Tryz.underlying23 hi hz0 hz1 hz2 rfl (by decide) (.slice oo m.length oc) m.length (ints m) rfl hown0 [] _ 1 [Value.int IntKind.i64 (k : Int)] rfl hsrc rfl h1c hbnd ?_; intro ao1 cap1 w1 hown hgrow hat)
        go_roundw
        case rel =>
          refine ⟨k + 1, m ++ [(k : Int)], by omega, by go_num, by simp; omega, by simpa [ints] using hown, ?_, ?_, (ht.alloc _).grown hgrow (fun g h => .inr (hg g h))⟩
          · intro g h
            rcases hat with e | e
            · exact hg g (e ▸ h)
            · rw [e] at h
              have := ht.size
              simp at h
              omega
          · intro y hy
            rcases List.mem_append.1 hy with h' | h'
            · exact hmr y h'
            · simp at h'; omega
        case measure => simp [intOf]; omega
    · have hM := h.tch ht (by simp)
      cases hm0 : (((m.length : Nat) : Int) == 0)
      · have hm1 : 0 < m.length := by have := beq_eq_false_iff_ne.1 hm0; omega
        go_wp2_with fail
        refine (mk_next _ p row c n q kd d hM hn6 hnl (by omega)).mono ?_
        rintro e w2 ⟨v, q', rfl, hv6, hM2, L2⟩
        obtain ⟨j, hj⟩ : ∃ j : Nat, v % (m.length : Int) = (j : Int) := ⟨(v % (m.length : Int)).toNat, by have := Int.emod_nonneg v (show (m.length : Int) ≠ 0 by omega); omega⟩
        have hjl : j < m.length := by have := Int.emod_lt_of_pos v (show (0 : Int) < (m.length : Int) by omega); omega
        have hpk := fun w => hand_Pick v m.length hv6 (by omega) (by omega) w
        rw [hj] at hpk
        have hs := src_of_owns ho [p, row] (fun g hx hx2 => by have := hg g hx; have := h.lt; have := h.row_lt; simp at hx2; omega)
        obtain ⟨ad, rfl, had1, had2, hcj⟩ := (hs.tch L2.t (fun i hi _ => hi)).at (j := j) (by simpa using hjl)
        have hcj2 : w2.cell? (ad.add j) = some (.int .i64 m[j]) := by simpa [ints] using hcj
        have hr2 := hmr m[j] (List.getElem_mem hjl)
        clear hj c3 c3r hcj ho
        generalize m[j] = x at *
        go_wp2_with fail
        refine (hpk _).mono ?_
        rintro e w' ⟨rfl, rfl⟩
        go_wp2_with fail
        go_ret2
        have L1 : Lk p row c.length q 0 w row c.length q wr := ⟨by omega, by omega, .inl rfl, ht.nil⟩
        exact ⟨x, true, q', rfl, ⟨hr2.1, fun _ => hr2.2⟩, hM2, by simpa using L1.trans L2⟩
      · go_wp2_with fail
        go_ret2
        exact ⟨0, false, q, rfl, ⟨by omega, fun e => by cases e⟩, hM, ⟨by omega, by omega, .inl rfl, ht.nil⟩⟩
end Go.Proofs.YteebapopeaafhaaGreatDoor
namespace Go.Tcn
set_option linter.unusedVariables false
set_option linter.unusedSimpArgs false
set_option linter.unusedSectionVars false
variable [OkP]
theorem ok_push (a : Int) (h : -2147483648 ≤ a ∧ a ≤ 2147483647) : okI ⟨1, a, 0⟩ := .inl (by unfold rightI limLo limHi; simp; omega)
theorem ok_load (a : Int) (h : 0 ≤ a ∧ a ≤ 9) : okI ⟨2, a, 0⟩ := .inl (by unfold rightI limLo limHi; simp; omega)
theorem ok_store (a : Int) (h : 0 ≤ a ∧ a ≤ 9) : okI ⟨3, a, 0⟩ := .inl (by unfold rightI limLo limHi; simp; omega)
theorem ok_null (a : Int) (h : 3 ≤ a ∧ a ≤ 4) : okI ⟨25, a, 0⟩ := .inl (by unfold rightI limLo limHi; simp; omega)
theorem ok_new (a b : Int) (h : 3 ≤ a ∧ a ≤ 4) (hb : 0 ≤ b ∧ b ≤ 2 ∨ 4 ≤ b ∧ b ≤ 6) : okI ⟨27, a, b⟩ := .inl (by unfold rightI limLo limHi; simp; omega)
theorem ok_getf (a : Int) (h : 0 ≤ a ∧ a ≤ 7) : okI ⟨33, a, 0⟩ := .inl (by unfold rightI limLo limHi; simp; omega)
theorem ok_putf (a : Int) (h : 0 ≤ a ∧ a ≤ 7) : okI ⟨34, a, 0⟩ := .inl (by unfold rightI limLo limHi; simp; omega)
theorem ok_buf (a : Int) (h : 1 ≤ a ∧ a ≤ 2) : okI ⟨35, a, 0⟩ := .inl (by unfold rightI limLo limHi; simp; omega)
theorem ok_send (a : Int) (h : 1 ≤ a ∧ a ≤ 2) : okI ⟨36, a, 0⟩ := .inl (by unfold rightI limLo limHi; simp; omega)
theorem ok_call (a : Int) (h : 0 ≤ a ∧ a ≤ 7) : okI ⟨37, a, 0⟩ := .inl (by unfold rightI limLo limHi; simp; omega)
theorem ok_callx (a : Int) (h : 0 ≤ a ∧ a ≤ 3) : okI ⟨38, a, 0⟩ := .inl (by unfold rightI limLo limHi; simp; omega)
theorem ok_open (h : OkP.opn = true) : okI ⟨24, -1, 0⟩ := .inr ⟨h, rfl, rfl, rfl⟩
theorem ok_zero (op : Int) (h : 4 ≤ op ∧ op ≤ 22 ∨ op = 26 ∨ 28 ≤ op ∧ op ≤ 32 ∨ op = 39) : okI ⟨op, 0, 0⟩ := by
  refine .inl ?_
  have l1 : limLo op = 0 := by unfold limLo; (repeat rw [if_neg (by omega)])
  have l2 : limHi op = 0 := by unfold limHi; (repeat rw [if_neg (by omega)])
  have h27 : ¬ op = 27 := by omega
  show rightI op 0 0 = true
  unfold rightI
  rw [l1, l2]
  simp [h27]
  omega
theorem Mk.c4 {T E : TypeId} {G : Nat} {w : World} {p row : Nat} {c : List Ins} {n : List Int} {q : Nat} {kd : List Int} {d : Int} (h : Mk T E G w p row c n q kd d) : w.cell? ⟨p, 4, none⟩ = some (.int .i64 d) := by
  obtain ⟨vc, vn, vk, hv, _⟩ := h.ex
  simp [World.cell?, hv]
theorem Mk.f4 {T E : TypeId} {G : Nat} {w : World} {p row : Nat} {c : List Ins} {n : List Int} {q : Nat} {kd : List Int} {d : Int} (h : Mk T E G w p row c n q kd d) : w.frozen? ⟨p, 4, none⟩ = false := by
  obtain ⟨vc, vn, vk, hv, _⟩ := h.ex
  simp [World.frozen?, hv]
theorem Mk.deep {T E : TypeId} {G : Nat} {w : World} {p row : Nat} {c : List Ins} {n : List Int} {q : Nat} {kd : List Int} {d : Int} (h : Mk T E G w p row c n q kd d) (d' : Int) : Mk T E G (w.setCell ⟨p, 4, none⟩ (.int .i64 d')) p row c n q kd d' ∧ Lk p row c.length q 0 w row c.length q (w.setCell ⟨p, 4, none⟩ (.int .i64 d')) := by
  obtain ⟨vc, vn, vk, hv, ho, hrow, hne, hn, hk⟩ := h.ex
  have T1 : Tch [p, row] w (w.setCell ⟨p, 4, none⟩ (.int .i64 d')) := (Tch.refl _ w).setCell (by simp) _
  refine ⟨⟨⟨vc, vn, vk, ?_, ownsRow_setCell_other (a := ⟨p, 4, none⟩) ho hne _, hrow, hne, hn.tch T1 (fun i hi _ => List.mem_append_left OkP.far hi), hk.tch T1 (fun i hi _ => List.mem_append_left OkP.far hi)⟩, h.ok, h.gp, fun j hj => ?_⟩, ⟨by omega, by omega, .inl rfl, T1⟩⟩
  · simp [World.setCell, Array.getElem?_modify, hv]
  · obtain ⟨op, h1, h2⟩ := h.bins j hj
    have hg := h.gp
    exact ⟨op, h1, by rw [T1.cell (cell_lt h2) (by simp; omega)]; exact h2⟩
end Go.Tcn
namespace Go.Proofs.YteebapopeaafhaaGreatDoor
open Go.RowKit Go.Tcn
set_option linter.unusedVariables false
set_option linter.unusedSimpArgs false
set_option linter.unusedSectionVars false
variable [OkP]
theorem mk_putTo (w : World) (p row : Nat) (c : List Ins) (n : List Int) (q : Nat) (kd : List Int) (d : Int) (h : Mk 99 57 2 w p row c n q kd d) (op a b : Int) (hok : okI ⟨op, a, b⟩) (hl : c.length ≤ 1000000) :
    Calls Tryz.prog 60 #[.pointer (some ⟨p, 0, none⟩), .int .i64 op, .int .i64 a, .int .i64 b] w fun e w' => e = .returned (.tuple #[]) ∧ MkTo 99 57 2 p row c n q kd d 1 w w' :=
  (mk_put w p row c n q kd d h op a b hok hl).mono fun e w' ⟨he, row', hM, hL⟩ => ⟨he, _, q, row', hM, by simpa using hL⟩
theorem arr6_at (b : Int) : ∃ v, (0 ≤ v ∧ v ≤ 2 ∨ 4 ≤ v ∧ v ≤ 6) ∧ ∀ w, (Instr.index 142 (.agg #[.int .i64 0, .int .i64 1, .int .i64 2, .int .i64 4, .int .i64 5, .int .i64 6]) (.int .i64 (b % 6))).run Tryz.prog w = .ok (.int .i64 v) w := by
  have h : b % 6 = 0 ∨ b % 6 = 1 ∨ b % 6 = 2 ∨ b % 6 = 3 ∨ b % 6 = 4 ∨ b % 6 = 5 := by omega
  rcases h with h | h | h | h | h | h
  all_goals rw [h]
  · exact ⟨0, by omega, fun _ => by kernel_rfl⟩
  · exact ⟨1, by omega, fun _ => by kernel_rfl⟩
  · exact ⟨2, by omega, fun _ => by kernel_rfl⟩
  · exact ⟨4, by omega, fun _ => by kernel_rfl⟩
  · exact ⟨5, by omega, fun _ => by kernel_rfl⟩
  · exact ⟨6, by omega, fun _ => by kernel_rfl⟩
set_option maxRecDepth 100000 in
set_option maxHeartbeats 4000000 in
theorem mk_arr (w : World) (p row : Nat) (c : List Ins) (n : List Int) (q : Nat) (kd : List Int) (d : Int) (h : Mk 99 57 2 w p row c n q kd d) (hn6 : I64s n) (hnl : n.length ≤ 9223372036854775807) (hq : q ≤ 900000) (hl : c.length ≤ 900000) (hkl : kd.length ≤ 10) (kind : Int) (hkind : 3 ≤ kind ∧ kind ≤ 4) :
    Calls Tryz.prog 93 #[.pointer (some ⟨p, 0, none⟩), .int .i64 kind] w fun e w' => e = .returned (.tuple #[]) ∧ MkTo 99 57 2 p row c n q kd d 8 w w' := by
  go_enter Tryz.func93, Tryz.ntmps93
  go_wp2_with fail
  refine (mk_next _ p row c n q kd d h hn6 hnl (by omega)).mono ?_
  rintro e w1 ⟨v1, q1, rfl, hv1, h1, L1⟩
  have a1 := L1.q; have b1 := L1.l
  have hpk := fun w => hand_Pick v1 6 hv1 (by omega) (by omega) w
  have hcs : v1 % 6 = 0 ∨ v1 % 6 = 1 ∨ v1 % 6 = 2 ∨ v1 % 6 = 3 ∨ v1 % 6 = 4 ∨ v1 % 6 = 5 := by omega
  rcases hcs with e1 | e1 | e1 | e1 | e1 | e1
  · rw [e1] at hpk
    clear e1
    go_wp2_with fail
    refine (hpk _).mono ?_
    rintro e w' ⟨rfl, rfl⟩
    go_wp2_with fail
    refine (mk_local _ p row c n q1 kd d h1 hn6 hnl (by omega) (by omega) (by omega) kind).mono ?_
    rintro e w2 ⟨k2, ok2, q2, rfl, hk2, h2, L2⟩
    have a2 := L2.q; have b2 := L2.l
    cases ok2
    · go_wp2_with fail
      refine (mk_putTo _ p row c n q2 kd d h2 25 kind 0 (ok_null _ hkind) (by omega)).mono ?_
      rintro e w3 ⟨rfl, c3, q3, r3, h3, L3⟩
      have a3 := L3.q; have b3 := L3.l
      go_wp2_with fail
      go_end0
      exact ⟨rfl, c3, q3, r3, h3, ((L1.trans L2).trans L3).mono (by omega)⟩
    · have hk2 := hk2.2 rfl
      go_wp2_with fail
      refine (mk_putTo _ p row c n q2 kd d h2 2 k2 0 (ok_load _ (by omega)) (by omega)).mono ?_
      rintro e w3 ⟨rfl, c3, q3, r3, h3, L3⟩
      have a3 := L3.q; have b3 := L3.l
      go_wp2_with fail
      refine bodyPost_ret (v := .tuple #[]) (results_none rfl _ _ _) rfl ?_
      exact ⟨rfl, c3, q3, r3, h3, ((L1.trans L2).trans L3).mono (by omega)⟩
  · rw [e1] at hpk
    clear e1
    go_wp2_with fail
    refine (hpk _).mono ?_
    rintro e w' ⟨rfl, rfl⟩
    go_wp2_with fail
    refine (mk_local _ p row c n q1 kd d h1 hn6 hnl (by omega) (by omega) (by omega) kind).mono ?_
    rintro e w2 ⟨k2, ok2, q2, rfl, hk2, h2, L2⟩
    have a2 := L2.q; have b2 := L2.l
    cases ok2
    · go_wp2_with fail
      refine (mk_putTo _ p row c n q2 kd d h2 25 kind 0 (ok_null _ hkind) (by omega)).mono ?_
      rintro e w3 ⟨rfl, c3, q3, r3, h3, L3⟩
      have a3 := L3.q; have b3 := L3.l
      go_wp2_with fail
      go_end0
      exact ⟨rfl, c3, q3, r3, h3, ((L1.trans L2).trans L3).mono (by omega)⟩
    · have hk2 := hk2.2 rfl
      go_wp2_with fail
      refine (mk_putTo _ p row c n q2 kd d h2 2 k2 0 (ok_load _ (by omega)) (by omega)).mono ?_
      rintro e w3 ⟨rfl, c3, q3, r3, h3, L3⟩
      have a3 := L3.q; have b3 := L3.l
      go_wp2_with fail
      refine bodyPost_ret (v := .tuple #[]) (results_none rfl _ _ _) rfl ?_
      exact ⟨rfl, c3, q3, r3, h3, ((L1.trans L2).trans L3).mono (by omega)⟩
  · rw [e1] at hpk
    clear e1
    go_wp2_with fail
    refine (hpk _).mono ?_
    rintro e w' ⟨rfl, rfl⟩
    have ek : kind - 3 + 1 = kind - 2 := by omega
    have EK := Lib.hid ek; clear ek
    go_wp2_with fail
    refine (mk_putTo _ p row c n q1 kd d h1 35 (kind - 3 + 1) 0 (ok_buf _ (by omega)) (by omega)).mono ?_
    rintro e w2 ⟨rfl, c2, q2, r2, h2, L2⟩
    have a2 := L2.q; have b2 := L2.l
    go_wp2_with fail
    go_end0
    exact ⟨rfl, c2, q2, r2, h2, (L1.trans L2).mono (by omega)⟩
  · rw [e1] at hpk
    clear e1
    go_wp2_with fail
    refine (hpk _).mono ?_
    rintro e w' ⟨rfl, rfl⟩
    have ek : kind - 3 + 1 = kind - 2 := by omega
    have EK := Lib.hid ek; clear ek
    go_wp2_with fail
    refine (mk_putTo _ p row c n q1 kd d h1 35 (kind - 3 + 1) 0 (ok_buf _ (by omega)) (by omega)).mono ?_
    rintro e w2 ⟨rfl, c2, q2, r2, h2, L2⟩
    have a2 := L2.q; have b2 := L2.l
    go_wp2_with fail
    go_end0
    exact ⟨rfl, c2, q2, r2, h2, (L1.trans L2).mono (by omega)⟩
  · rw [e1] at hpk
    clear e1
    go_wp2_with fail
    refine (hpk _).mono ?_
    rintro e w' ⟨rfl, rfl⟩
    go_wp2_with fail
    refine (mk_putTo _ p row c n q1 kd d h1 33 (kind - 1) 0 (ok_getf _ (by omega)) (by omega)).mono ?_
    rintro e w2 ⟨rfl, c2, q2, r2, h2, L2⟩
    have a2 := L2.q; have b2 := L2.l
    go_wp2_with fail
    go_end0
    exact ⟨rfl, c2, q2, r2, h2, (L1.trans L2).mono (by omega)⟩
  · rw [e1] at hpk
    clear e1
    go_wp2_with fail
    refine (hpk _).mono ?_
    rintro e w' ⟨rfl, rfl⟩
    go_wp2_with fail
    refine (mk_next _ p row c n q1 kd d h1 hn6 hnl (by omega)).mono ?_
    rintro e w2 ⟨v2, q2, rfl, hv2, h2, L2⟩
    have a2 := L2.q; have b2 := L2.l
    go_wp2_with fail
    refine (hand_Pick v2 9 hv2 (by omega) (by omega) _).mono ?_
    rintro e w' ⟨rfl, rfl⟩
    have m2 : 0 ≤ v2 % 9 ∧ v2 % 9 < 9 := by omega
    go_wp2_with fail
    refine (mk_putTo _ p row c n q2 kd d h2 1 (v2 % 9) 0 (ok_push _ (by omega)) (by omega)).mono ?_
    rintro e w3 ⟨rfl, c3, q3, r3, h3, L3⟩
    have a3 := L3.q; have b3 := L3.l
    go_wp2_with fail
    refine (mk_next _ p r3 c3 n q3 kd d h3 hn6 hnl (by omega)).mono ?_
    rintro e w4 ⟨v4, q4, rfl, hv4, h4, L4⟩
    have a4 := L4.q; have b4 := L4.l
    obtain ⟨b0, hb0, hix⟩ := arr6_at v4
    go_wp2_with fail
    refine (hand_Pick v4 6 hv4 (by omega) (by omega) _).mono ?_
    rintro e w' ⟨rfl, rfl⟩
    go_wp2_with fail
    refine (mk_putTo _ p r3 c3 n q4 kd d h4 27 kind b0 (ok_new _ _ hkind hb0) (by omega)).mono ?_
    rintro e w5 ⟨rfl, c5, q5, r5, h5, L5⟩
    have a5 := L5.q; have b5 := L5.l
    go_wp2_with fail
    go_end0
    exact ⟨rfl, c5, q5, r5, h5, ((((L1.trans L2).trans L3).trans L4).trans L5).mono (by omega)⟩
end Go.Proofs.YteebapopeaafhaaGreatDoor
