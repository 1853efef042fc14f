/-
  CONTRACTS: image: an applet's parts, read: methods. Conditions: the reader's bytes lie in blocks that nobody turns.
-/
import Derived.Test.YtapephelfijcbaaGreatDoorHIms
import Derived.Deep.DeepCutAuto
namespace Go.Tcn
open Go.RowKit
set_option linter.unusedVariables false
set_option linter.unusedSimpArgs false
theorem box_setc {w : World} {g : Nat} {cs : Array Value} {T : TypeId} (h : w.heap[g]? = some (.cells cs T (0, 0))) (j : Nat) (u : Value) : (w.setCell ⟨g, j, none⟩ u).heap[g]? = some (.cells (cs.setIfInBounds j u) T (0, 0)) := by
  simp [World.setCell, Array.getElem?_modify, h]
theorem cells_of_heap {w : World} {g : Nat} {cs : Array Value} {T : TypeId} (h : w.heap[g]? = some (.cells cs T (0, 0))) : ∀ (j : Nat) u, cs.toList[j]? = some u → w.cell? ((⟨g, 0, none⟩ : Addr).add j) = some u := by
  intro j u hj
  have e : (⟨g, 0, none⟩ : Addr).add j = ⟨g, j, none⟩ := by
    unfold Addr.add; split <;> simp_all
  rw [e]
  unfold World.cell?
  rw [h]
  simpa using hj
theorem B4.of {w : World} {g : Nat} {x0 x1 x2 x3 : Value} {T : TypeId} (h : w.heap[g]? = some (.cells #[x0, x1, x2, x3] T (0, 0))) : B4 w g x0 x1 x2 x3 := by
  constructor <;> simp [World.cell?, World.frozen?, h]
end Go.Tcn
namespace Go.Proofs.YtapephelfijcbaaGreatDoor
open Go.RowKit Go.Tcn
set_option linter.unusedVariables false
set_option linter.unusedSimpArgs false
theorem info_insU : (Tryz.prog.info? 47).map (fun i => (i.zero, i.size, i.bytes)) = some (some (.agg #[.int .i64 0, .int .i64 0, .int .i64 0]), 3, 24) := by kernel_rfl
theorem readI_lack (l : List Int) (h : (readI l false).2.1 = 0) : (readI l false).2.2.2 = false := by
  by_cases hs : rdOk l false 1 = true
  · by_cases ho : 1 ≤ beN (rdOut l false 1) ∧ beN (rdOut l false 1) ≤ 39
    · obtain ⟨a, b, r', k', he⟩ : ∃ a b r' k', opsI (beN (rdOut l false 1)) (rdRest l false 1) false = ((a, b), r', k') := ⟨_, _, _, _, rfl⟩
      have hri := readI_ok l false hs _ rfl ho a b r' k' he
      cases k'
      · rw [if_neg (by simp)] at hri
        split at hri <;> rw [hri]
      · rw [if_pos rfl] at hri
        rw [hri] at h; simp at h
    · rw [readI_op l false hs ho]
  · rw [readI_short l false (by simpa using hs)] at h; simp at h
theorem readI_le (l : List Int) : (readI l false).2.2.1.length ≤ l.length := by
  have h1 := rdRest_le' l false 1
  by_cases hs : rdOk l false 1 = true
  · by_cases ho : 1 ≤ beN (rdOut l false 1) ∧ beN (rdOut l false 1) ≤ 39
    · obtain ⟨a, b, r', k', he⟩ : ∃ a b r' k', opsI (beN (rdOut l false 1)) (rdRest l false 1) false = ((a, b), r', k') := ⟨_, _, _, _, rfl⟩
      have hri := readI_ok l false hs _ rfl ho a b r' k' he
      have hr : r'.length ≤ (rdRest l false 1).length := by
        generalize beN (rdOut l false 1) = o at *
        generalize rdRest l false 1 = m at *
        unfold opsI at he
        split at he
        · simp only [Prod.mk.injEq] at he; have e := congrArg Prod.fst he.2; simp only at e; rw [← e]; exact rdRest_le' _ _ _
        split at he
        · simp only [Prod.mk.injEq] at he; have e := congrArg Prod.fst he.2; simp only at e; rw [← e]; exact rdRest_le' _ _ _
        split at he
        · simp only [Prod.mk.injEq] at he; have e := congrArg Prod.fst he.2; simp only at e; rw [← e]; exact Nat.le_trans (rdRest_le' _ _ _) (rdRest_le' _ _ _)
        split at he
        · simp only [Prod.mk.injEq] at he; have e := congrArg Prod.fst he.2; simp only at e; rw [← e]; exact rdRest_le' _ _ _
        · simp only [Prod.mk.injEq] at he; rw [← he.2.1]; exact Nat.le_refl _
      rw [hri]
      split
      · simp only; omega
      · split <;> (simp only; omega)
    · rw [readI_op l false hs ho]; exact h1
  · rw [readI_short l false (by simpa using hs)]; exact h1
/-- code.Read of a state without error. -/
theorem rd_code (w : World) (p q : Nat) (L : List Nat) (l : List Int) (h : PSt 80 116 w p q L (.ok l)) :
    Calls Tryz.prog 97 #[.pointer (some ⟨q, 0, none⟩)] w fun e w' => ∃ (x : Ins) (er : Int) (r : List Int) (k : Bool), e = .returned (.tuple #[.agg #[.int .i64 x.op, .int .i64 x.a, .int .i64 x.b], .int .i64 er]) ∧ Rd w' 116 q L r k ∧ r.length ≤ 8192 ∧ w'.heap[p]? = some (.cells #[.pointer (some ⟨q, 0, none⟩), .int .i64 0] 80 (0, 0)) ∧ (er = 0 → k = false ∧ insP l = .ok (x, r)) ∧ (er ≠ 0 → insP l = .error er) ∧ Tch [q] w w' := by
  obtain ⟨l', k, wr, h1, h2, h3, h4, h5⟩ := h.ex
  have h6 : l = l' ∧ k = false ∧ wr = 0 := by
    rcases h5 with ⟨e, hk, hw⟩ | ⟨e, he, _⟩
    · simp only [Except.ok.injEq] at e; exact ⟨e, hk, hw⟩
    · cases he
  obtain ⟨rfl, rfl, rfl⟩ := h6
  refine (code_Read w q L l false h2 (by omega) _ rfl).mono ?_
  rintro e w' ⟨rfl, hr, t⟩
  have := readI_le l
  refine ⟨⟨(readI l false).1.1, (readI l false).1.2.1, (readI l false).1.2.2⟩, _, _, _, rfl, hr, by omega, by rw [t.block p (heap_lt h1) (by simpa using h4)]; exact h1, fun he => ⟨readI_lack l he, ?_⟩, fun he => ?_, t⟩
  · unfold insP; rw [if_pos he]
  · unfold insP; rw [if_neg he]
set_option maxRecDepth 100000 in
set_option maxHeartbeats 4000000 in
theorem im_meth1 (w : World) (p q g b row : Nat) (L : List Nat) (l : List Int) (c : List Ins) (vp vl : Value) (rs : Int) (h : PSt 80 116 w p q (row :: g :: L) (.ok l)) (hL : p ∈ L) (ho : OB w 50 47 3 g 3 row #[vp, .int .i64 rs, vl, .slice none 0 0] c.length (codeCells c)) (hb : w.cell? ⟨b, 0, none⟩ = some (.pointer (some ⟨p, 0, none⟩)))
    (hd : b ≠ p ∧ b ≠ q ∧ b ≠ g ∧ g ≠ p ∧ g ≠ q ∧ row ≠ p ∧ row ≠ q ∧ row ≠ b) (hx : c.length ≤ 255) :
    Calls Tryz.prog 96 #[.pointer (some ⟨b, 0, none⟩), .pointer (some ⟨g, 0, none⟩)] w fun e w' => e = .returned (.tuple #[]) ∧ ∃ x st' row', Got insP (.ok l) x st' ∧ PSt 80 116 w' p q (row' :: g :: L) st' ∧ OB w' 50 47 3 g 3 row' #[vp, .int .i64 rs, vl, .slice none 0 0] (c ++ [x]).length (codeCells (c ++ [x])) ∧ (row' = row ∨ w.heap.size ≤ row') ∧ Tch [p, q, g, row] w w' := by
  obtain ⟨i0, hi, hz0, hz1, hz2⟩ := info_parts info_insU
  obtain ⟨d1, d2, d3, d4, d5, d6, d7, d8⟩ := hd
  have hlt := h.lt
  have hpc := h.cell
  obtain ⟨v0, hv0, hown, hrow, hne⟩ := ho.ex
  have hglt := heap_lt hv0
  have hblt := cell_lt hb
  have hrlt := ho.row_lt
  have hnq : ∀ k, v0.ownBlock = some k → k ∉ [q] := fun k hk => by
    rw [hk] at hrow; simp at hrow; simp; omega
  have hnp : ∀ k, v0.ownBlock = some k → k ∉ [p] := fun k hk => by
    rw [hk] at hrow; simp at hrow; simp; omega
  have HR := Lib.hid hrow; clear hrow
  go_enter Tryz.func96, Tryz.ntmps96
  go_wp2_with fail
  refine (rd_code w p q _ l h).mono ?_
  rintro e w1 ⟨x, er, r, k, rfl, R1, hr1, hp1, he0, he1, t1⟩
  have hb1 : w1.cell? ⟨b, 0, none⟩ = some (.pointer (some ⟨p, 0, none⟩)) := by rw [t1.cell hblt (by simpa using d2)]; exact hb
  have hg1 : w1.heap[g]? = some (.cells (#[vp, .int .i64 rs, vl, .slice none 0 0].setIfInBounds 3 v0) 50 (0, 0)) := by rw [t1.block g hglt (by simpa using d5)]; exact hv0
  obtain ⟨V, hVd⟩ : ∃ V, V = w1.alloc (.cells #[.int .i64 x.op, .int .i64 x.a, .int .i64 x.b] 47) := ⟨_, rfl⟩
  have tV : Tch [] w1 V := by rw [hVd]; exact (Tch.refl [] w1).alloc _
  have hX : ∀ (j : Nat) u, (#[.int .i64 x.op, .int .i64 x.a, .int .i64 x.b] : Array Value).toList[j]? = some u → V.cell? ((⟨w1.heap.size, 0, none⟩ : Addr).add j) = some u := by rw [hVd]; exact new_cells w1 _ _
  have hpV : V.heap[p]? = some (.cells #[.pointer (some ⟨q, 0, none⟩), .int .i64 0] 80 (0, 0)) := by rw [tV.block p (heap_lt hp1) (by simp)]; exact hp1
  have hgV : V.heap[g]? = some (.cells (#[vp, .int .i64 rs, vl, .slice none 0 0].setIfInBounds 3 v0) 50 (0, 0)) := by rw [tV.block g (heap_lt hg1) (by simp)]; exact hg1
  have hbV : V.cell? ⟨b, 0, none⟩ = some (.pointer (some ⟨p, 0, none⟩)) := by rw [tV.cell (cell_lt hb1) (by simp)]; exact hb1
  have RV : Rd V 116 q (row :: g :: L) r k := R1.tch tV (by simp) (by simp)
  have hoV := ownsRow_tch (ownsRow_tch hown t1 hnq) tV (by simp)
  have t1V : Tch [q] w V := t1.trans tV (fun _ _ x => x) (by simp)
  have sV := t1V.size
  have sX : w1.heap.size < V.heap.size := by rw [hVd]; simp
  have sw1 := t1.size
  go_upto_region 1 with fail
  rw [← hVd]
  clear hVd
  have cp0 : V.cell? ⟨p, 0, none⟩ = some (.pointer (some ⟨q, 0, none⟩)) := by simp [World.cell?, hpV]
  have cp1 : V.cell? ⟨p, 1, none⟩ = some (.int .i64 0) := by simp [World.cell?, hpV]
  have fp1 : V.frozen? ⟨p, 1, none⟩ = false := by simp [World.frozen?, hpV]
  -- behind 'wrong': one world
  obtain ⟨W, hW, hpW, tW⟩ : ∃ W, W = V.setCell ⟨p, 1, none⟩ (.int .i64 er) ∧ W.heap[p]? = some (.cells #[.pointer (some ⟨q, 0, none⟩), .int .i64 er] 80 (0, 0)) ∧ Tch [p] V W := ⟨_, rfl, setCell_two_1 hpV, (Tch.refl _ V).setCell (.inl (by simp)) _⟩
  have hbW : W.cell? ⟨b, 0, none⟩ = some (.pointer (some ⟨p, 0, none⟩)) := by rw [tW.cell (cell_lt hbV) (by simpa using d1)]; exact hbV
  have hgW : W.heap[g]? = some (.cells (#[vp, .int .i64 rs, vl, .slice none 0 0].setIfInBounds 3 v0) 50 (0, 0)) := by rw [tW.block g (heap_lt hgV) (by simpa using d4)]; exact hgV
  have hXW : ∀ (j : Nat) u, (#[.int .i64 x.op, .int .i64 x.a, .int .i64 x.b] : Array Value).toList[j]? = some u → W.cell? ((⟨w1.heap.size, 0, none⟩ : Addr).add j) = some u := fun j u hj => by
    rw [tW.cell (by rw [Addr_add_block]; exact sX) (by rw [Addr_add_block]; simp; omega)]; exact hX j u hj
  have RW : Rd W 116 q (row :: g :: L) r k := RV.tch tW (by simp; omega) (fun i hi _ => by simp at hi; simp [hi, hL])
  have hoW := ownsRow_tch hoV tW hnp
  have PW : ∃ st', Got insP (.ok l) x st' ∧ PSt 80 116 W p q (row :: g :: L) st' := by
    by_cases h0 : er = 0
    · obtain ⟨hk, hins⟩ := he0 h0
      refine ⟨.ok r, by simp [Got, hins], ⟨r, k, er, hpW, RW, hr1, hlt.2.2, .inl ⟨rfl, hk, h0⟩⟩⟩
    · have hins := he1 h0
      refine ⟨.error er, by simp [Got, hins], ⟨r, k, er, hpW, RW, hr1, hlt.2.2, .inr ⟨er, rfl, h0, by unfold effE; rw [if_pos h0]⟩⟩⟩
  obtain ⟨st', hgot, PW⟩ := PW
  have cb : W.cell? ⟨g, 3, none⟩ = some v0 := by simp [World.cell?, hgW]
  have fb : W.frozen? ⟨g, 3, none⟩ = false := by simp [World.frozen?, hgW]
  go_upto_region 3 with fail
  rw [← hW]
  clear hW cp0 cp1 fp1 hX RV hpV hgV hbV hoV tV t1 R1 hp1 he0 he1 hb1 hg1
  have c1 : (W.alloc (.cells #[.int .i64 x.op, .int .i64 x.a, .int .i64 x.b] 47)).cell? ⟨g, 3, none⟩ = some v0 := (World.cell?_alloc_past _ _ _ (heap_lt hgW)).trans cb
  have f1 : (W.alloc (.cells #[.int .i64 x.op, .int .i64 x.a, .int .i64 x.b] 47)).frozen? ⟨g, 3, none⟩ = false := (World.frozen?_alloc_past _ _ _ (heap_lt hgW)).trans fb
  have hg2 : g < (W.alloc (.cells #[.int .i64 x.op, .int .i64 x.a, .int .i64 x.b] 47)).heap.size := Nat.lt_of_lt_of_le (heap_lt hgW) (Tch.alloc (Tch.refl [] W) _).size
  have hown2 : (W.alloc (.cells #[.int .i64 x.op, .int .i64 x.a, .int .i64 x.b] 47)).ownsRow 0 47 3 v0 c.length (codeCells c) := hoW.alloc _
  have hsrc : Src (W.alloc (.cells #[.int .i64 x.op, .int .i64 x.a, .int .i64 x.b] 47)) [] (.slice (some ⟨W.heap.size, 0, none⟩) 1 1) 1 [.int .i64 x.op, .int .i64 x.a, .int .i64 x.b] := src_new W _ [] #[.int .i64 x.op, .int .i64 x.a, .int .i64 x.b] 47 1 1 (Tch.refl [] _) (by simp)
  have h1c : ∀ u ∈ [Value.int .i64 x.op, .int .i64 x.a, .int .i64 x.b], u.oneCell' = true := by
    intro u hu
    simp at hu
    rcases hu with rfl | rfl | rfl <;> rfl
  have hbnd : c.length + 1 ≤ 9223372036854775807 ∧ (c.length + 1) * 24 ≤ 140737488355328 := by omega
  go_wp2_with (first | (refine wpList_load_agg rfl 47 (.tmp 2) rfl ⟨w1.heap.size, 0, none⟩ rfl #[.int .i64 x.op, .int .i64 x.a, .int .i64 x.b] _ hXW Tryz.underlying47 rfl (by kernel_rfl) ?_) | (at_builtin; refine wpList_append_any _ rfl (.tmp 22) (.tmp 24) 48 rfl 47 i0 (.agg #[.int .i64 0, .int .i64 0, .int .i64 0]) 3 24 Tryz.underlying48 hi hz0 hz1 hz2 rfl (by decide) v0 c.length (codeCells c) rfl hown2 [] _ 1 [.int .i64 x.op, .int .i64 x.a, .int .i64 x.b] rfl hsrc rfl h1c hbnd ?_; intro ao cap w3 hown3 hgrow hat; have c3 : w3.cell? ⟨g, 3, none⟩ = some v0 := (hgrow.cell_far ⟨g, 3, none⟩ hg2 (fun e => hne e.symm)).trans c1; have f3 : w3.frozen? ⟨g, 3, none⟩ = false := (hgrow.frozen_far ⟨g, 3, none⟩ hg2 (fun e => hne e.symm)).trans f1) | fail)
  go_end0
  obtain ⟨row', o1, o2, o3⟩ := OB.grow (w := W) (c := 3) (cs := #[vp, .int .i64 rs, vl, .slice none 0 0]) (xs := codeCells c) (news := [.int .i64 x.op, .int .i64 x.a, .int .i64 x.b]) hgW hne ((Tch.refl [] W).alloc _) hgrow (c.length + 1) hown3 hat
  rw [← HR.out] at o2 o3
  have en : (c ++ [x]).length = c.length + 1 := by simp
  have ec : codeCells (c ++ [x]) = codeCells c ++ [.int .i64 x.op, .int .i64 x.a, .int .i64 x.b] := by simp [codeCells, Ins.cells]
  refine ⟨rfl, x, st', hgot, row', ?_, by first | (rw [en, ec]; exact o1) | (rw [ec]; exact o1), ?_, ?_⟩
  · have h1 := PW.mono (L' := row' :: row :: g :: L) (fun i hi hlt => by
      rcases List.mem_cons.1 hi with hi | hi
      · rcases o2 with o2 | o2
        · rw [hi, o2]; simp
        · omega
      · exact hi)
    have h2 := h1.tch o3 (by simp; omega) (by simp; omega) (fun i hi _ => by simp at hi ⊢; rcases hi with hi | hi <;> simp [hi])
    exact h2.mono (fun i hi _ => by simp at hi ⊢; rcases hi with hi | hi | hi <;> simp [hi])
  · rcases o2 with o2 | o2
    · exact .inl o2
    · exact .inr (by have := tW.size; omega)
  · exact (t1V.trans tW (M := [p, q, g, row]) (fun i _ hi => by simp at hi ⊢; simp [hi]) (fun i _ hi => by simp at hi ⊢; simp [hi])).trans o3 (fun _ _ x => x) (fun i _ hi => by simp at hi ⊢; rcases hi with hi | hi <;> simp [hi])
set_option maxRecDepth 100000 in
set_option maxHeartbeats 8000000 in
theorem im_method (w0 : World) (p q : Nat) (L : List Nat) (st : St) (h : PSt 80 116 w0 p q L st) (hp : p ∈ L) (M : List Nat) (hM0 : ∀ i ∈ M, i < w0.heap.size) :
    Calls Tryz.prog 54 #[.pointer (some ⟨p, 0, none⟩)] w0 fun e w' => ∃ m vp vl vc st', e = .returned (.agg #[vp, .int .i64 m.result, vl, vc]) ∧ RMth w' (p :: q :: M) [vp, .int .i64 m.result, vl, vc] m ∧ Got mthP st m st' ∧ m.params.length ≤ 255 ∧ m.locals.length ≤ 255 ∧ m.code.length ≤ 255 ∧ PSt 80 116 w' p q L st' ∧ Tch [p, q] w0 w' := by
  have hmf : ∀ (fn : Fn) (first cap : Array Value) (w : World), (Instr.makeFunc fn first cap).run Tryz.prog w = .ok (.func fn first cap) w := fun _ _ _ _ => rfl
  obtain ⟨hl1, hl2, hl3⟩ := h.lt
  obtain ⟨w, hwd⟩ : ∃ w, w = (w0.alloc (.cells #[.pointer (some ⟨p, 0, none⟩)] 76)).alloc (.cells #[.slice none 0 0, .int .i64 0, .slice none 0 0, .slice none 0 0] 50) := ⟨_, rfl⟩
  have tw : Tch [] w0 w := by rw [hwd]; exact ((Tch.refl [] w0).alloc _).alloc _
  have sw : w0.heap.size + 2 ≤ w.heap.size := by rw [hwd]; simp
  have cb : w.cell? ⟨w0.heap.size, 0, none⟩ = some (.pointer (some ⟨p, 0, none⟩)) := by rw [hwd]; simp [go_sem]
  have hR : w.heap[w0.heap.size + 1]? = some (.cells #[.slice none 0 0, .int .i64 0, .slice none 0 0, .slice none 0 0] 50 (0, 0)) := by
    have := heap_alloc_new (w0.alloc (.cells #[.pointer (some ⟨p, 0, none⟩)] 76)) (.cells #[.slice none 0 0, .int .i64 0, .slice none 0 0, .slice none 0 0] 50)
    rw [hwd]
    simpa using this
  have P0 : PSt 80 116 w.drew p q ((w0.heap.size + 1) :: L) st := ((h.mono (L' := (w0.heap.size + 1) :: L) (fun i hi hlt => by
    rcases List.mem_cons.1 hi with hi | hi
    · omega
    · exact hi)).tch tw (by simp) (by simp) (by simp)).tch (Tch.refl [] w).drew (by simp) (by simp) (by simp)
  have T0 : Tch [p, q] w w.drew := (Tch.refl _ w).drew
  go_enter Tryz.func54, Tryz.ntmps54
  go_upto_region 1 with fail
  rw [← hwd]
  clear hwd
  go_cut [3] (fun s3 wz => ∃ (g : Nat) (ap : Option Addr) (cp : Nat) (ps : List Int) (al : Option Addr) (cl : Nat) (ls : List Int) (rs : Int) (st1 st2 st3 : St), s3 = .pointer (some ⟨g, 0, none⟩) ∧ wz.heap[g]? = some (.cells (((((#[.slice none 0 0, .int .i64 0, .slice none 0 0, .slice none 0 0] : Array Value).setIfInBounds 0 (.slice ap ps.length cp)).setIfInBounds 1 (.int .i64 rs)).setIfInBounds 2 (.slice al ls.length cl)).setIfInBounds 3 (.slice none 0 0)) 50 (0, 0)) ∧ RInts wz (g :: p :: q :: (w0.heap.size + 1) :: M) (.slice ap ps.length cp) ps ∧ RInts wz (g :: p :: q :: (w0.heap.size + 1) :: M) (.slice al ls.length cl) ls ∧ Got (cntP u8P) st ps st1 ∧ Got u8P st1 rs st2 ∧ Got (cntP u8P) st2 ls st3 ∧ ps.length ≤ 255 ∧ ls.length ≤ 255 ∧ PSt 80 116 wz p q (g :: (w0.heap.size + 1) :: L) st3 ∧ w.heap.size ≤ g ∧ Tch [p, q, g] w wz)
  case first =>
    refine wp_region_held_drew (S := fun w' => w'.cell? ⟨w0.heap.size, 0, none⟩ = some (.pointer (some ⟨p, 0, none⟩)) ∧ w'.cell? ⟨p, 0, none⟩ = some (.pointer (some ⟨q, 0, none⟩))) (by kernel_rfl) ⟨cb, P0.cell⟩ (fun hHeld => ?_)
    generalize w.drew = y0 at *
    refine wpAnyH_take (i := 0) (v := ?_) rfl (by kernel_rfl) (by kernel_rfl) (by kernel_rfl) (fun _ _ _ h => h) (Or.inl ⟨by rfl, ?_⟩) (by assumption) ?_
    rotate_left
    · (intro w hSw; (try dsimp only at hSw); go_simp; try with_reducible rfl)
    try simp only [Act.put, List.setIfInBounds_toArray, List.set_cons_zero, List.set_cons_succ]
    refine wpAnyH_take (i := 2) (v := ?_) rfl (by kernel_rfl) (by kernel_rfl) (by kernel_rfl) (fun _ _ _ h => h) (Or.inl ⟨by rfl, ?_⟩) (by assumption) ?_
    rotate_left
    · (intro w hSw; (try dsimp only at hSw); go_simp; try with_reducible rfl)
    try simp only [Act.put, List.setIfInBounds_toArray, List.set_cons_zero, List.set_cons_succ]
    refine wpAnyH_take (i := 3) (v := ?_) rfl (by kernel_rfl) (by kernel_rfl) (by kernel_rfl) (fun _ _ _ h => h) (Or.inl ⟨by rfl, ?_⟩) (by assumption) ?_
    rotate_left
    · (intro w hSw; (try dsimp only at hSw); go_simp; try with_reducible rfl)
    try simp only [Act.put, List.setIfInBounds_toArray, List.set_cons_zero, List.set_cons_succ]
    refine wpAnyH_take (i := 4) (v := ?_) rfl (by kernel_rfl) (by kernel_rfl) (by kernel_rfl) (fun _ _ _ h => h) (Or.inl ⟨by rfl, ?_⟩) (by assumption) ?_
    rotate_left
    · (intro w hSw; (try dsimp only at hSw); go_simp; try with_reducible rfl)
    try simp only [Act.put, List.setIfInBounds_toArray, List.set_cons_zero, List.set_cons_succ]
    refine wpAnyH_take (i := 5) (v := ?_) rfl (by kernel_rfl) (by kernel_rfl) (by kernel_rfl) (fun _ _ _ h => h) (Or.inl ⟨by rfl, ?_⟩) (by assumption) ?_
    rotate_left
    · (intro w hSw; (try dsimp only at hSw); go_simp; try with_reducible rfl)
    try simp only [Act.put, List.setIfInBounds_toArray, List.set_cons_zero, List.set_cons_succ]
    refine wpAnyH_take (i := 7) (v := ?_) rfl (by kernel_rfl) (by kernel_rfl) (by kernel_rfl) (fun _ _ _ h => h) (Or.inl ⟨by rfl, ?_⟩) (by assumption) ?_
    rotate_left
    · (intro w hSw; (try dsimp only at hSw); go_simp; try with_reducible rfl)
    try simp only [Act.put, List.setIfInBounds_toArray, List.set_cons_zero, List.set_cons_succ]
    refine wpAnyH_ready (rs := [1, 10]) (by kernel_rfl) (by simp) ?_
    refine AllReadyH.cons rfl (fun K hK => ?_) (AllReadyH.cons rfl (fun K hK => ?_) AllReadyH.nil)
    · go_simp
      go_at_call 49
      refine (im_plist' _ p q _ st P0 (by simp [hp]) (p :: q :: (w0.heap.size + 1) :: M) (by intro i hi; have hTs := T0.size; simp at hi; rcases hi with hi | hi | hi | hi <;> first | omega | (have := hM0 i hi; omega))).mono ?_
      rintro e y1 ⟨ap, cp, ps, st1, rfl, I1, G1, hps, P1, t1⟩
      have T1 : Tch [p, q] w y1 := T0.trans t1 (fun _ _ x => x) (fun _ _ x => x)
      refine hK.out _ _ (⟨(T1.cell (cell_lt cb) (by simp; omega)).trans cb, P1.cell⟩) (fun hHeld => ?_)
      clear hK K
      try simp only [Act.put, List.setIfInBounds_toArray, List.set_cons_zero, List.set_cons_succ]
      refine wpAnyH_ready (rs := [6, 10]) (by kernel_rfl) (by simp) ?_
      refine AllReadyH.cons rfl (fun K hK => ?_) (AllReadyH.cons rfl (fun K hK => ?_) AllReadyH.nil)
      · go_simp
        go_at_call 94
        refine (rd_U8 _ p q _ st1 P1).mono ?_
        rintro e y2 ⟨rs, rfl, rs0, rs1, st2, G2, P2, t2'⟩
        have t2 : Tch [p, q] y1 y2 := t2'.mono (fun i _ hi => by simp at hi ⊢; exact .inr hi)
        have T2 : Tch [p, q] w y2 := T1.trans t2 (fun _ _ x => x) (fun _ _ x => x)
        have I1_2 := RInts.tch I1 t2 (fun i hi _ => by simp at hi ⊢; rcases hi with hi | hi <;> simp [hi])
        refine hK.out _ _ (⟨(T2.cell (cell_lt cb) (by simp; omega)).trans cb, P2.cell⟩) (fun hHeld => ?_)
        clear hK K
        try simp only [Act.put, List.setIfInBounds_toArray, List.set_cons_zero, List.set_cons_succ]
        refine wpAnyH_ready (rs := [8, 10]) (by kernel_rfl) (by simp) ?_
        refine AllReadyH.cons rfl (fun K hK => ?_) (AllReadyH.cons rfl (fun K hK => ?_) AllReadyH.nil)
        · go_simp
          go_at_call 49
          refine (im_plist' _ p q _ st2 P2 (by simp [hp]) (p :: q :: (w0.heap.size + 1) :: M) (by intro i hi; have hTs := T2.size; simp at hi; rcases hi with hi | hi | hi | hi <;> first | omega | (have := hM0 i hi; omega))).mono ?_
          rintro e y3 ⟨al, cl, ls, st3, rfl, I2, G3, hls, P3, t3⟩
          have T3 : Tch [p, q] w y3 := T2.trans t3 (fun _ _ x => x) (fun _ _ x => x)
          have I1_3 := RInts.tch I1_2 t3 (fun i hi _ => by simp at hi ⊢; rcases hi with hi | hi <;> simp [hi])
          refine hK.out _ _ (⟨(T3.cell (cell_lt cb) (by simp; omega)).trans cb, P3.cell⟩) (fun hHeld => ?_)
          clear hK K
          try simp only [Act.put, List.setIfInBounds_toArray, List.set_cons_zero, List.set_cons_succ]
          refine wpAnyH_take (i := 9) (v := ?_) rfl (by kernel_rfl) (by kernel_rfl) (by kernel_rfl) (fun _ _ _ h => h) (Or.inl ⟨by rfl, ?_⟩) (by assumption) ?_
          rotate_left
          · (intro w hSw; (try dsimp only at hSw); go_simp; try with_reducible rfl)
          try simp only [Act.put, List.setIfInBounds_toArray, List.set_cons_zero, List.set_cons_succ]
          refine wpAnyH_ready (rs := [10]) (by kernel_rfl) (by simp) ?_
          refine AllReadyH.cons rfl (fun K hK => ?_) AllReadyH.nil
          go_simp
          obtain ⟨z, hz, hzg, tz⟩ : ∃ z, z = y3.alloc (.cells #[.slice none 0 0, .int .i64 0, .slice none 0 0, .slice none 0 0] 50) ∧ z.heap[y3.heap.size]? = some (.cells #[.slice none 0 0, .int .i64 0, .slice none 0 0, .slice none 0 0] 50 (0, 0)) ∧ Tch [] y3 z := ⟨_, rfl, heap_alloc_new _ _, (Tch.refl [] _).alloc _⟩
          rw [← hz]
          have hgn : w.heap.size ≤ y3.heap.size := T3.size
          have PZ : PSt 80 116 z p q (y3.heap.size :: (w0.heap.size + 1) :: L) st3 := (P3.mono (fun i hi hlt => by
            rcases List.mem_cons.1 hi with hi | hi
            · omega
            · exact hi)).tch tz (by simp) (by simp) (by simp)
          have TZ : Tch [p, q] w z := T3.trans tz (fun _ _ x => x) (by simp)
          have I1z : RInts z (y3.heap.size :: p :: q :: (w0.heap.size + 1) :: M) _ _ := RInts.tch (RInts.mono I1_3 (fun i hi hlt => by
            rcases List.mem_cons.1 hi with hi | hi
            · omega
            · exact hi)) tz (by simp)
          have I2z : RInts z (y3.heap.size :: p :: q :: (w0.heap.size + 1) :: M) _ _ := RInts.tch (RInts.mono I2 (fun i hi hlt => by
            rcases List.mem_cons.1 hi with hi | hi
            · omega
            · exact hi)) tz (by simp)
          clear hz
          obtain ⟨g, hgd⟩ : ∃ g, g = y3.heap.size := ⟨_, rfl⟩
          rw [← hgd] at hzg hgn PZ I1z I2z ⊢
          clear hgd
          refine hK.out _ _ (⟨(TZ.cell (cell_lt cb) (by simp; omega)).trans cb, PZ.cell⟩) (fun hHeld => ?_)
          clear hK K
          try simp only [Act.put, List.setIfInBounds_toArray, List.set_cons_zero, List.set_cons_succ]
          have TF : Tch [g] z ((((z.setCell ⟨g, 0, none⟩ (.slice ap ps.length cp)).setCell ⟨g, 1, none⟩ (.int .i64 rs)).setCell ⟨g, 2, none⟩ (.slice al ls.length cl)).setCell ⟨g, 3, none⟩ (.slice none 0 0)) := (((((Tch.refl [g] z).setCell (.inl (by simp)) _).setCell (.inl (by simp)) _).setCell (.inl (by simp)) _).setCell (.inl (by simp)) _)
          have hgF := box_setc (box_setc (box_setc (box_setc hzg 0 (.slice ap ps.length cp)) 1 (.int .i64 rs)) 2 (.slice al ls.length cl)) 3 (.slice none 0 0)
          obtain ⟨b0, b1, b2, b3, u0, u1, u2, u3⟩ := B4.of hzg
          have cbF := (TF.cell (p := ⟨w0.heap.size, 0, none⟩) (Nat.lt_of_lt_of_le (cell_lt cb) TZ.size) (by simp; omega)).trans (((TZ.cell (cell_lt cb) (by simp; omega))).trans cb)
          have cpF := (TF.cell (p := ⟨p, 0, none⟩) PZ.lt.1 (by simp; omega)).trans PZ.cell
          refine wpAnyH_ready (rs := [11]) (by kernel_rfl) (by simp) ?_
          refine AllReadyH.cons rfl (fun K hK => ?_) AllReadyH.nil
          go_simp
          refine hK.out _ _ (⟨cbF, cpF⟩) (fun hHeld => ?_)
          clear hK K
          try simp only [Act.put, List.setIfInBounds_toArray, List.set_cons_zero, List.set_cons_succ]
          refine wpAnyH_done (by kernel_rfl) ?_ _
          go_wp2_with fail
          go_meet
          case rel => exact ⟨g, ap, cp, ps, al, cl, ls, rs, st1, st2, st3, rfl, hgF, RInts.tch I1z TF (fun i hi _ => by simp at hi; simp [hi]), RInts.tch I2z TF (fun i hi _ => by simp at hi; simp [hi]), G1, G2, G3, hps, hls, PZ.tch TF (by simp; omega) (by simp; omega) (fun i hi _ => by simp at hi; simp [hi]), hgn, TZ.trans TF (fun i _ hi => by simp at hi ⊢; rcases hi with hi | hi <;> simp [hi]) (fun i _ hi => by simp at hi ⊢; simp [hi])⟩
        · go_simp
          obtain ⟨z, hz, hzg, tz⟩ : ∃ z, z = y2.alloc (.cells #[.slice none 0 0, .int .i64 0, .slice none 0 0, .slice none 0 0] 50) ∧ z.heap[y2.heap.size]? = some (.cells #[.slice none 0 0, .int .i64 0, .slice none 0 0, .slice none 0 0] 50 (0, 0)) ∧ Tch [] y2 z := ⟨_, rfl, heap_alloc_new _ _, (Tch.refl [] _).alloc _⟩
          rw [← hz]
          have hgn : w.heap.size ≤ y2.heap.size := T2.size
          have PZ : PSt 80 116 z p q (y2.heap.size :: (w0.heap.size + 1) :: L) st2 := (P2.mono (fun i hi hlt => by
            rcases List.mem_cons.1 hi with hi | hi
            · omega
            · exact hi)).tch tz (by simp) (by simp) (by simp)
          have TZ : Tch [p, q] w z := T2.trans tz (fun _ _ x => x) (by simp)
          have I1z : RInts z (y2.heap.size :: p :: q :: (w0.heap.size + 1) :: M) _ _ := RInts.tch (RInts.mono I1_2 (fun i hi hlt => by
            rcases List.mem_cons.1 hi with hi | hi
            · omega
            · exact hi)) tz (by simp)
          clear hz
          obtain ⟨g, hgd⟩ : ∃ g, g = y2.heap.size := ⟨_, rfl⟩
          rw [← hgd] at hzg hgn PZ I1z ⊢
          clear hgd
          refine hK.out _ _ (⟨(TZ.cell (cell_lt cb) (by simp; omega)).trans cb, PZ.cell⟩) (fun hHeld => ?_)
          clear hK K
          try simp only [Act.put, List.setIfInBounds_toArray, List.set_cons_zero, List.set_cons_succ]
          refine wpAnyH_ready (rs := [8]) (by kernel_rfl) (by simp) ?_
          refine AllReadyH.cons rfl (fun K hK => ?_) AllReadyH.nil
          go_simp
          go_at_call 49
          refine (im_plist' _ p q _ st2 PZ (by simp [hp]) (g :: p :: q :: (w0.heap.size + 1) :: M) (by intro i hi; have hTs := TZ.size; have hgl := heap_lt hzg; simp at hi; rcases hi with hi | hi | hi | hi | hi <;> first | omega | (have := hM0 i hi; omega))).mono ?_
          rintro e y3 ⟨al, cl, ls, st3, rfl, I2, G3, hls, P3, t3⟩
          have T3 : Tch [p, q] w y3 := TZ.trans t3 (fun _ _ x => x) (fun _ _ x => x)
          have I1_3 := RInts.tch I1z t3 (fun i hi _ => by simp at hi ⊢; rcases hi with hi | hi <;> simp [hi])
          have g3_ := (t3.block g (heap_lt hzg) (by simp; omega)).trans hzg
          refine hK.out _ _ (⟨(T3.cell (cell_lt cb) (by simp; omega)).trans cb, P3.cell⟩) (fun hHeld => ?_)
          clear hK K
          try simp only [Act.put, List.setIfInBounds_toArray, List.set_cons_zero, List.set_cons_succ]
          refine wpAnyH_take (i := 9) (v := ?_) rfl (by kernel_rfl) (by kernel_rfl) (by kernel_rfl) (fun _ _ _ h => h) (Or.inl ⟨by rfl, ?_⟩) (by assumption) ?_
          rotate_left
          · (intro w hSw; (try dsimp only at hSw); go_simp; try with_reducible rfl)
          try simp only [Act.put, List.setIfInBounds_toArray, List.set_cons_zero, List.set_cons_succ]
          have TF : Tch [g] y3 ((((y3.setCell ⟨g, 0, none⟩ (.slice ap ps.length cp)).setCell ⟨g, 1, none⟩ (.int .i64 rs)).setCell ⟨g, 2, none⟩ (.slice al ls.length cl)).setCell ⟨g, 3, none⟩ (.slice none 0 0)) := (((((Tch.refl [g] y3).setCell (.inl (by simp)) _).setCell (.inl (by simp)) _).setCell (.inl (by simp)) _).setCell (.inl (by simp)) _)
          have hgF := box_setc (box_setc (box_setc (box_setc g3_ 0 (.slice ap ps.length cp)) 1 (.int .i64 rs)) 2 (.slice al ls.length cl)) 3 (.slice none 0 0)
          obtain ⟨b0, b1, b2, b3, u0, u1, u2, u3⟩ := B4.of g3_
          have cbF := (TF.cell (p := ⟨w0.heap.size, 0, none⟩) (Nat.lt_of_lt_of_le (cell_lt cb) T3.size) (by simp; omega)).trans (((T3.cell (cell_lt cb) (by simp; omega))).trans cb)
          have cpF := (TF.cell (p := ⟨p, 0, none⟩) P3.lt.1 (by simp; omega)).trans P3.cell
          refine wpAnyH_ready (rs := [11]) (by kernel_rfl) (by simp) ?_
          refine AllReadyH.cons rfl (fun K hK => ?_) AllReadyH.nil
          go_simp
          refine hK.out _ _ (⟨cbF, cpF⟩) (fun hHeld => ?_)
          clear hK K
          try simp only [Act.put, List.setIfInBounds_toArray, List.set_cons_zero, List.set_cons_succ]
          refine wpAnyH_done (by kernel_rfl) ?_ _
          go_wp2_with fail
          go_meet
          case rel => exact ⟨g, ap, cp, ps, al, cl, ls, rs, st1, st2, st3, rfl, hgF, RInts.tch I1_3 TF (fun i hi _ => by simp at hi; simp [hi]), RInts.tch I2 TF (fun i hi _ => by simp at hi; simp [hi]), G1, G2, G3, hps, hls, P3.tch TF (by simp; omega) (by simp; omega) (fun i hi _ => by simp at hi; simp [hi]), hgn, T3.trans TF (fun i _ hi => by simp at hi ⊢; rcases hi with hi | hi <;> simp [hi]) (fun i _ hi => by simp at hi ⊢; simp [hi])⟩
      · go_simp
        obtain ⟨z, hz, hzg, tz⟩ : ∃ z, z = y1.alloc (.cells #[.slice none 0 0, .int .i64 0, .slice none 0 0, .slice none 0 0] 50) ∧ z.heap[y1.heap.size]? = some (.cells #[.slice none 0 0, .int .i64 0, .slice none 0 0, .slice none 0 0] 50 (0, 0)) ∧ Tch [] y1 z := ⟨_, rfl, heap_alloc_new _ _, (Tch.refl [] _).alloc _⟩
        rw [← hz]
        have hgn : w.heap.size ≤ y1.heap.size := T1.size
        have PZ : PSt 80 116 z p q (y1.heap.size :: (w0.heap.size + 1) :: L) st1 := (P1.mono (fun i hi hlt => by
          rcases List.mem_cons.1 hi with hi | hi
          · omega
          · exact hi)).tch tz (by simp) (by simp) (by simp)
        have TZ : Tch [p, q] w z := T1.trans tz (fun _ _ x => x) (by simp)
        have I1z : RInts z (y1.heap.size :: p :: q :: (w0.heap.size + 1) :: M) _ _ := RInts.tch (RInts.mono I1 (fun i hi hlt => by
          rcases List.mem_cons.1 hi with hi | hi
          · omega
          · exact hi)) tz (by simp)
        clear hz
        obtain ⟨g, hgd⟩ : ∃ g, g = y1.heap.size := ⟨_, rfl⟩
        rw [← hgd] at hzg hgn PZ I1z ⊢
        clear hgd
        refine hK.out _ _ (⟨(TZ.cell (cell_lt cb) (by simp; omega)).trans cb, PZ.cell⟩) (fun hHeld => ?_)
        clear hK K
        try simp only [Act.put, List.setIfInBounds_toArray, List.set_cons_zero, List.set_cons_succ]
        refine wpAnyH_ready (rs := [6]) (by kernel_rfl) (by simp) ?_
        refine AllReadyH.cons rfl (fun K hK => ?_) AllReadyH.nil
        go_simp
        go_at_call 94
        refine (rd_U8 _ p q _ st1 PZ).mono ?_
        rintro e y2 ⟨rs, rfl, rs0, rs1, st2, G2, P2, t2'⟩
        have t2 : Tch [p, q] z y2 := t2'.mono (fun i _ hi => by simp at hi ⊢; exact .inr hi)
        have T2 : Tch [p, q] w y2 := TZ.trans t2 (fun _ _ x => x) (fun _ _ x => x)
        have I1_2 := RInts.tch I1z t2 (fun i hi _ => by simp at hi ⊢; rcases hi with hi | hi <;> simp [hi])
        have g2_ := (t2.block g (heap_lt hzg) (by simp; omega)).trans hzg
        refine hK.out _ _ (⟨(T2.cell (cell_lt cb) (by simp; omega)).trans cb, P2.cell⟩) (fun hHeld => ?_)
        clear hK K
        try simp only [Act.put, List.setIfInBounds_toArray, List.set_cons_zero, List.set_cons_succ]
        refine wpAnyH_ready (rs := [8]) (by kernel_rfl) (by simp) ?_
        refine AllReadyH.cons rfl (fun K hK => ?_) AllReadyH.nil
        go_simp
        go_at_call 49
        refine (im_plist' _ p q _ st2 P2 (by simp [hp]) (g :: p :: q :: (w0.heap.size + 1) :: M) (by intro i hi; have hTs := T2.size; have hgl := heap_lt g2_; simp at hi; rcases hi with hi | hi | hi | hi | hi <;> first | omega | (have := hM0 i hi; omega))).mono ?_
        rintro e y3 ⟨al, cl, ls, st3, rfl, I2, G3, hls, P3, t3⟩
        have T3 : Tch [p, q] w y3 := T2.trans t3 (fun _ _ x => x) (fun _ _ x => x)
        have I1_3 := RInts.tch I1_2 t3 (fun i hi _ => by simp at hi ⊢; rcases hi with hi | hi <;> simp [hi])
        have g3_ := (t3.block g (heap_lt g2_) (by simp; omega)).trans g2_
        refine hK.out _ _ (⟨(T3.cell (cell_lt cb) (by simp; omega)).trans cb, P3.cell⟩) (fun hHeld => ?_)
        clear hK K
        try simp only [Act.put, List.setIfInBounds_toArray, List.set_cons_zero, List.set_cons_succ]
        refine wpAnyH_take (i := 9) (v := ?_) rfl (by kernel_rfl) (by kernel_rfl) (by kernel_rfl) (fun _ _ _ h => h) (Or.inl ⟨by rfl, ?_⟩) (by assumption) ?_
        rotate_left
        · (intro w hSw; (try dsimp only at hSw); go_simp; try with_reducible rfl)
        try simp only [Act.put, List.setIfInBounds_toArray, List.set_cons_zero, List.set_cons_succ]
        have TF : Tch [g] y3 ((((y3.setCell ⟨g, 0, none⟩ (.slice ap ps.length cp)).setCell ⟨g, 1, none⟩ (.int .i64 rs)).setCell ⟨g, 2, none⟩ (.slice al ls.length cl)).setCell ⟨g, 3, none⟩ (.slice none 0 0)) := (((((Tch.refl [g] y3).setCell (.inl (by simp)) _).setCell (.inl (by simp)) _).setCell (.inl (by simp)) _).setCell (.inl (by simp)) _)
        have hgF := box_setc (box_setc (box_setc (box_setc g3_ 0 (.slice ap ps.length cp)) 1 (.int .i64 rs)) 2 (.slice al ls.length cl)) 3 (.slice none 0 0)
        obtain ⟨b0, b1, b2, b3, u0, u1, u2, u3⟩ := B4.of g3_
        have cbF := (TF.cell (p := ⟨w0.heap.size, 0, none⟩) (Nat.lt_of_lt_of_le (cell_lt cb) T3.size) (by simp; omega)).trans (((T3.cell (cell_lt cb) (by simp; omega))).trans cb)
        have cpF := (TF.cell (p := ⟨p, 0, none⟩) P3.lt.1 (by simp; omega)).trans P3.cell
        refine wpAnyH_ready (rs := [11]) (by kernel_rfl) (by simp) ?_
        refine AllReadyH.cons rfl (fun K hK => ?_) AllReadyH.nil
        go_simp
        refine hK.out _ _ (⟨cbF, cpF⟩) (fun hHeld => ?_)
        clear hK K
        try simp only [Act.put, List.setIfInBounds_toArray, List.set_cons_zero, List.set_cons_succ]
        refine wpAnyH_done (by kernel_rfl) ?_ _
        go_wp2_with fail
        go_meet
        case rel => exact ⟨g, ap, cp, ps, al, cl, ls, rs, st1, st2, st3, rfl, hgF, RInts.tch I1_3 TF (fun i hi _ => by simp at hi; simp [hi]), RInts.tch I2 TF (fun i hi _ => by simp at hi; simp [hi]), G1, G2, G3, hps, hls, P3.tch TF (by simp; omega) (by simp; omega) (fun i hi _ => by simp at hi; simp [hi]), hgn, T3.trans TF (fun i _ hi => by simp at hi ⊢; rcases hi with hi | hi <;> simp [hi]) (fun i _ hi => by simp at hi ⊢; simp [hi])⟩
    · go_simp
      obtain ⟨z, hz, hzg, tz⟩ : ∃ z, z = y0.alloc (.cells #[.slice none 0 0, .int .i64 0, .slice none 0 0, .slice none 0 0] 50) ∧ z.heap[y0.heap.size]? = some (.cells #[.slice none 0 0, .int .i64 0, .slice none 0 0, .slice none 0 0] 50 (0, 0)) ∧ Tch [] y0 z := ⟨_, rfl, heap_alloc_new _ _, (Tch.refl [] _).alloc _⟩
      rw [← hz]
      have hgn : w.heap.size ≤ y0.heap.size := T0.size
      have PZ : PSt 80 116 z p q (y0.heap.size :: (w0.heap.size + 1) :: L) st := (P0.mono (fun i hi hlt => by
        rcases List.mem_cons.1 hi with hi | hi
        · omega
        · exact hi)).tch tz (by simp) (by simp) (by simp)
      have TZ : Tch [p, q] w z := T0.trans tz (fun _ _ x => x) (by simp)
      clear hz
      obtain ⟨g, hgd⟩ : ∃ g, g = y0.heap.size := ⟨_, rfl⟩
      rw [← hgd] at hzg hgn PZ ⊢
      clear hgd
      refine hK.out _ _ (⟨(TZ.cell (cell_lt cb) (by simp; omega)).trans cb, PZ.cell⟩) (fun hHeld => ?_)
      clear hK K
      try simp only [Act.put, List.setIfInBounds_toArray, List.set_cons_zero, List.set_cons_succ]
      refine wpAnyH_ready (rs := [1]) (by kernel_rfl) (by simp) ?_
      refine AllReadyH.cons rfl (fun K hK => ?_) AllReadyH.nil
      go_simp
      go_at_call 49
      refine (im_plist' _ p q _ st PZ (by simp [hp]) (g :: p :: q :: (w0.heap.size + 1) :: M) (by intro i hi; have hTs := TZ.size; have hgl := heap_lt hzg; simp at hi; rcases hi with hi | hi | hi | hi | hi <;> first | omega | (have := hM0 i hi; omega))).mono ?_
      rintro e y1 ⟨ap, cp, ps, st1, rfl, I1, G1, hps, P1, t1⟩
      have T1 : Tch [p, q] w y1 := TZ.trans t1 (fun _ _ x => x) (fun _ _ x => x)
      have g1_ := (t1.block g (heap_lt hzg) (by simp; omega)).trans hzg
      refine hK.out _ _ (⟨(T1.cell (cell_lt cb) (by simp; omega)).trans cb, P1.cell⟩) (fun hHeld => ?_)
      clear hK K
      try simp only [Act.put, List.setIfInBounds_toArray, List.set_cons_zero, List.set_cons_succ]
      refine wpAnyH_ready (rs := [6]) (by kernel_rfl) (by simp) ?_
      refine AllReadyH.cons rfl (fun K hK => ?_) AllReadyH.nil
      go_simp
      go_at_call 94
      refine (rd_U8 _ p q _ st1 P1).mono ?_
      rintro e y2 ⟨rs, rfl, rs0, rs1, st2, G2, P2, t2'⟩
      have t2 : Tch [p, q] y1 y2 := t2'.mono (fun i _ hi => by simp at hi ⊢; exact .inr hi)
      have T2 : Tch [p, q] w y2 := T1.trans t2 (fun _ _ x => x) (fun _ _ x => x)
      have I1_2 := RInts.tch I1 t2 (fun i hi _ => by simp at hi ⊢; rcases hi with hi | hi <;> simp [hi])
      have g2_ := (t2.block g (heap_lt g1_) (by simp; omega)).trans g1_
      refine hK.out _ _ (⟨(T2.cell (cell_lt cb) (by simp; omega)).trans cb, P2.cell⟩) (fun hHeld => ?_)
      clear hK K
      try simp only [Act.put, List.setIfInBounds_toArray, List.set_cons_zero, List.set_cons_succ]
      refine wpAnyH_ready (rs := [8]) (by kernel_rfl) (by simp) ?_
      refine AllReadyH.cons rfl (fun K hK => ?_) AllReadyH.nil
      go_simp
      go_at_call 49
      refine (im_plist' _ p q _ st2 P2 (by simp [hp]) (g :: p :: q :: (w0.heap.size + 1) :: M) (by intro i hi; have hTs := T2.size; have hgl := heap_lt g2_; simp at hi; rcases hi with hi | hi | hi | hi | hi <;> first | omega | (have := hM0 i hi; omega))).mono ?_
      rintro e y3 ⟨al, cl, ls, st3, rfl, I2, G3, hls, P3, t3⟩
      have T3 : Tch [p, q] w y3 := T2.trans t3 (fun _ _ x => x) (fun _ _ x => x)
      have I1_3 := RInts.tch I1_2 t3 (fun i hi _ => by simp at hi ⊢; rcases hi with hi | hi <;> simp [hi])
      have g3_ := (t3.block g (heap_lt g2_) (by simp; omega)).trans g2_
      refine hK.out _ _ (⟨(T3.cell (cell_lt cb) (by simp; omega)).trans cb, P3.cell⟩) (fun hHeld => ?_)
      clear hK K
      try simp only [Act.put, List.setIfInBounds_toArray, List.set_cons_zero, List.set_cons_succ]
      refine wpAnyH_take (i := 9) (v := ?_) rfl (by kernel_rfl) (by kernel_rfl) (by kernel_rfl) (fun _ _ _ h => h) (Or.inl ⟨by rfl, ?_⟩) (by assumption) ?_
      rotate_left
      · (intro w hSw; (try dsimp only at hSw); go_simp; try with_reducible rfl)
      try simp only [Act.put, List.setIfInBounds_toArray, List.set_cons_zero, List.set_cons_succ]
      have TF : Tch [g] y3 ((((y3.setCell ⟨g, 0, none⟩ (.slice ap ps.length cp)).setCell ⟨g, 1, none⟩ (.int .i64 rs)).setCell ⟨g, 2, none⟩ (.slice al ls.length cl)).setCell ⟨g, 3, none⟩ (.slice none 0 0)) := (((((Tch.refl [g] y3).setCell (.inl (by simp)) _).setCell (.inl (by simp)) _).setCell (.inl (by simp)) _).setCell (.inl (by simp)) _)
      have hgF := box_setc (box_setc (box_setc (box_setc g3_ 0 (.slice ap ps.length cp)) 1 (.int .i64 rs)) 2 (.slice al ls.length cl)) 3 (.slice none 0 0)
      obtain ⟨b0, b1, b2, b3, u0, u1, u2, u3⟩ := B4.of g3_
      have cbF := (TF.cell (p := ⟨w0.heap.size, 0, none⟩) (Nat.lt_of_lt_of_le (cell_lt cb) T3.size) (by simp; omega)).trans (((T3.cell (cell_lt cb) (by simp; omega))).trans cb)
      have cpF := (TF.cell (p := ⟨p, 0, none⟩) P3.lt.1 (by simp; omega)).trans P3.cell
      refine wpAnyH_ready (rs := [11]) (by kernel_rfl) (by simp) ?_
      refine AllReadyH.cons rfl (fun K hK => ?_) AllReadyH.nil
      go_simp
      refine hK.out _ _ (⟨cbF, cpF⟩) (fun hHeld => ?_)
      clear hK K
      try simp only [Act.put, List.setIfInBounds_toArray, List.set_cons_zero, List.set_cons_succ]
      refine wpAnyH_done (by kernel_rfl) ?_ _
      go_wp2_with fail
      go_meet
      case rel => exact ⟨g, ap, cp, ps, al, cl, ls, rs, st1, st2, st3, rfl, hgF, RInts.tch I1_3 TF (fun i hi _ => by simp at hi; simp [hi]), RInts.tch I2 TF (fun i hi _ => by simp at hi; simp [hi]), G1, G2, G3, hps, hls, P3.tch TF (by simp; omega) (by simp; omega) (fun i hi _ => by simp at hi; simp [hi]), hgn, T3.trans TF (fun i _ hi => by simp at hi ⊢; rcases hi with hi | hi <;> simp [hi]) (fun i _ hi => by simp at hi ⊢; simp [hi])⟩
  case rest =>
    obtain ⟨g, ap, cp, ps, al, cl, ls, rs, st1, st2, st3, rfl, hgF, I1, I2, G1, G2, G3, hps, hls, PF, hgn, TF⟩ := hcut
    have sgn := heap_lt hgF
    have swc := TF.size
    have cbc : wc.cell? ⟨w0.heap.size, 0, none⟩ = some (.pointer (some ⟨p, 0, none⟩)) := by rw [TF.cell (cell_lt cb) (by simp; omega)]; exact cb
    have hg0 : wc.heap[g]? = some (.cells ((#[.slice ap ps.length cp, .int .i64 rs, .slice al ls.length cl, .slice none 0 0] : Array Value).setIfInBounds 3 (.slice none 0 0)) 50 (0, 0)) := hgF
    have hO : OB wc 50 47 3 g 3 g #[.slice ap ps.length cp, .int .i64 rs, .slice al ls.length cl, .slice none 0 0] ([] : List Ins).length (codeCells []) := ⟨_, hg0, World.ownsRow_nil _ _ _ _, rfl, by simp [Value.ownBlock]⟩
    have hMany := im_many insP 96 #[.pointer (some ⟨w0.heap.size, 0, none⟩), .pointer (some ⟨g, 0, none⟩)] (fun _ => by kernel_rfl) p q
      (fun W c st => ∃ row, PSt 80 116 W p q (row :: g :: (w0.heap.size + 1) :: L) st ∧ OB W 50 47 3 g 3 row #[.slice ap ps.length cp, .int .i64 rs, .slice al ls.length cl, .slice none 0 0] c.length (codeCells c) ∧ W.cell? ⟨w0.heap.size, 0, none⟩ = some (.pointer (some ⟨p, 0, none⟩)) ∧ (row = g ∨ wc.heap.size ≤ row) ∧ Tch [p, q, g] wc W)
      (fun W c st ⟨row, j1, j2, j3, j4, j5⟩ => ⟨row :: g :: (w0.heap.size + 1) :: L, by simp [hp], j1, fun W' st' k1 k2 => ⟨row, k1, j2.tch k2 (by simp; omega) (by simp; omega), by rw [k2.cell (cell_lt j3) (by simp; omega)]; exact j3, j4, j5.trans k2 (fun _ _ x => x) (fun i _ hi => by simp at hi ⊢; rcases hi with hi | hi <;> simp [hi])⟩⟩)
      (fun W c l ⟨row, j1, j2, j3, j4, j5⟩ hx => by
        refine (im_meth1 W p q g w0.heap.size row ((w0.heap.size + 1) :: L) l c _ _ rs j1 (by simp [hp]) j2 j3 (by omega) (by omega)).mono ?_
        rintro e W' ⟨rfl, x, st', row', k1, k2, k3, k4, k5⟩
        have := j5.size
        refine ⟨rfl, x, st', k1, row', k2, k3, ?_, by omega, j5.trans k5 (fun _ _ x => x) (fun i hlt hi => by simp at hi ⊢; omega)⟩
        rw [k5.cell (cell_lt j3) (by simp; omega)]; exact j3)
      wc st3 ⟨g, PF.mono (fun i hi _ => by rcases List.mem_cons.1 hi with hi | hi; exact hi ▸ List.mem_cons_self; exact hi), hO, cbc, .inl rfl, Tch.refl _ _⟩
    clear hO hg0 hgF
    go_wp2_with fail
    refine hMany.mono ?_
    rintro e w1 ⟨rfl, c, st4, G4, hcl, row, j1, j2, j3, j4, j5⟩
    clear hMany cbc
    obtain ⟨v, hv, hown, hrow, hne⟩ := j2.ex
    obtain ⟨ao, cap, rfl⟩ := ownsRow_form hown
    have hX := cells_of_heap (cs := #[.slice ap ps.length cp, .int .i64 rs, .slice al ls.length cl, .slice ao c.length cap]) hv
    have hRw : w1.heap[w0.heap.size + 1]? = some (.cells #[.slice none 0 0, .int .i64 0, .slice none 0 0, .slice none 0 0] 50 (0, 0)) := by
      rw [j5.block _ (by omega) (by simp; omega), TF.block _ (by omega) (by simp; omega)]; exact hR
    obtain ⟨b0, b1, b2, b3, u0, u1, u2, u3⟩ := B4.of hRw
    have HR := Lib.hid hrow; clear hrow hR
    have TR : Tch [w0.heap.size + 1] w1 ((((w1.setCell ⟨w0.heap.size + 1, 0, none⟩ (.slice ap ps.length cp)).setCell ⟨w0.heap.size + 1, 1, none⟩ (.int .i64 rs)).setCell ⟨w0.heap.size + 1, 2, none⟩ (.slice al ls.length cl)).setCell ⟨w0.heap.size + 1, 3, none⟩ (.slice ao c.length cap)) := (((((Tch.refl [w0.heap.size + 1] w1).setCell (.inl (by simp)) _).setCell (.inl (by simp)) _).setCell (.inl (by simp)) _).setCell (.inl (by simp)) _)
    go_wp2_with (first | (refine wpList_load_agg rfl 50 (.tmp 3) rfl ⟨g, 0, none⟩ rfl #[.slice ap ps.length cp, .int .i64 rs, .slice al ls.length cl, .slice ao c.length cap] _ hX Tryz.underlying50 rfl (by kernel_rfl) ?_) | fail)
    refine bodyPost_ret (v := .agg #[.slice ap ps.length cp, .int .i64 rs, .slice al ls.length cl, .slice ao c.length cap]) (by simp [results, Tryz.results54, go_sem, b0, b1, b2, b3, u0, u1, u2, u3]) rfl ?_
    have hs1 := j5.size
    have jR : RCode w1 ((w0.heap.size + 1) :: p :: q :: M) (.slice ao c.length cap) c := src_of_owns hown _ (fun k hk hx => by
      have hr := HR.out
      rw [hk] at hr hne
      simp at hr hne
      rcases j4 with j4 | j4
      · omega
      · simp at hx
        rcases hx with hx | hx | hx | hx
        · omega
        · omega
        · omega
        · have := hM0 k hx; omega)
    have I1' : RInts w1 ((w0.heap.size + 1) :: p :: q :: M) (.slice ap ps.length cp) ps := (RInts.tch I1 j5 (fun i hi _ => by simp at hi ⊢; rcases hi with hi | hi | hi <;> simp [hi])).mono (fun i hi _ => by simp at hi ⊢; rcases hi with hi | hi | hi | hi <;> simp [hi])
    have I2' : RInts w1 ((w0.heap.size + 1) :: p :: q :: M) (.slice al ls.length cl) ls := (RInts.tch I2 j5 (fun i hi _ => by simp at hi ⊢; rcases hi with hi | hi | hi <;> simp [hi])).mono (fun i hi _ => by simp at hi ⊢; rcases hi with hi | hi | hi | hi <;> simp [hi])
    have sub : ∀ i ∈ p :: q :: M, i < w1.heap.size → i ∈ (w0.heap.size + 1) :: p :: q :: M := fun i hi _ => List.mem_cons_of_mem _ hi
    have inR : ∀ i ∈ [w0.heap.size + 1], i < w1.heap.size → i ∈ (w0.heap.size + 1) :: p :: q :: M := fun i hi _ => by simp at hi; simp [hi]
    refine ⟨⟨ps, rs, ls, c⟩, _, _, _, st4, rfl, ?_, Got.bind G1 (Got.bind G2 (Got.bind G3 (Got.bind G4 (Got.ret _ _)))), hps, hls, hcl, ?_, ?_⟩
    · exact RMth.mono (L := (w0.heap.size + 1) :: p :: q :: M) ⟨_, _, _, rfl, RInts.tch I1' TR inR, RInts.tch I2' TR inR, RCode.tch jR TR inR⟩ (fun i hi _ => List.mem_cons_of_mem _ hi)
    · exact (j1.tch TR (by simp; omega) (by simp; omega) (fun i hi _ => by simp at hi; simp [hi])).mono (fun i hi _ => by simp [hi])
    · exact ((((tw.nil (L := [p, q])).trans TF (fun _ _ x => x) (fun i hlt hi => by simp at hi ⊢; omega))).trans j5 (fun _ _ x => x) (fun i hlt hi => by simp at hi ⊢; omega)).trans TR (fun _ _ x => x) (fun i hlt hi => by simp at hi; omega)
end Go.Proofs.YtapephelfijcbaaGreatDoor
